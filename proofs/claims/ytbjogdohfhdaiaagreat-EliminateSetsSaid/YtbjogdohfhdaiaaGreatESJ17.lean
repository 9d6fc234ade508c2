/-
 The plain machine's values and memory, and the world's: what stands for what. Conditions: none.
-/
import Derived.Test.YtbjogdohfhdaiaaGreatESJ16
import Derived.RangeFuncLeaves
set_option linter.unusedSimpArgs false
set_option linter.unusedVariables false
namespace Go.Mx
open Go Go.RowKit
abbrev Io:=Nat→Option (Nat×Nat×Nat)
inductive VRel (ι:Io):V→Value→Prop
 | lit (v:Value):VRel ι (.lit v) v
 | ptr (β o b s sz:Nat):ι β=some (b,s,sz)→VRel ι (.ptr β o) (.pointer (some ⟨b,s+o,none⟩))
 | sl (β o n len:Nat) (cap:Option Nat) (b s sz cap':Nat):ι β=some (b,s,sz)→s+o+cap' * n≤sz→len≤cap'→cap'<2 ^ 63→0<n→(∀ c,cap=some c→c=cap')→(cap=none→sz≤s+o+cap' * n)→
   VRel ι (.sl β o n len cap) (.slice (some ⟨b,s+o,none⟩) len cap')
 | sl0 (β o n:Nat) (cap:Option Nat) (ad:Addr):0<n→(∀ c,cap=some c→c=0)→(cap=none→∃ b s sz,ι β=some (b,s,sz)∧sz≤s+o)→VRel ι (.sl β o n 0 cap) (.slice (some ad) 0 0)
 | clo (f:Nat) (first cap:List V) (xs ys:Array Value):xs.size=first.length→ys.size=cap.length→(∀(i:Nat) x v,first[i]? = some x→xs[i]? = some v→VRel ι x v)→
   (∀(i:Nat) x v,cap[i]? = some x→ys[i]? = some v→VRel ι x v)→VRel ι (.clo f first cap) (.func (.func f) xs ys)
 | yld (l b s sz:Nat):ι l=some (b,s,sz)→VRel ι (.yld l) (.func (.yield b) #[] #[])
 | ifc (t:TypeId) (v:V) (u:Value):VRel ι v u→VRel ι (.ifc t v) (.iface t u)
 | agg (vs:List V) (arr:Array Value):arr.size=vs.length→(∀(i:Nat) x v,vs[i]? = some x→arr[i]? = some v→VRel ι x v)→(∀(i:Nat) v,arr[i]? = some v→v.oneCell'=true)→VRel ι (.agg vs) (.agg arr)
 | tup (vs:List V) (arr:Array Value):arr.size=vs.length→(∀(i:Nat) x v,vs[i]? = some x→arr[i]? = some v→VRel ι x v)→VRel ι (.tup vs) (.tuple arr)
def Io.le(ι ι':Io):Prop:=∀ β x,ι β=some x→ι' β=some x
theorem Io.le.refl(ι:Io):Io.le ι ι:=fun _ _ h=>h
theorem Io.le.trans{ι ι' ι'':Io}(h:Io.le ι ι')(h':Io.le ι' ι''):Io.le ι ι'':=fun β x hx=>h' β x (h β x hx)
theorem VRel.mono{ι ι':Io}(h:Io.le ι ι'){v:V}{u:Value}(hr:VRel ι v u):VRel ι' v u:=by
 induction hr with
 | lit v=>exact .lit v
 | ptr β o b s sz h1=>exact .ptr β o b s sz (h _ _ h1)
 | sl β o n len cap b s sz cap' h1 h2 h3 h4 h5 h6 h7=>exact .sl β o n len cap b s sz cap' (h _ _ h1) h2 h3 h4 h5 h6 h7
 | sl0 β o n cap ad h1 h2 h3=>exact .sl0 β o n cap ad h1 h2 fun hc=>by obtain⟨b,s,sz,g1,g2⟩:=h3 hc; exact⟨b,s,sz,h _ _ g1,g2⟩
 | clo f first cap xs ys h1 h2 _ _ ih1 ih2=>exact .clo f first cap xs ys h1 h2 ih1 ih2
 | yld l b s sz h1=>exact .yld l b s sz (h _ _ h1)
 | ifc t v u _ ih=>exact .ifc t v u ih
 | agg vs arr h1 _ h3 ih=>exact .agg vs arr h1 ih h3
 | tup vs arr h1 _ ih=>exact .tup vs arr h1 ih
def zeD(ι:Io)(vs:List V)(arr:Array Value):Prop:=
 arr.size=vs.length∧∀(i:Nat) x v,vs[i]? = some x→arr[i]? = some v→VRel ι x v∧v.oneCell'=true
def zfE(ι:Io)(vs:List V)(arr:Array Value):Prop:=
 arr.size=vs.length∧∀(i:Nat) x v,vs[i]? = some x→arr[i]? = some v→VRel ι x v
theorem zeD.mono{ι ι':Io}(h:Io.le ι ι'){vs:List V}{arr:Array Value}(hr:zeD ι vs arr):zeD ι' vs arr:=
 ⟨hr.1,fun i x v h1 h2=>⟨(hr.2 i x v h1 h2).1.mono h,(hr.2 i x v h1 h2).2⟩⟩
theorem zfE.mono{ι ι':Io}(h:Io.le ι ι'){vs:List V}{arr:Array Value}(hr:zfE ι vs arr):zfE ι' vs arr:=
 ⟨hr.1,fun i x v h1 h2=>(hr.2 i x v h1 h2).mono h⟩
theorem zeD.get{ι:Io}{vs:List V}{arr:Array Value}(hr:zeD ι vs arr){i:Nat}{x:V}(h:vs[i]? = some x):∃ u,arr[i]? = some u∧VRel ι x u∧u.oneCell'=true:=by
 have hi:i<arr.size:=by rw[hr.1]; exact(qab.1 h).1
 exact⟨arr[i],qaV hi,hr.2 i x _ h (qaV hi)⟩
def zfy(P:Program)(f:Nat):Bool:=match P.funcs[f]? with | some fn=>!(fn.name == "runtime.NumGoroutine") && fn.body.isSome | none=>false
def zfp:Jump→Code
 | .ret=>.ret
 | .exit id=>.exit id
def zuj(P:Program)(B:Nat)(w:World)(ι:Io)(β:Nat):Ob→Prop
 | .dead=>True
 | .blk cs=>∃ b s sz arr T fr,ι β=some (b,s,sz)∧w.heap[b]? = some (.cells arr T fr)∧arr.size=sz∧s+cs.length≤sz ∧
   (∀(k:Nat) v,cs[k]? = some v→∃ u,arr[s+k]? = some u∧VRel ι v u∧u.oneCell'=true)∧(B≤β→fr=(0,0))
 | .loop st pend env ps asg body=>∃ b s sz R,ι β=some (b,s,sz)∧w.heap[b]? = some (.loop R)∧R.state=(bif st then .ready else bif pend.isSome then .done else .busy)∧R.pending=pend.map zfp ∧
   R.tmps.size=env.length∧(∀(k:Nat) v,env[k]? = some v→VRel ι v (R.tmps.getD k undef))∧R.params.toList=ps∧comp P env.length R.assign=asg∧comp P env.length R.body=body
 | .dfr=>∃ b s sz,ι β=some (b,s,sz)∧w.heap[b]? = some (.deferred (some []))
def Ob.live:Ob→Prop
 | .dead=>False
 | _=>True
theorem zuj.mono{P:Program}{B:Nat}{w w':World}{ι ι':Io}{β:Nat}{o:Ob}(hι:Io.le ι ι')(hw:∀ b s sz,ι β=some (b,s,sz)→w'.heap[b]? = w.heap[b]?)(h:zuj P B w ι β o):zuj P B w' ι' β o:=by
 cases o with
 | dead=>trivial
 | blk cs=>
  obtain⟨b,s,sz,arr,T,fr,h1,h2,h3,h4,h5,h6⟩:=h
  exact⟨b,s,sz,arr,T,fr,hι _ _ h1,(hw _ _ _ h1).trans h2,h3,h4,fun k v hk=>by
   obtain⟨u,g1,g2,g3⟩:=h5 k v hk
   exact⟨u,g1,g2.mono hι,g3⟩,h6⟩
 | loop st pend env ps asg body=>
  obtain⟨b,s,sz,R,h1,h2,h3,h4,h5,h6,h7,h8,h9⟩:=h;exact⟨b,s,sz,R,hι _ _ h1,(hw _ _ _ h1).trans h2,h3,h4,h5,fun k v hk=>(h6 k v hk).mono hι,h7,h8,h9⟩
 | dfr=>
  obtain⟨b,s,sz,h1,h2⟩:=h;exact⟨b,s,sz,hι _ _ h1,(hw _ _ _ h1).trans h2⟩
theorem zuj.at_{P:Program}{B:Nat}{w:World}{ι:Io}{β:Nat}{o:Ob}(h:zuj P B w ι β o)(hl:o.live):∃ b s sz ob,ι β=some (b,s,sz)∧w.heap[b]? = some ob:=by
 cases o with
 | dead=>exact hl.elim
 | blk cs=>obtain⟨b,s,sz,arr,T,fr,h1,h2,_⟩:=h; exact⟨b,s,sz,_,h1,h2⟩
 | loop st pend env ps asg body=>obtain⟨b,s,sz,R,h1,h2,_⟩:=h; exact⟨b,s,sz,_,h1,h2⟩
 | dfr=>obtain⟨b,s,sz,h1,h2⟩:=h; exact⟨b,s,sz,_,h1,h2⟩
structure Sim (P:Program) (B:Nat) (w1:World) (ι:Io) (h:zaj) (w:World):Prop where
 base:B≤h.length
 below:Below w1.heap.size w1 w
 obj:∀ β o,h[β]? = some o→zuj P B w ι β o
 own:∀ β o b s sz,h[β]? = some o→o.live→B≤β→ι β=some (b,s,sz)→w1.heap.size≤b
 old:∀ β o b s sz,h[β]? = some o→o.live→β<B→ι β=some (b,s,sz)→b<w1.heap.size
 inj:∀ β β' o o' b s sz s' sz',h[β]? = some o→h[β']? = some o'→o.live→o'.live→B≤β→B≤β'→ι β=some (b,s,sz)→ι β'=some (b,s',sz')→β=β'
 scope:∀ β x,ι β=some x→β<h.length
section
variable {P:Program} {B:Nat} {w1 w w':World} {ι:Io} {h:zaj}
theorem zax{b:Nat}{o:Obj}(h:w.heap[b]? = some o):b<w.heap.size:=(qaO.1 h).1
theorem Sim.lt(hS:Sim P B w1 ι h w){β b s sz:Nat}{o:Ob}(hβ:h[β]? = some o)(hl:o.live)(hι:ι β=some (b,s,sz)):b<w.heap.size:=by
 obtain⟨b',s',sz',ob,h1,h2⟩:=(hS.obj β o hβ).at_ hl;rw[hι]at h1;cases h1;exact zax h2
theorem Sim.grown(hS:Sim P B w1 ι h w)(hg:w.grownBy w' none):Sim P B w1 ι h w' where
 base:=hS.base
 below:=hS.below.grown hg hS.below.size (by simp)
 obj β o hβ:=by
  cases hd:o with
  | dead=>trivial
  | _=>
   rw[← hd];have hl:o.live:=by rw[hd]; trivial
   exact(hS.obj β o hβ).mono (Io.le.refl _) fun b s sz hb=>hg.block b (hS.lt hβ hl hb) (by simp)
 own:=hS.own
 old:=hS.old
 inj:=hS.inj
 scope:=hS.scope
theorem Sim.kill(hS:Sim P B w1 ι h w)(β:Nat):Sim P B w1 ι (h.set β .dead) w:=by
 have key:∀(γ:Nat) (o:Ob),(h.set β .dead)[γ]? = some o→o.live→h[γ]? = some o:=by
  intro γ o hγ hl;by_cases hβ:β=γ
  ·subst hβ;by_cases hlt:β<h.length
   ·rw[qaD hlt]at hγ; cases hγ; exact hl.elim
   rw[qaN (by simp; omega)]at hγ; cases hγ
  rwa [qaq hβ]at hγ
 refine⟨by simpa using hS.base,hS.below,fun γ o hγ=>?_,fun γ o b s sz hγ hl=>hS.own γ o b s sz (key γ o hγ hl) hl,fun γ o b s sz hγ hl=>hS.old γ o b s sz (key γ o hγ hl) hl,
  fun γ γ' o o' b s sz s' sz' h1 h2 h3 h4=>hS.inj γ γ' o o' b s sz s' sz' (key γ o h1 h3) (key γ' o' h2 h4) h3 h4,fun γ x hx=>by simpa using hS.scope γ x hx⟩
 cases hd:o with
 | dead=>trivial
 | _=>rw[← hd]; exact hS.obj γ o (key γ o hγ (by rw[hd]; trivial))
def Io.ext(ι:Io)(β:Nat)(x:Nat×Nat×Nat):Io:=fun γ=>if γ=β then some x else ι γ
theorem Io.zaJ(ι:Io)(β:Nat)(x:Nat×Nat×Nat):ι.ext β x β=some x:=by simp[Io.ext]
theorem Sim.zcD(hS:Sim P B w1 ι h w)(x:Nat×Nat×Nat):Io.le ι (ι.ext h.length x):=fun β y hy=>by
 have:=hS.scope β y hy;simp only[Io.ext];rw[if_neg (by omega)]; exact hy
theorem Sim.zsm(hS:Sim P B w1 ι h w){b s sz:Nat}{o:Ob}(hg:w.grownBy w' (some b))(hb:w1.heap.size≤b)(hfree:∀ β o b' s sz,h[β]? = some o→o.live→B≤β→ι β=some (b',s,sz)→b'≠b)
  (hob:zuj P B w' (ι.ext h.length (b,s,sz)) h.length o):Sim P B w1 (ι.ext h.length (b,s,sz)) (h ++ [o]) w':=by
 have hle:=hS.zcD (b,s,sz);have hold:∀ γ,γ<h.length→(ι.ext h.length (b,s,sz)) γ=ι γ:=fun γ hγ=>by simp only[Io.ext]; rw[if_neg (by omega)]
 have key:∀ γ p,(h ++ [o])[γ]? = some p→(γ<h.length∧h[γ]? = some p)∨(γ=h.length∧p=o):=by
  intro γ p hγ;by_cases hlt:γ<h.length
  ·rw[qal hlt]at hγ; exact .inl ⟨hlt,hγ⟩
  rw[qax (by omega)]at hγ;have:γ - h.length=0:=by
   rcases qcD (γ - h.length)with h0 | h0
   ·exact h0
   rw[qaN (by simp; omega)]at hγ; cases hγ
  rw[this]at hγ;simp at hγ;exact .inr ⟨by omega,hγ.symm⟩
 refine⟨by have:=hS.base; simp; omega,hS.below.grown hg hS.below.size (fun k hk=>by cases hk; exact hb),?_,?_,?_,?_,?_⟩
 ·intro γ p hγ;rcases key γ p hγ with⟨hlt,hp⟩| ⟨rfl,rfl⟩
  ·cases hd:p with
   | dead=>trivial
   | _=>
    rw[← hd];have hl:p.live:=by rw[hd]; trivial
    refine(hS.obj γ p hp).mono hle fun b' s' sz' hb'=>hg.block b' (hS.lt hp hl hb') ?_
    intro he;cases he;by_cases hB:B≤γ
    ·exact hfree γ p b s' sz' hp hl hB hb' rfl
    have:=hS.old γ p b s' sz' hp hl (by omega) hb'; omega
  exact hob
 ·intro γ p b' s' sz' hγ hl hB hι;rcases key γ p hγ with⟨hlt,hp⟩| ⟨rfl,rfl⟩
  ·rw[hold γ hlt]at hι; exact hS.own γ p b' s' sz' hp hl hB hι
  rw[Io.zaJ]at hι; cases hι; exact hb
 ·intro γ p b' s' sz' hγ hl hB hι;rcases key γ p hγ with⟨hlt,hp⟩| ⟨rfl,rfl⟩
  ·rw[hold γ hlt]at hι; exact hS.old γ p b' s' sz' hp hl hB hι
  have:=hS.base; omega
 ·intro γ γ' p p' b' s' sz' s'' sz'' h1 h2 h3 h4 h5 h6 h7 h8;rcases key γ p h1 with⟨hlt,hp⟩| ⟨rfl,rfl⟩
  ·rcases key γ' p' h2 with⟨hlt',hp'⟩| ⟨rfl,rfl⟩
   ·rw[hold γ hlt]at h7; rw[hold γ' hlt']at h8;exact hS.inj γ γ' p p' b' s' sz' s'' sz'' hp hp' h3 h4 h5 h6 h7 h8
   rw[hold γ hlt]at h7; rw[Io.zaJ]at h8; cases h8;exact absurd rfl (hfree γ p _ _ _ hp h3 h5 h7)
  rcases key γ' p' h2 with⟨hlt',hp'⟩| ⟨rfl,rfl⟩
  ·rw[hold γ' hlt']at h8; rw[Io.zaJ]at h7; cases h7;exact absurd rfl (hfree γ' p' _ _ _ hp' h4 h6 h8)
  rfl
 intro γ x hx;simp only[Io.ext]at hx;split at hx
 ·rename_i he; subst he; simp
 have:=hS.scope γ x hx; simp; omega
theorem Sim.change(hS:Sim P B w1 ι h w){β b s sz:Nat}{o o':Ob}(hβ:h[β]? = some o)(hl:o.live)(hB:B≤β)(hι:ι β=some (b,s,sz))(hg:w.grownBy w' (some b))
  (hob:zuj P B w' ι β o'):Sim P B w1 ι (h.set β o') w':=by
 have hlt:β<h.length:=(qab.1 hβ).1;have key:∀ γ p,(h.set β o')[γ]? = some p→(γ=β∧p=o')∨(γ≠β∧h[γ]? = some p):=by
  intro γ p hγ;by_cases hc:β=γ
  ·subst hc; rw[qaD hlt]at hγ; cases hγ; exact .inl ⟨rfl,rfl⟩
  rw[qaq hc]at hγ; exact .inr ⟨Ne.symm hc,hγ⟩
 have hsome:∀(γ:Nat) (p:Ob),(h.set β o')[γ]? = some p→p.live→∃ p':Ob,h[γ]? = some p'∧p'.live:=by
  intro γ p hγ hp;rcases key γ p hγ with⟨rfl,rfl⟩| ⟨_,h1⟩
  ·exact⟨o,hβ,hl⟩
  exact⟨p,h1,hp⟩
 have hb:=hS.own β o b s sz hβ hl hB hι;refine⟨by simpa using hS.base,hS.below.grown hg hS.below.size (fun k hk=>by cases hk; exact hb),?_,?_,?_,?_,fun γ x hx=>by simpa using hS.scope γ x hx⟩
 ·intro γ p hγ;rcases key γ p hγ with⟨rfl,rfl⟩| ⟨hne,hp⟩
  ·exact hob
  cases hd:p with
  | dead=>trivial
  | _=>
   rw[← hd];have hpl:p.live:=by rw[hd]; trivial
   refine(hS.obj γ p hp).mono (Io.le.refl _) fun b' s' sz' hb'=>hg.block b' (hS.lt hp hpl hb') ?_
   intro he;cases he;by_cases hBγ:B≤γ
   ·exact hne (hS.inj γ β p o b s' sz' s sz hp hβ hpl hl hBγ hB hb' hι)
   have:=hS.old γ p b s' sz' hp hpl (by omega) hb'; omega
 ·intro γ p b' s' sz' hγ hp;obtain⟨p',h1,h2⟩:=hsome γ p hγ hp;exact hS.own γ p' b' s' sz' h1 h2
 ·intro γ p b' s' sz' hγ hp;obtain⟨p',h1,h2⟩:=hsome γ p hγ hp;exact hS.old γ p' b' s' sz' h1 h2
 intro γ γ' p p' b' s' sz' s'' sz'' h1 h2 h3 h4;obtain⟨q,g1,g2⟩:=hsome γ p h1 h3;obtain⟨q',g3,g4⟩:=hsome γ' p' h2 h4;exact hS.inj γ γ' q q' b' s' sz' s'' sz'' g1 g3 g2 g4
def zbc(w:World)(o:Obj):World:={ w with heap:=w.heap.push o }
theorem zb0(w:World)(o:Obj)(b:Option Nat):w.grownBy (zbc w o) b:=
 ⟨rfl,rfl,rfl,by simp[zbc],fun k hk _=>by simp only[zbc,Array.getElem?_push]; rw[if_neg (by omega)]⟩
theorem zcf(w:World)(o:Obj):(zbc w o).heap[w.heap.size]? = some o:=by simp only[zbc,Array.getElem?_push_size]
theorem zaG(w:World)(o:Obj):Below w.heap.size w (zbc w o):=
 ⟨rfl,rfl,rfl,by simp[zbc],fun k hk=>by simp only[zbc,Array.getElem?_push]; rw[if_neg (by omega)]⟩
theorem Sim.alloc(hS:Sim P B w1 ι h w)(ob:Obj){o:Ob}{s sz:Nat}(hob:zuj P B (zbc w ob) (ι.ext h.length (w.heap.size,s,sz)) h.length o):
  Sim P B w1 (ι.ext h.length (w.heap.size,s,sz)) (h ++ [o]) (zbc w ob):=
 hS.zsm (zb0 w ob _) hS.below.size (fun β o' b' s' sz' h1 h2 _ h4=>by have:=hS.lt h1 h2 h4; omega) hob
theorem Sim.zhA(hS:Sim P B w1 ι h w){cs:List V}{arr:Array Value}{T:TypeId}(hL:zeD ι cs arr):
  Sim P B w1 (ι.ext h.length (w.heap.size,0,arr.size)) (h ++ [.blk cs]) (zbc w (.cells arr T (0,0))):=
 hS.alloc _ ⟨w.heap.size,0,arr.size,arr,T,(0,0),Io.zaJ _ _ _,zcf _ _,rfl,by rw[hL.1]; omega,fun k v hk=>by
  obtain⟨u,h1,h2,h3⟩:=hL.get hk
  exact⟨u,by rw[qaP]; exact h1,h2.mono (hS.zcD _),h3⟩,fun _=>rfl⟩
def zfW(w:World)(b:Nat)(o:Obj):World:={ w with heap:=w.heap.setIfInBounds b o }
theorem zbE(w:World)(b:Nat)(o:Obj):w.grownBy (zfW w b o) (some b):=
 ⟨rfl,rfl,rfl,by simp[zfW],fun k _ hne=>by simp only[zfW]; rw[qaX (by intro he; exact hne (by rw[he]))]⟩
theorem zc3{b:Nat}(o:Obj)(hb:b<w.heap.size):(zfW w b o).heap[b]? = some o:=by simp[zfW,hb]
theorem zcc{β:Nat}{cs:List V}(h0:zaq h β=some cs):h[β]? = some (.blk cs):=by
 unfold zaq at h0;split at h0
 ·rename_i h1; cases h0; exact h1
 cases h0
end
inductive DfRel (ι:Io):Df→Deferred→Prop
 | coll (d b s sz:Nat):ι d=some (b,s,sz)→DfRel ι (.coll d) { target:=.collected b,args:=#[] }
 | fn (f:Nat) (args:List V) (xs ys:Array Value):zfE ι args (xs ++ ys)→DfRel ι (.fn f args) { target:=.fn (.func f) ys,args:=xs }
inductive DfsRel (ι:Io):List Df→List Deferred→Prop
 | nil:DfsRel ι [] []
 | cons {d:Df} {e:Deferred} {ds:List Df} {es:List Deferred}:DfRel ι d e→DfsRel ι ds es→DfsRel ι (d :: ds) (e :: es)
theorem DfsRel.mono{ι ι':Io}(h:Io.le ι ι'){ds:List Df}{es:List Deferred}(hr:DfsRel ι ds es):DfsRel ι' ds es:=by
 induction hr with
 | nil=>exact .nil
 | cons h1 _ ih=>
  refine .cons ?_ ih;cases h1 with
  | coll d b s sz h2=>exact .coll d b s sz (h _ _ h2)
  | fn f args xs ys h2=>exact .fn f args xs ys (h2.mono h)
def zbR(ι:Io)(N:Nat)(env:List V)(a:Act):Prop:=a.tmps.size=N∧env.length=N∧∀(k:Nat) v,env[k]? = some v→VRel ι v (a.tmps.getD k undef)
theorem zbR.mono{ι ι':Io}(h:Io.le ι ι'){N:Nat}{env:List V}{a:Act}(hr:zbR ι N env a):zbR ι' N env a:=⟨hr.1,hr.2.1,fun k v hk=>(hr.2.2 k v hk).mono h⟩
theorem zbR.put{ι:Io}{N:Nat}{env:List V}{a:Act}(hr:zbR ι N env a){d:Nat}{v:V}{u:Value}(hv:VRel ι v u):zbR ι N (env.set d v) (a.put (some d) u):=by
 refine⟨by simp[Act.put,hr.1],by simp[hr.2.1],fun k x hk=>?_⟩;by_cases hkd:d=k
 ·subst hkd;have hd:d<env.length:=by
   have:=(qab.1 hk).1;simpa using this
  have hd':d<a.tmps.size:=by rw[hr.1,← hr.2.1]; exact hd
  rw[qaD hd]at hk;cases hk;simp[Act.put,hd',hv]
 rw[qaq hkd]at hk;have:=hr.2.2 k x hk;simp only[Act.put,qcG]at this ⊢;rw[qaX hkd];exact this
structure FSim (P:Program) (N B:Nat) (w1:World) (ι:Io) (S:St) (a:Act) (w:World):Prop where
 sim:Sim P B w1 ι S.heap w
 env:zbR ι N S.env a
 dfs:DfsRel ι S.dfs a.defers
section
variable {P:Program} {B N:Nat} {w1 w:World} {ι:Io} {h:zaj} {env:List V} {a:Act}
theorem VRel.zbY{v u:Value}(hr:VRel ι (.lit v) u):u=v:=by cases hr; rfl
theorem zad(hE:zbR ι N env a){x:Operand}{v:V}(hx:ev env (opX x)=some v):VRel ι v (a.eval x):=by
 cases x with
 | tmp k=>exact hE.2.2 k v hx
 | const c=>simp only[opX,ev,qad]at hx; subst hx; exact .lit _
 | global g=>simp only[opX,ev,qad]at hx; subst hx; exact .lit _
 | func f=>simp only[opX,ev,qad]at hx; subst hx; exact .clo f [] [] #[] #[] rfl rfl (by simp) (by simp)
theorem zce(hE:zbR ι N env a){x:Operand}{m:Int}(hx:evI env (opX x)=some m):∃ k,a.eval x=.int k m:=by
 unfold evI at hx;split at hx
 ·rename_i k n h1;cases hx;exact⟨k,(zad hE h1).zbY⟩
 cases hx
theorem zdf(hE:zbR ι N env a){x:Operand}{m:Bool}(hx:evB env (opX x)=some m):a.eval x=.bool m:=by
 unfold evB at hx;split at hx
 ·rename_i n h1;cases hx;exact(zad hE h1).zbY
 cases hx
theorem zbZ(hE:zbR ι N env a):∀(xs:List Operand) {vs:List V},evs env (xs.map opX)=some vs→vs.length=xs.length∧∀(i:Nat) x v,xs[i]? = some x→vs[i]? = some v→VRel ι v (a.eval x)
 | [],vs,hx=>by simp[evs]at hx; subst hx; simp
 | x :: xs,vs,hx=>by
  simp only[qaL,evs]at hx;split at hx
  ·rename_i v1 vs1 h1 h2;cases hx;obtain⟨h3,h4⟩:=zbZ hE xs h2;refine⟨by simp[h3],fun i y v hy hv=>?_⟩;cases i with
   | zero=>simp at hy hv; subst hy; subst hv; exact zad hE h1
   | succ i=>exact h4 i y v (by simpa using hy) (by simpa using hv)
  cases hx
theorem zfn(hE:zbR ι N env a){xs:Array Operand}{vs:List V}(hx:evs env (xs.toList.map opX)=some vs):zfE ι vs (xs.map a.eval):=by
 obtain⟨h1,h2⟩:=zbZ hE _ hx;refine⟨by simpa using h1.symm,fun i x v hx hv=>?_⟩;simp only[Array.getElem?_map,qak]at hv;obtain⟨y,hy,rfl⟩:=hv;exact h2 i y x (by simpa using hy) hx
theorem zpR(hE:zbR ι N env a){x:Option Operand}{m:Option Int}(hx:zpQ env (x.map opX)=some m):
  (x=none∧m=none)∨∃ y n k,x=some y∧m=some n∧a.eval y=.int k n:=by
 cases x with
 | none=>simp[zpQ]at hx; exact .inl ⟨rfl,hx.symm⟩
 | some y=>
  simp only[qaU,zpQ,qak]at hx;obtain⟨n,h1,rfl⟩:=hx;obtain⟨k,hk⟩:=zce hE h1;exact .inr ⟨y,n,k,rfl,rfl,hk⟩
def zyd:Value→Option Nat
 | .pointer (some ad)=>some ad.block
 | _=>none
def ldB(a:Act)(o:Oper):Option Nat:=match o.op with | .load _ x=>zyd (a.eval x)| _=>none
def QOk(P:Program)(ι:Io)(a:Act)(w:World)(o:Oper)(v:V):Prop:=
 ∃ u,(∀ w',(∀ b,ldB a o=some b→w'.heap[b]? = w.heap[b]?)→(execOp a.eval o).run P w'=.ok (.value u) w')∧VRel ι v u
theorem zae{t:TypeId}{d:TypeDesc}(h:P.underlying t=some d)(w:World):(underlying t).run P w=.ok d w:=by
 simp[underlying,h]
theorem zer{t:TypeId}{d:TypeInfo}(h:P.info? t=some d)(w:World):(typeInfo t).run P w=.ok d w:=by
 simp[typeInfo,h]
theorem zaB{t:TypeId}(h:(P.info? t).isSome=true)(w:World):(sizeOf t).run P w=.ok (P.cellsOf t) w:=by
 obtain⟨i,hi⟩:=qa1.1 h;simp[sizeOf,typeInfo,hi,Program.cellsOf]
theorem zgP{t:TypeId}(h:zcy P t=true)(w:World):(isAgg t).run P w=.ok (zeB P t) w:=by
 simp only[zcy,qaf]at h;obtain⟨d,hd⟩:=qa1.1 h.2;unfold isAgg zeB;simp only[Sem.run_bind,zae hd,Result.andThen_ok,hd];cases d<;>rfl
theorem za4{t:TypeId}{v:Value}(h:(P.info? t).bind (·.zero)=some v)(w:World):(zeroValue t).run P w=.ok v w:=by
 cases hi:P.info? t with
 | none=>simp[hi]at h
 | some i=>
  simp only[hi,qaa]at h;simp[zeroValue,typeInfo,hi,h]
theorem zc7{b off:Nat}{arr:Array Value}{T:TypeId}{fr:Nat×Nat}{v:Value}{w':World}(h:w'.heap[b]? = some (.cells arr T fr))(hv:arr[off]? = some v):w'.cell? ⟨b,off,none⟩=some v:=by
 simp[World.cell?,h,hv]
theorem zc8(b off n:Nat):(Addr.mk b off none).add n=⟨b,off+n,none⟩:=by
 unfold Addr.add; split
 ·subst_vars; rfl
 rfl
theorem zjE{t:TypeId}(ht:zcy P t=true){b off:Nat}{w':World}(cs:List Value)
  (hn:zeB P t=true→cs.length=P.cellsOf t) (h1:zeB P t=false→cs.length=1)
  (hc:∀(j:Nat) v,cs[j]? = some v→w'.cell? ⟨b,off+j,none⟩=some v):
  (loadVar t ⟨b,off,none⟩).run P w'=.ok (bif zeB P t then .agg cs.toArray else cs.headD undef) w':=by
 unfold loadVar;simp only[Sem.run_bind,zgP ht,Result.andThen_ok];have ht':=ht;simp only[zcy,qaf]at ht';cases hb:zeB P t with
 | true=>
  simp only[if_true,Sem.run_bind,zaB ht'.1,Result.andThen_ok,cond_true];rw[← hn hb,run_loadCells_list]
  ·simp
  ·intro j v hj; rw[zc8]; exact hc j v hj
 | false=>
  simp only[qaM,if_false,cond_false]
  match cs,h1 hb with
  | [v],_=>
   have:=hc 0 v rfl;simp only[qbt]at this;simp[this]
theorem zjX{o n:Nat}{cs l:List V}(hs:slot o n cs=some l):o+n≤cs.length∧l.length=n∧∀ k,k<n→l[k]? = cs[o+k]?:=by
 unfold slot at hs;cases hb:Nat.ble (o+n) cs.length with
 | false=>simp only[hb,cond_false]at hs; cases hs
 | true=>
  simp only[hb,cond_true,qad]at hs;have hle:=qai hb;subst hs;refine⟨hle,by simp; omega,fun k hk=>?_⟩;rw[qau,if_pos hk,qay]
theorem zcs{t:TypeId}(ht:zcy P t=true){cs:List V}{o:Nat}{v:V}(hv:takeN cs o (zmV P t)=some v){b s:Nat}
  (hc:∀(k:Nat) x,cs[k]? = some x→∃ u,VRel ι x u∧u.oneCell'=true∧∀ w':World,(w'.heap[b]? = w.heap[b]?)→w'.cell? ⟨b,s+k,none⟩=some u):
  ∃ u,VRel ι v u∧∀ w':World,(w'.heap[b]? = w.heap[b]?)→(loadVar t ⟨b,s+o,none⟩).run P w'=.ok u w':=by
 cases hb:zeB P t with
 | true=>
  simp only[zmV,hb,cond_true,takeN,qak]at hv;obtain⟨l,hl,rfl⟩:=hv;obtain⟨h1,h2,h3⟩:=zjX hl;have hex:∀ k,k<P.cellsOf t→∃ u,∃ x,l[k]? = some x∧VRel ι x u∧u.oneCell'=true∧∀ w':World,(w'.heap[b]? = w.heap[b]?)→w'.cell? ⟨b,s+(o+k),none⟩=some u:=by
   intro k hk;have hk':k<l.length:=by omega
   obtain⟨u,g⟩:=hc (o+k) l[k] (by rw[← h3 k hk]; exact qac hk');exact⟨u,l[k],qac hk',g⟩
  let us:List Value:=(List.range (P.cellsOf t)).map fun k=>if hk:k<P.cellsOf t then(hex k hk).choose else undef
  have hus:∀(k:Nat) u,us[k]? = some u→∃ x,l[k]? = some x∧VRel ι x u∧u.oneCell'=true∧∀ w':World,(w'.heap[b]? = w.heap[b]?)→w'.cell? ⟨b,s+(o+k),none⟩=some u:=by
   intro k u hu;simp only[us,qaT,qak]at hu;obtain⟨k',hk',rfl⟩:=hu;have hlt:k<P.cellsOf t:=by have:=(qab.1 hk').1; simpa using this
   rw[qcQ hlt]at hk';cases hk';rw[dif_pos hlt];exact(hex k hlt).choose_spec
  have hlen:us.length=P.cellsOf t:=by simp[us]
  refine⟨.agg us.toArray,.agg _ _ (by simp[hlen,h2]) (fun i x u hx hu=>?_) (fun i u hu=>?_),fun w' hw'=>?_⟩
  ·obtain⟨x',g1,g2,_⟩:=hus i u (by simpa using hu);rw[hx]at g1; cases g1; exact g2
  ·obtain⟨x',_,_,g3,_⟩:=hus i u (by simpa using hu);exact g3
  ·have:=zjE (P:=P) ht (b:=b) (off:=s+o) (w':=w') us (fun _=>hlen) (fun h0=>by rw[hb]at h0; cases h0) (fun j u hu=>by
    obtain⟨_,_,_,_,g4⟩:=hus j u hu
    rw[qbp]; exact g4 w' hw')
   rw[this,hb]; rfl
 | false=>
  simp only[zmV,hb,cond_false,takeN]at hv;obtain⟨u,g1,g2,g3⟩:=hc o v hv;refine⟨u,g1,fun w' hw'=>?_⟩
  have:=zjE (P:=P) ht (b:=b) (off:=s+o) (w':=w') [u] (fun h0=>by rw[hb]at h0; cases h0) (fun _=>rfl) (fun j u' hu=>by
   cases j with
   | zero=>simp at hu; subst hu; exact g3 w' hw'
   | succ j=>simp at hu)
  rw[this,hb]; rfl
theorem Sim.cells(hS:Sim P B w1 ι h w){β:Nat}{cs:List V}(hβ:zaq h β=some cs):∃ b s sz arr T fr,ι β=some (b,s,sz)∧w.heap[b]? = some (.cells arr T fr)∧arr.size=sz∧s+cs.length≤sz ∧
  (∀(k:Nat) v,cs[k]? = some v→∃ u,arr[s+k]? = some u∧VRel ι v u∧u.oneCell'=true)∧(B≤β→fr=(0,0)):=hS.obj β _ (zcc hβ)
theorem Sim.cellAt(hS:Sim P B w1 ι h w){β b s sz:Nat}{cs:List V}(hβ:zaq h β=some cs)(hι:ι β=some (b,s,sz))(k:Nat)(x:V)(hk:cs[k]? = some x):
  ∃ u,VRel ι x u∧u.oneCell'=true∧∀ w':World,(w'.heap[b]? = w.heap[b]?)→w'.cell? ⟨b,s+k,none⟩=some u:=by
 obtain⟨b',s',sz',arr,T,fr,h1,h2,h3,h4,h5,h6⟩:=hS.cells hβ;rw[hι]at h1; cases h1;obtain⟨u,g1,g2,g3⟩:=h5 k x hk;exact⟨u,g2,g3,fun w' hw'=>zc7 (hw'.trans h2) g1⟩
theorem zzg(hS:Sim P B w1 ι h w)(hE:zbR ι N env a){o:Oper}{t:TypeId}{x:Operand}(ho:o.op=.load t x)(ht:zcy P t=true){v:V}
  (hq:q h env (.load (zmV P t) (opX x))=some v):QOk P ι a w o v:=by
 simp only[q]at hq;split at hq
 ·rename_i β off h1;obtain⟨cs,h2,h3⟩:=qaY.1 hq;have hx:=zad hE h1;generalize hu0:a.eval x=u0 at hx;cases hx with
  | ptr _ _ b s sz hι=>
   obtain⟨u,g1,g2⟩:=zcs (P:=P) (w:=w) ht h3 (fun k x hk=>hS.cellAt h2 hι k x hk);refine⟨u,fun w' hw'=>?_,g1⟩;simp[execOp,ho,Instr.loadAt,Instr.sureAddr,hu0,g2 w' (hw' b (by simp[ldB,ho,zyd,hu0]))]
 cases hq
theorem zAG(hE:zbR ι N env a){o:Oper}{s:TypeId}{x:Operand}{f:Nat}(ho:o.op=.fieldAddr s x f){fs:Array Field}(hs:P.underlying s=some (.struct fs)){fd:Field}(hf:fs[f]? = some fd)
  (ht:zcy P fd.type=true) (hn:(P.cellsOf fd.type == 0)=false) {v:V} (hq:q h env (.fld fd.offset (opX x))=some v):QOk P ι a w o v:=by
 simp only[zcy,qaf]at ht;have hne:¬ P.cellsOf fd.type=0:=by simpa using hn
 simp only[q]at hq;split at hq
 ·rename_i β off h1;cases hq;have hx:=zad hE h1;generalize hu0:a.eval x=u0 at hx;cases hx with
  | ptr _ _ b s' sz hι=>
   refine⟨_,fun w' _=>?_,.ptr β (off+fd.offset) b s' sz hι⟩;simp[execOp,ho,Instr.fieldAt,zae hs,hf,Instr.sureAddr,hu0,fieldPlace,zaB ht.1,hne,zc8,qbp]
 cases hq
theorem zzr(hE:zbR ι N env a){o:Oper}{t el:TypeId}{x y:Operand}(ho:o.op=.indexAddr t x y)(hs:P.underlying t=some (.slice el))(ht:zcy P el=true){v:V}
  (hq:q h env (.idxS (P.cellsOf el) (opX x) (opX y))=some v):QOk P ι a w o v:=by
 simp only[zcy,qaf]at ht;simp only[q]at hq;split at hq
 ·rename_i β off n' len cap m h1 h2;cases hb:(P.cellsOf el == n') && decide (0≤m) && decide (m<len)with
  | false=>simp only[hb,cond_false]at hq; cases hq
  | true=>
   simp only[hb,cond_true,qad]at hq;subst hq;simp only[qaf,beq_iff_eq,decide_eq_true_eq]at hb;obtain⟨⟨hn,h0⟩,hm⟩:=hb;have hx:=zad hE h1;obtain⟨k,hy⟩:=zce hE h2;generalize hu0:a.eval x=u0 at hx;cases hx with
   | sl _ _ _ _ _ b s sz cap' hι _ _ _ _ _ _=>
    refine⟨_,fun w' _=>?_,.ptr β _ b s sz hι⟩;simp[execOp,ho,Instr.indexAt,hy,asIntOf,zae hs,hu0,h0,hm,zaB ht.1,zc8,qbp]
   | sl0=>simp at hm; omega
 cases hq
theorem zza(hE:zbR ι N env a){o:Oper}{t el:TypeId}{x y:Operand}{cnt:Nat}(ho:o.op=.indexAddr t x y)(hs:P.underlying t=some (.array cnt el))(ht:zcy P el=true){v:V}
  (hq:q h env (.idxA (P.cellsOf el) cnt (opX x) (opX y))=some v):QOk P ι a w o v:=by
 simp only[zcy,qaf]at ht;simp only[q]at hq;split at hq
 ·rename_i β off m h1 h2;cases hb:decide (0≤m) && decide (m<cnt)with
  | false=>simp only[hb,cond_false]at hq; cases hq
  | true=>
   simp only[hb,cond_true,qad]at hq;subst hq;simp only[qaf,decide_eq_true_eq]at hb;obtain⟨h0,hm⟩:=hb;have hx:=zad hE h1;obtain⟨k,hy⟩:=zce hE h2;generalize hu0:a.eval x=u0 at hx;cases hx with
   | ptr _ _ b s sz hι=>
    refine⟨_,fun w' _=>?_,.ptr β _ b s sz hι⟩;simp[execOp,ho,Instr.indexAt,hy,asIntOf,zae hs,hu0,Instr.sureAddr,h0,hm,zaB ht.1,zc8,qbp]
 cases hq
theorem zjw{t:TypeId}(ht:zcy P t=true){vs:List V}{o:Nat}{v:V}(hv:takeN vs o (zmV P t)=some v){arr:Array Value}(hr:VRel ι (.agg vs) (.agg arr)):
  ∃ u,VRel ι v u∧∀ w',(part t arr o).run P w'=.ok u w':=by
 have ht':=ht;simp only[zcy,qaf]at ht';cases hr with
 | agg _ _ hsz hc hone=>
 cases hb:zeB P t with
 | true=>
  simp only[zmV,hb,cond_true,takeN,qak]at hv;obtain⟨l,hl,rfl⟩:=hv;obtain⟨h1,h2,h3⟩:=zjX hl;refine⟨.agg (arr.extract o (o+P.cellsOf t)),.agg _ _ (by simp[h2,hsz]; omega) (fun i x u hx hu=>?_) (fun i u hu=>?_),fun w'=>?_⟩
  ·rw[Array.getElem?_extract]at hu;have hi:i<P.cellsOf t:=by rw[← h2]; exact(qab.1 hx).1
   rw[h3 i hi]at hx;split at hu
   ·exact hc _ x u hx hu
   cases hu
  ·rw[Array.getElem?_extract]at hu;split at hu
   ·exact hone _ u hu
   cases hu
  ·simp[part,zgP ht,hb,zaB ht'.1]
 | false=>
  simp only[zmV,hb,cond_false,takeN]at hv;have hlt:o<arr.size:=by rw[hsz]; exact(qab.1 hv).1
  refine⟨arr[o],hc o v _ hv (qaV hlt),fun w'=>?_⟩;simp[part,zgP ht,hb,qaV hlt]
theorem zym(hE:zbR ι N env a){o:Oper}{t el:TypeId}{x y:Operand}{cnt:Nat}(ho:o.op=.index t x y)(hs:P.underlying t=some (.array cnt el))(ht:zcy P el=true)(h1:zeB P el=false→P.cellsOf el=1){v:V}
  (hq:q h env (.idxV (zmV P el) cnt (opX x) (opX y))=some v):QOk P ι a w o v:=by
 have ht':=ht;simp only[zcy,qaf]at ht';simp only[q]at hq;split at hq
 ·rename_i vs m hx1 hy1;cases hb:decide (0≤m) && decide (m<cnt)with
  | false=>simp only[hb,cond_false]at hq; cases hq
  | true=>
   simp only[hb,cond_true]at hq;simp only[qaf,decide_eq_true_eq]at hb;obtain⟨h0,hm⟩:=hb;have hx:=zad hE hx1;obtain⟨k,hy⟩:=zce hE hy1;generalize hu0:a.eval x=u0 at hx;have hn:(zmV P el).getD 1=P.cellsOf el:=by
    unfold zmV;cases hg:zeB P el with
    | true=>rfl
    | false=>simp[h1 hg]
   rw[hn]at hq;cases u0 with
   | agg arr=>
    obtain⟨u,g1,g2⟩:=zjw ht hq hx;refine⟨u,fun w' _=>?_,g1⟩;simp[execOp,ho,Instr.index,hy,asIntOf,zae hs,hu0,h0,hm,zaB ht'.1,g2]
   | _=>cases hx
 cases hq
theorem zAk(hE:zbR ι N env a){o:Oper}{t:TypeId}{s:ByteArray}{y:Operand}(ho:o.op=.index t (.const (.string s)) y)(hs:P.underlying t=some .string){v:V}
  (hq:q h env (.chr (s.data.toList.map (·.toNat)) (opX y))=some v):QOk P ι a w o v:=by
 simp only[q]at hq;split at hq
 ·rename_i m hy1;obtain⟨k,hy⟩:=zce hE hy1;cases h0:decide (0≤m)with
  | false=>simp only[h0,cond_false]at hq; cases hq
  | true=>
   simp only[h0,cond_true,qak,qaT]at hq;obtain⟨b,⟨c,hc,rfl⟩,rfl⟩:=hq;have hm:=of_decide_eq_true h0;have hg:s[m.toNat]? = some c:=by
    have h1:=(qab.1 hc);obtain⟨h2,h3⟩:=h1;have hsz:m.toNat<s.size:=by simpa using h2
    rw[getElem?_pos s m.toNat hsz];rw[← h3];rfl
   refine⟨.int .u8 c.toNat,fun w' _=>?_,.lit _⟩;have hx0:a.eval (.const (.string s))=.string s:=rfl;simp[execOp,ho,hx0,Instr.index,hy,asIntOf,zae hs,hm,hg]
 cases hq
theorem zyW(hE:zbR ι N env a){o:Oper}{s:TypeId}{x:Operand}{f:Nat}(ho:o.op=.field s x f){fs:Array Field}(hs:P.underlying s=some (.struct fs)){fd:Field}(hf:fs[f]? = some fd)
  (ht:zcy P fd.type=true) {v:V} (hq:q h env (.part (zmV P fd.type) fd.offset (opX x))=some v):QOk P ι a w o v:=by
 simp only[q]at hq;split at hq
 ·rename_i vs hx1;have hx:=zad hE hx1;generalize hu0:a.eval x=u0 at hx;cases u0 with
  | agg arr=>
   obtain⟨u,g1,g2⟩:=zjw ht hq hx;refine⟨u,fun w' _=>?_,g1⟩;simp[execOp,ho,Instr.field,zae hs,hf,hu0,asAgg,g2]
  | _=>cases hx
 cases hq
theorem zkE{op:BinOp}{t:TypeId}{k k':IntKind}{m n:Int}{v:V}(hb:zlm op (.lit (.int k m)) (.lit (.int k' n))=some v):
  ∃ u,v=.lit u∧∀ w:World,(binOp op t (.int k m) (.int k' n)).run P w=.ok u w:=by
 unfold zlm at hb;cases op<;>simp only[]at hb
 case shl=>
  cases hn:decide (0≤n)with
  | false=>simp only[hn,cond_false]at hb; cases hb
  | true=>
   simp only[hn,cond_true,qad]at hb;subst hb;simp only[decide_eq_true_eq]at hn;refine⟨_,rfl,fun w=>?_⟩;have:¬ n<0:=by omega
   simp[binOp,Op.shift,this]
 case shr=>
  cases hn:decide (0≤n)with
  | false=>simp only[hn,cond_false]at hb; cases hb
  | true=>
   simp only[hn,cond_true,qad]at hb;subst hb;simp only[decide_eq_true_eq]at hn;refine⟨_,rfl,fun w=>?_⟩;have:¬ n<0:=by omega
   simp[binOp,Op.shift,this]
 all_goals
  cases hk:(k == k')with
  | false=>simp only[hk,cond_false]at hb; cases hb
  | true=>
   simp only[hk,cond_true]at hb;have hk':k=k':=by simpa using hk
   subst hk';simp only[za2]at hb;first
    |(simp only[qaU,qad]at hb
      subst hb;refine⟨_,rfl,fun w=>?_⟩
      simp[binOp,Op.intArith,Op.intDiv,Op.intBits,Op.intCmp]; done)
    |(cases hn:(n == 0)with
      | true=>simp only[hn,cond_true,qdh]at hb; cases hb
      | false=>
       simp only[hn,cond_false,qaU,qad]at hb;subst hb;refine⟨_,rfl,fun w=>?_⟩;have:¬ n=0:=by simpa using hn
       simp[binOp,Op.intArith,Op.intDiv,Op.intBits,Op.intCmp,this])
theorem zit{op:BinOp}{t:TypeId}{x y:Operand}{k k':IntKind}{m n:Int}(w:World):(eqGuard op t x y (.int k m) (.int k' n)).run P w=.ok () w:=by
 unfold eqGuard;split<;>rfl
theorem zuH{op:BinOp}{x y r:V}(hb:zlm op x y=some r):∃ k m k' n,x=.lit (.int k m)∧y=.lit (.int k' n):=by
 unfold zlm at hb;split at hb
 ·exact⟨_,_,_,_,rfl,rfl⟩
 cases hb
theorem zAu(hE:zbR ι N env a){o:Oper}{op:BinOp}{t ty:TypeId}{x y:Operand}(ho:o.op=.binOp op t x y ty){v:V}(hq:q h env (.bin op (opX x) (opX y))=some v):QOk P ι a w o v:=by
 simp only[q]at hq;split at hq
 ·rename_i v1 v2 h1 h1';obtain⟨k,m,k',n,rfl,rfl⟩:=zuH hq;have e1:=(zad hE h1).zbY;have e2:=(zad hE h1').zbY;obtain⟨u,rfl,hu⟩:=zkE (P:=P) (t:=t) hq;refine⟨u,fun w' _=>?_,.lit _⟩;simp[execOp,ho,e1,e2,zit,hu]
 cases hq
theorem zyS(hE:zbR ι N env a){o:Oper}{neg:Bool}{t ty:TypeId}{x y:Operand}(ho:o.op=.binOp (bif neg then .neq else .eql) t x y ty)(ht:P.underlying t=some .bool){v:V}
  (hq:q h env (.eqb neg (opX x) (opX y))=some v):QOk P ι a w o v:=by
 simp only[q]at hq;split at hq
 ·rename_i v1 v2 h1 h1';cases hq;have e1:=zdf hE h1;have e2:=zdf hE h1';refine⟨_,fun w' _=>?_,.lit _⟩;cases neg
  ·simp[execOp,ho,e1,e2,eqGuard,run_eql_bool w' t v1 v2 ht]
  simp[execOp,ho,e1,e2,eqGuard,run_neq_bool w' t v1 v2 ht]
 cases hq
theorem zpd{xs ys:Array Value}{w:World}(d:Nat):∀(fs:List Field) (o:Nat) (vs ws:List V) (b:Bool),(∀ f∈fs,f.name ≠ "_" ∧ zqM P f.type=true)→fs.map (·.offset)=List.range' o fs.length→vs.length=fs.length→ztS vs ws=some b →
  (∀(i:Nat) u,vs[i]? = some (.lit u)→xs[o+i]? = some u)→(∀(i:Nat) u,ws[i]? = some (.lit u)→ys[o+i]? = some u)→(Op.eqFields (d+1) xs ys fs).run P w=.ok b w
 | [],o,vs,ws,b,_,_,hl,hq,_,_=>by
  have hv:vs=[]:=qb9.1 hl;subst hv;cases ws with
  | nil=>cases hq; simp[Op.eqFields]
  | cons=>cases hq
 | f :: fs,o,vs,ws,b,hall,ho,hl,hq,hx,hy=>by
  cases vs with
  | nil=>simp at hl
  | cons v vs=>
  simp only[qaL,qaS,qcy,List.cons.injEq]at ho;obtain⟨ho1,ho2⟩:=ho;unfold ztS at hq;split at hq
  ·exact absurd ‹v :: vs=[]› (by simp)
  ·rename_i k x vs' k' y ws' e1;cases e1;cases hk:(k == k')with
   | false=>rw[hk]at hq; cases hq
   | true=>
   rw[hk,cond_true]at hq;have hk':k=k':=by simpa using hk
   subst hk';cases hr:ztS vs ws' with
   | none=>rw[hr]at hq; cases hq
   | some r=>
   rw[hr]at hq;simp only[qad]at hq;obtain⟨hn,ht⟩:=hall f qao;unfold zqM at ht;cases hu:P.underlying f.type with
   | none=>rw[hu]at ht; cases ht
   | some kd=>
   rw[hu]at ht;cases kd with
   | int q=>
    have hp:P.plainKey f.type=true:=by unfold Program.plainKey; rw[hu]
    have p1:=hx 0 _ (by rfl);have p2:=hy 0 _ (by rfl);rw[qbt,← ho1]at p1 p2;have ih:=zpd (w:=w) d fs (o+1) vs ws' r (fun g hg=>hall g (qaj _ hg)) ho2 (by simpa using hl) hr (fun i u h=>by rw[show o+1+i=o+(i+1) by omega]; exact hx (i+1) u (by simpa using h)) (fun i u h=>by rw[show o+1+i=o+(i+1) by omega]; exact hy (i+1) u (by simpa using h));have g1:(part f.type xs f.offset).run P w=.ok (.int k x) w:=by simp[part,isAgg,zae hu,p1]
    have g2:(part f.type ys f.offset).run P w=.ok (.int k y) w:=by simp[part,isAgg,zae hu,p2]
    simp only[Op.eqFields,hn,ne_eq,not_false_eq_true,if_true,Sem.run_bind,g1,g2,Result.andThen_ok,run_equalIn_int w d f.type k q x y hu];cases hb:(x == y)with
    | false=>rw[hb]at hq; simp[← hq]
    | true=>rw[hb]at hq; simp[← hq,ih]
   | _=>cases ht
  cases hq
theorem zzC(hE:zbR ι N env a){o:Oper}{neg:Bool}{t ty:TypeId}{x y:Operand}{fs:Array Field}(ho:o.op=.binOp (bif neg then .neq else .eql) t x y ty)(ht:P.underlying t=some (.struct fs))(hf:zp5 P t fs=true){v:V}
  (hq:q h env (.eqa fs.size neg (opX x) (opX y))=some v):QOk P ι a w o v:=by
 simp only[q]at hq;split at hq
 ·rename_i vs ws h1 h2;cases hl:(Nat.beq vs.length fs.size && Nat.beq ws.length fs.size)with
  | false=>rw[hl]at hq; cases hq
  | true=>
  rw[hl,cond_true]at hq;obtain⟨hl1,hl2⟩:=qbJ.1 hl;have hl1:=qaE hl1;have hl2:=qaE hl2;cases hb:ztS vs ws with
  | none=>rw[hb]at hq; cases hq
  | some b=>
  rw[hb]at hq;cases hq;have r1:=zad hE h1;have r2:=zad hE h2;generalize hu1:a.eval x=u1 at r1;generalize hu2:a.eval y=u2 at r2;cases r1 with
  | agg _ xs s1 k1 _=>
  cases r2 with
  | agg _ ys s2 k2 _=>
  unfold zp5 at hf;simp only[qaf,qbn,beq_iff_eq]at hf;obtain⟨⟨⟨f1,f2⟩,f3⟩,f4⟩:=hf;have hfo:P.fieldsOf t=fs:=by unfold Program.fieldsOf; rw[ht]
  have lit:∀ {vs:List V} {arr:Array Value},arr.size=vs.length→(∀(i:Nat) x v,vs[i]? = some x→arr[i]? = some v→VRel ι x v)→∀(i:Nat) u,vs[i]? = some (.lit u)→arr[0+i]? = some u:=by
   intro vs arr hs hk i u hi;rw[qaP];obtain⟨hlt,_⟩:=qab.1 hi;have:arr[i]? = some (arr[i]'(by omega)):=qaV (by omega);rw[this,(hk i _ _ hi this).zbY]
  have run:∀ w':World,(Op.equalIn 10000 t (.agg xs) (.agg ys)).run P w'=.ok b w':=by
   intro w';rw[run_equalIn_struct w' 9999 t xs ys (by rw[hfo]; exact ht) f3,hfo];refine zpd 9998 fs.toList 0 vs ws b (fun f hf=>?_) (by rw[f2,qdg,Array.length_toList]) (by rw[hl1,Array.length_toList]) hb (lit s1 k1) (lit s2 k2);have:=qbC.1 f1 f hf;simp only[qaf,qbn,beq_eq_false_iff_ne]at this;exact this
  refine⟨_,fun w' _=>?_,.lit _⟩;cases neg
  ·simp only[cond_false]at ho ⊢;simp[execOp,ho,hu1,hu2,run_eqGuard_agg w' _ _ _ _ _ _ f4,run_eql_struct,run w',Result.andThen]
  simp only[cond_true]at ho ⊢;simp[execOp,ho,hu1,hu2,run_eqGuard_agg w' _ _ _ _ _ _ f4,run_neq_struct,run w',Result.andThen]
 cases hq
theorem zf3{t el:TypeId}(ht:P.underlying t=some (.slice el))(ad:Option Addr)(len cap:Nat)(w':World):(Op.equal t (.slice ad len cap) (.slice none 0 0)).run P w'=.ok ad.isNone w':=by
 show(Op.equalIn (9999+1) t (.slice ad len cap) (.slice none 0 0)).run P w'=.ok ad.isNone w';unfold Op.equalIn;simp only[Sem.run_bind,zae ht,Result.andThen_ok];cases ad<;>rfl
theorem ziY{t:TypeId}{ms:Array (String×TypeId)}(ht:P.underlying t=some (.interface ms))(x:Value)(b:Bool)(hx:(x=.nilIface∧b=true)∨(∃ t v,x=.iface t v)∧b=false)(w':World):(Op.equal t x .nilIface).run P w'=.ok b w':=by
 show(Op.equalIn (9999+1) t x .nilIface).run P w'=.ok b w';unfold Op.equalIn;simp only[Sem.run_bind,zae ht,Result.andThen_ok];rcases hx with⟨rfl,rfl⟩| ⟨⟨t,v,rfl⟩,rfl⟩<;> rfl
theorem zfw{t el:TypeId}(ht:P.underlying t=some (.pointer el))(ad:Option Addr)(w':World):(Op.equal t (.pointer ad) (.pointer none)).run P w'=.ok ad.isNone w':=by
 show(Op.equalIn (9999+1) t (.pointer ad) (.pointer none)).run P w'=.ok ad.isNone w';unfold Op.equalIn;simp only[Sem.run_bind,zae ht,Result.andThen_ok];cases ad<;>rfl
theorem zyo(hE:zbR ι N env a){o:Oper}{t el ty:TypeId}{x:Operand}{neg:Bool}(ho:o.op=.binOp (bif neg then .neq else .eql) t x (.const (.slice none 0 0)) ty)(ht:P.underlying t=some (.slice el)){v:V}
  (hq:q h env (.eqn neg (opX x))=some v):QOk P ι a w o v:=by
 simp only[q]at hq;have key:∀(ad:Option Addr) (len cap:Nat),a.eval x=.slice ad len cap→∀ w':World,(execOp a.eval o).run P w'=.ok (.value (.bool (bif neg then !ad.isNone else ad.isNone))) w':=by
  intro ad len cap hx w';have hy:a.eval (.const (.slice none 0 0))=.slice none 0 0:=rfl;cases neg
  ·simp only[cond_false]at ho ⊢;simp[execOp,ho,hx,hy,eqGuard,binOp,zf3 ht]
  simp only[cond_true]at ho ⊢;simp[execOp,ho,hx,hy,eqGuard,binOp,zf3 ht]
 split at hq
 ·rename_i h1;cases hq;have hx:=(zad hE h1).zbY;exact⟨_,fun w' _=>key _ _ _ hx w',by cases neg<;>exact .lit _⟩
 ·rename_i h1;cases hq;have hx:=zad hE h1;generalize hu0:a.eval x=u0 at hx key;cases hx with
  | sl=>exact⟨_,fun w' _=>key _ _ _ rfl w',by cases neg<;>exact .lit _⟩
  | sl0=>exact⟨_,fun w' _=>key _ _ _ rfl w',by cases neg<;>exact .lit _⟩
 cases hq
theorem zy0(hE:zbR ι N env a){o:Oper}{t ty:TypeId}{ms:Array (String×TypeId)}{x:Operand}{neg:Bool}(ho:o.op=.binOp (bif neg then .neq else .eql) t x (.const .nilIface) ty)(ht:P.underlying t=some (.interface ms)){v:V}
  (hq:q h env (.eqi neg (opX x))=some v):QOk P ι a w o v:=by
 simp only[q]at hq;have key:∀(b:Bool),(a.eval x=.nilIface∧b=true)∨(∃ t v,a.eval x=.iface t v)∧b=false→∀ w':World,(execOp a.eval o).run P w'=.ok (.value (.bool (bif neg then !b else b))) w':=by
  intro b hx w';have hy:a.eval (.const .nilIface)=.nilIface:=rfl;have he:=ziY ht (a.eval x) b hx w';have hg:∀ op,(eqGuard op t x (.const .nilIface) (a.eval x) .nilIface).run P w'=.ok () w':=by
   intro op;rcases hx with⟨hx,_⟩| ⟨⟨t',v',hx⟩,_⟩<;> rw[hx]<;>unfold eqGuard<;>cases op<;>first | rfl | (cases x<;>rfl)
  have hbin:∀ op,op=.eql∨op=.neq→binOp op t (a.eval x) .nilIface=(match op with | .eql=>(do pure (.bool (← Op.equal t (a.eval x) .nilIface)):Sem Value)| _=>do pure (.bool (!(← Op.equal t (a.eval x) .nilIface)))):=by
   intro op hop;rcases hx with⟨hx,_⟩| ⟨⟨t',v',hx⟩,_⟩<;> rw[hx]<;>rcases hop with rfl | rfl<;>rfl
  cases neg
  ·simp only[cond_false]at ho ⊢;simp[execOp,ho,hy,hg,hbin,he]
  simp only[cond_true]at ho ⊢;simp[execOp,ho,hy,hg,hbin,he]
 split at hq
 ·rename_i h1;cases hq;have hx:=(zad hE h1).zbY;exact⟨_,fun w' _=>key true (.inl ⟨hx,rfl⟩) w',by cases neg<;>exact .lit _⟩
 ·rename_i h1;cases hq;have hx:=zad hE h1;generalize hu0:a.eval x=u0 at hx key;cases hx with
  | ifc t' v' u' _=>exact⟨_,fun w' _=>key false (.inr ⟨⟨_,_,rfl⟩,rfl⟩) w',by cases neg<;>exact .lit _⟩
 cases hq
theorem zzP(hE:zbR ι N env a){o:Oper}{t el ty:TypeId}{x:Operand}{neg:Bool}(ho:o.op=.binOp (bif neg then .neq else .eql) t x (.const (.pointer none)) ty)(ht:P.underlying t=some (.pointer el)){v:V}
  (hq:q h env (.eqp neg (opX x))=some v):QOk P ι a w o v:=by
 simp only[q]at hq;have key:∀(ad:Option Addr),a.eval x=.pointer ad→∀ w':World,(execOp a.eval o).run P w'=.ok (.value (.bool (bif neg then !ad.isNone else ad.isNone))) w':=by
  intro ad hx w';have hy:a.eval (.const (.pointer none))=.pointer none:=rfl;cases neg
  ·simp only[cond_false]at ho ⊢;simp[execOp,ho,hx,hy,eqGuard,binOp,zfw ht]
  simp only[cond_true]at ho ⊢;simp[execOp,ho,hx,hy,eqGuard,binOp,zfw ht]
 split at hq
 ·rename_i h1;cases hq;have hx:=(zad hE h1).zbY;exact⟨_,fun w' _=>key _ hx w',by cases neg<;>exact .lit _⟩
 ·rename_i h1;cases hq;have hx:=zad hE h1;generalize hu0:a.eval x=u0 at hx key;cases hx with
  | ptr=>exact⟨_,fun w' _=>key _ rfl w',by cases neg<;>exact .lit _⟩
 cases hq
theorem zBD(hE:zbR ι N env a){o:Oper}{op:UnOp}{t:TypeId}{x:Operand}(ho:o.op=.unOp op t x){v:V}(hq:q h env (.un op (opX x))=some v):QOk P ι a w o v:=by
 simp only[q]at hq;obtain⟨v1,h1,h2⟩:=qaY.1 hq;have e1:=zad hE h1;unfold unV at h2;split at h2
 ·have e2:=e1.zbY;split at h2
  ·cases h2;exact⟨_,fun w' _=>by simp[execOp,ho,e2,Op.unary,Op.intArith],.lit _⟩
  ·simp only[za2,qaU,qad]at h2;subst h2;exact⟨_,fun w' _=>by simp[execOp,ho,e2,Op.unary,Op.intBits],.lit _⟩
  cases h2
 ·have e2:=e1.zbY;split at h2
  ·cases h2;exact⟨_,fun w' _=>by simp[execOp,ho,e2,Op.unary],.lit _⟩
  cases h2
 cases h2
theorem zyX(hE:zbR ι N env a){o:Oper}{t t':TypeId}{k k':IntKind}{x:Operand}(ho:o.op=.convert t t' x)(h1:P.underlying t=some (.int k))(h2:P.underlying t'=some (.int k')){v:V}
  (hq:q h env (.conv k' (opX x))=some v):QOk P ι a w o v:=by
 simp only[q]at hq;split at hq
 ·rename_i m h3;cases hq;obtain⟨kk,hx⟩:=zce hE h3;exact⟨_,fun w' _=>by simp[execOp,ho,hx,convert,zae h1,zae h2,Conv.intToInt],.lit _⟩
 cases hq
theorem zAg(hE:zbR ι N env a){o:Oper}{x:Operand}{i:Nat}(ho:o.op=.extract x i){v:V}(hq:q h env (.ext (opX x) i)=some v):QOk P ι a w o v:=by
 simp only[q]at hq;split at hq
 ·rename_i vs h3;have hx:=zad hE h3;generalize hu0:a.eval x=u0 at hx;cases hx with
  | tup _ arr hsz hc=>
   have hlt:i<arr.size:=by rw[hsz]; exact(qab.1 hq).1
   refine⟨arr[i],fun w' _=>?_,hc i v _ hq (qaV hlt)⟩;simp[execOp,ho,hu0,Instr.extract,qaV hlt]
 cases hq
theorem zxn(hE:zbR ι N env a){o:Oper}{x:Operand}(ho:o.op=.nilCheck x){v:V}(hq:q h env (.nilck (opX x))=some v):QOk P ι a w o v:=by
 simp only[q]at hq;split at hq
 ·rename_i h3;cases hq;have hx:=zad hE h3;refine⟨_,fun w' _=>?_,hx⟩;generalize hu0:a.eval x=u0 at hx;cases hx;simp[execOp,ho,hu0]
 ·rename_i h3;cases hq;have hx:=zad hE h3;refine⟨_,fun w' _=>?_,hx⟩;generalize hu0:a.eval x=u0 at hx;cases hx;simp[execOp,ho,hu0]
 cases hq
theorem zbb{o:Oper}{c:Call}{b:Builtin}(ho:o.op=.call c)(hc:c.callee=.builtin b):
  execOp a.eval o=builtin b c.argTypes o.type (c.args.map fun | .const _=>true | _=>false) (c.args.map a.eval):=by
 simp[execOp,ho,resolve,hc,invoke];rfl
theorem zAh(hE:zbR ι N env a){o:Oper}{c:Call}{t el:TypeId}{x:Operand}(ho:o.op=.call c)(hc:c.callee=.builtin .len)(h1:c.argTypes.toList=[t])(h2:c.args.toList=[x])
  (ht:P.underlying t=some (.slice el)) {v:V} (hq:q h env (.len (opX x))=some v):QOk P ι a w o v:=by
 have h1':c.argTypes = #[t]:=by rw[← qbv (xs:=c.argTypes),h1]
 have h2':c.args = #[x]:=by rw[← qbv (xs:=c.args),h2]
 simp only[q]at hq;obtain⟨v1,h3,h4⟩:=qaY.1 hq;have hx:=zad hE h3;generalize hu0:a.eval x=u0 at hx;have hrun:∀(ad:Option Addr) (len cap:Nat),u0=.slice ad len cap→∀ w':World,(execOp a.eval o).run P w'=.ok (.value (.int .i64 len)) w':=by
  intro ad len cap hb w';rw[zbb ho hc];simp[builtin,Builtin.len_,h1',h2',hu0,hb,zae ht,goInt]
 unfold zyf at h4;split at h4
 ·cases h4;cases hx<;>exact⟨_,fun w' _=>hrun _ _ _ rfl w',.lit _⟩
 ·cases h4;exact⟨_,fun w' _=>hrun _ _ _ hx.zbY w',.lit _⟩
 cases h4
theorem zsg{isMax:Bool}{x y z:V}(hm:mm2 isMax x y=some z):∃ k m n,x=.lit (.int k m)∧y=.lit (.int k n)∧
  z=.lit (.int k (bif isMax then(if n > m then n else m)else(if n<m then n else m))):=by
 unfold mm2 at hm;split at hm
 ·rename_i k m k' n;cases hk:(k == k')with
  | false=>simp only[hk,cond_false]at hm; cases hm
  | true=>
   simp only[hk,cond_true,qad]at hm;have:k=k':=by simpa using hk
   subst this;exact⟨k,m,n,rfl,rfl,hm.symm⟩
 cases hm
theorem zmO{isMax:Bool}:∀(ys:List V) (x z:V) (u:Value) (us:List Value),mms isMax x ys=some z→ys.length=us.length →
  VRel ι x u→(∀(i:Nat) y v,ys[i]? = some y→us[i]? = some v→VRel ι y v)→
  ∃ r,VRel ι z r∧∀ w':World,(us.foldlM (bif isMax then Builtin.max2 else Builtin.min2) u).run P w'=.ok r w'
 | [],x,z,u,us,hm,hl,hx,_=>by
  simp[mms]at hm;subst hm;cases us with
  | nil=>exact⟨u,hx,fun w'=>by simp⟩
  | cons _ _=>simp at hl
 | y :: ys,x,z,u,us,hm,hl,hx,hy=>by
  cases us with
  | nil=>simp at hl
  | cons u1 us=>
   simp only[mms]at hm;split at hm
   ·rename_i z1 hz1;obtain⟨k,m,n,rfl,rfl,rfl⟩:=zsg hz1;have e1:=hx.zbY;have e2:=(hy 0 _ u1 rfl rfl).zbY;obtain⟨r,h1,h2⟩:=zmO ys _ z _ us hm (by simpa using hl) (.lit _) (fun i y v h3 h4=>hy (i+1) y v (by simpa using h3) (by simpa using h4));refine⟨r,h1,fun w'=>?_⟩;rw[e1,e2,List.foldlM_cons];cases isMax<;>simp only[cond_true,cond_false,Builtin.min2,Builtin.max2,Sem.run_bind,Sem.run_pure,Result.andThen_ok]at h2 ⊢
    ·exact h2 w'
    exact h2 w'
   cases hm
theorem zBk(hE:zbR ι N env a){o:Oper}{c:Call}{isMax:Bool}(ho:o.op=.call c)(hc:c.callee=.builtin (bif isMax then .max else .min)){v:V}(hq:q h env (.mm isMax (c.args.toList.map opX))=some v):QOk P ι a w o v:=by
 simp only[q]at hq;split at hq
 ·rename_i v1 vs h1;obtain⟨h2,h3⟩:=zbZ hE _ h1;have hargs:(c.args.map a.eval).toList=c.args.toList.map a.eval:=by simp
  cases hcl:c.args.toList with
  | nil=>rw[hcl]at h2; simp at h2
  | cons x xs=>
   rw[hcl]at h2 h3
   obtain⟨r,h4,h5⟩:=zmO (P:=P) vs v1 v (a.eval x) (xs.map a.eval) hq (by simpa using h2) (h3 0 x v1 rfl rfl) (fun i y u hy hu=>by
    simp only[qaT,qak]at hu;obtain⟨x',hx',rfl⟩:=hu
    exact h3 (i+1) x' y (by simpa using hx') (by simpa using hy))
   refine⟨r,fun w' _=>?_,h4⟩;rw[zbb ho hc];cases isMax
   ·simp only[cond_false,builtin,Builtin.min_,hargs,hcl,qaL,Sem.run_bind];have:=h5 w';simp only[cond_false]at this;rw[this]; rfl
   simp only[cond_true,builtin,Builtin.max_,hargs,hcl,qaL,Sem.run_bind];have:=h5 w';simp only[cond_true]at this;rw[this]; rfl
 cases hq
theorem zAn(hE:zbR ι N env a){o:Oper}{f:Nat}{first cap:Array Operand}(ho:o.op=.makeFunc (.func f) first cap){v:V}
  (hq:q h env (.clo f (first.toList.map opX) (cap.toList.map opX))=some v):QOk P ι a w o v:=by
 simp only[q]at hq;split at hq
 ·rename_i vs vs' h1 h2;cases hq;have g1:=zfn hE h1;have g2:=zfn hE h2;exact⟨.func (.func f) (first.map a.eval) (cap.map a.eval),fun w' _=>by simp[execOp,ho,Instr.makeFunc],.clo _ _ _ _ _ g1.1 g2.1 g1.2 g2.2⟩
 cases hq
theorem zAt(hE:zbR ι N env a){o:Oper}{t:TypeId}{x:Operand}(ho:o.op=.makeInterface t x){fs:Array Field}(hs:P.underlying t=some (.struct fs)){v:V}
  (hq:q h env (.mkI t (opX x))=some v):QOk P ι a w o v:=by
 simp only[q,qak]at hq;obtain⟨v1,h1,rfl⟩:=hq;exact⟨.iface t (a.eval x),fun w' _=>by simp[execOp,ho,Instr.makeInterface,zae hs],.ifc _ _ _ (zad hE h1)⟩
end
section
variable {P:Program} {B N:Nat} {w1 w:World} {ι:Io} {h:zaj} {env:List V} {a:Act}
def OIs(v:Option Value)(i:Option Int):Prop:=(v=none∧i=none)∨∃ n k,v=some (.int k n)∧i=some n
theorem zpG(hE:zbR ι N env a){x:Option Operand}{m:Option Int}(hx:zpQ env (x.map opX)=some m):OIs (x.map a.eval) m:=by
 rcases zpR hE hx with⟨rfl,rfl⟩| ⟨y,n,k,rfl,rfl,hk⟩
 ·exact .inl ⟨rfl,rfl⟩
 exact .inr ⟨n,k,by simp[hk],rfl⟩
theorem zbS{k:IntKind}{n:Int}{y:Nat}{code:BoundsCode}(h0:0≤n)(h1:n≤y)(w':World):(Instr.sliceBound (.int k n) y code).run P w'=.ok n.toNat w':=by
 simp[Instr.sliceBound,asIntOf,h0,h1]
theorem zct{isSl:Bool}{len cap':Nat}{cap:Option Nat}(hcap:∀ c,cap=some c→c=cap')(hlen:len≤cap'){lo hi mx:Option Int}{vlo vhi vmx:Option Value}(h1:OIs vlo lo)(h2:OIs vhi hi)(h3:OIs vmx mx)
  {l hh:Nat} {c:Option Nat} (hb:bounds len cap lo hi mx=some (l,hh,c)):
  ∃ m,(∀ w',(Instr.sliceBounds isSl len cap' vlo vhi vmx).run P w'=.ok (l,hh,m) w')∧l≤hh∧hh≤m∧m≤cap'∧(∀ x,c=some x→x=m - l)∧(c=none→m=cap'∧cap=none):=by
 unfold bounds at hb;have htop:zeF len cap≤cap':=by
  cases cap with
  | none=>simp[zeF]; exact hlen
  | some c=>simp[zeF,hcap c rfl]
 generalize zeF len cap=top at hb htop;rcases h3 with⟨rfl,rfl⟩| ⟨m,km,rfl,rfl⟩
 ·cases hc:decide (0≤lo.getD 0) && decide (lo.getD 0≤hi.getD len) && decide (hi.getD len≤top)with
  | false=>simp only[hc,cond_false]at hb; cases hb
  | true=>
   simp only[hc,cond_true,qad,qag]at hb;simp only[qaf,decide_eq_true_eq]at hc;obtain⟨⟨g0,g1⟩,g2⟩:=hc;obtain⟨rfl,rfl,rfl⟩:=hb;refine⟨cap',fun w'=>?_,by omega,by omega,qan _,fun x hx=>?_,fun hcn=>⟨rfl,by cases cap with | none=>rfl | some y=>simp at hcn⟩⟩
   ·rcases h2 with⟨rfl,rfl⟩| ⟨n,k,rfl,rfl⟩
    ·simp only[Option.getD_none]at *;rcases h1 with⟨rfl,rfl⟩| ⟨nl,kl,rfl,rfl⟩
     ·simp[Instr.sliceBounds]
     simp only[qbd]at *;have hl:=zbS (P:=P) (k:=kl) (n:=nl) (y:=len) (code:=if(none:Option Value).isSome=true then BoundsCode.slice3C else .sliceB) (by omega) (by omega) w';simp only[Instr.sliceBounds,Sem.run_bind,Sem.run_pure,Result.andThen_ok,hl,qaK]
    simp only[qbd]at *;have hh:=zbS (P:=P) (k:=k) (n:=n) (y:=cap') (code:=if isSl=true then BoundsCode.sliceAcap else .sliceAlen) (by omega) (by omega) w';rcases h1 with⟨rfl,rfl⟩| ⟨nl,kl,rfl,rfl⟩
    ·simp only[Instr.sliceBounds,Sem.run_bind,Sem.run_pure,Result.andThen_ok,hh,Option.getD_none,Int.toNat_zero]
    simp only[qbd]at *;have hl:=zbS (P:=P) (k:=kl) (n:=nl) (y:=n.toNat) (code:=if(none:Option Value).isSome=true then BoundsCode.slice3C else .sliceB) (by omega) (by omega) w';simp only[Instr.sliceBounds,Sem.run_bind,Sem.run_pure,Result.andThen_ok,hh,hl]
   simp only[qak]at hx;obtain⟨y,hy,rfl⟩:=hx;rw[hcap y hy]
 cases hc:hi.isSome && decide (0≤lo.getD 0) && decide (lo.getD 0≤hi.getD len) && decide (hi.getD len≤m) && decide (m≤top)with
 | false=>simp only[hc,cond_false]at hb; cases hb
 | true=>
  simp only[hc,cond_true,qad,qag]at hb;simp only[qaf,decide_eq_true_eq]at hc;obtain⟨⟨⟨⟨gs,g0⟩,g1⟩,g2⟩,g3⟩:=hc;obtain⟨rfl,rfl,rfl⟩:=hb;refine⟨m.toNat,fun w'=>?_,by omega,by omega,by omega,fun x hx=>by cases hx; rfl,fun hcn=>by cases hcn⟩;rcases h2 with⟨rfl,rfl⟩| ⟨n,k,rfl,rfl⟩
  ·simp at gs
  simp only[qbd]at *;have hm:=zbS (P:=P) (k:=km) (n:=m) (y:=cap') (code:=if isSl=true then BoundsCode.slice3Acap else .slice3Alen) (by omega) (by omega) w';have hh:=zbS (P:=P) (k:=k) (n:=n) (y:=m.toNat) (code:=BoundsCode.slice3B) (by omega) (by omega) w';rcases h1 with⟨rfl,rfl⟩| ⟨nl,kl,rfl,rfl⟩
  ·simp only[Instr.sliceBounds,Sem.run_bind,Sem.run_pure,Result.andThen_ok,hm,hh,Option.getD_none,Int.toNat_zero]
  simp only[qbd]at *;have hl:=zbS (P:=P) (k:=kl) (n:=nl) (y:=n.toNat) (code:=if(some (Value.int km m)).isSome=true then BoundsCode.slice3C else .sliceB) (by omega) (by omega) w';simp only[Instr.sliceBounds,Sem.run_bind,Sem.run_pure,Result.andThen_ok,hm,hh,hl]
theorem zrR{β o n l hh m:Nat}{c:Option Nat}{b s sz cap':Nat}(hι:ι β=some (b,s,sz))(h1:s+o+cap' * n≤sz)(h3:cap'<2 ^ 63)(hn:0<n)(hl:l≤hh)(hm:hh≤m)(hc:m≤cap')(hx:∀ x,c=some x→x=m - l)(h7:c=none→m=cap'∧sz≤s+o+cap' * n):
  VRel ι (.sl β (o+l * n) n (hh - l) c) (.slice (if m=l then some ⟨b,s+o,none⟩else(some ⟨b,s+o,none⟩:Option Addr).map (·.add (l * n))) (hh - l) (m - l)):=by
 by_cases hml:m=l
 ·rw[if_pos hml];have e1:hh - l=0:=by omega
  have e2:m - l=0:=by omega
  rw[e1,e2];exact .sl0 _ _ _ _ _ hn (fun x hx'=>by rw[hx x hx']; exact e2) fun hcn=>⟨b,s,sz,hι,by obtain⟨g1,g2⟩:=h7 hcn; subst hml; subst g1; omega⟩
 rw[if_neg hml];simp only[qaU,zc8];rw[qbp];have hml2:(m - l)* n+l * n=m * n:=by rw[← qaI]; congr 1; omega
 refine .sl _ _ _ _ _ b s sz _ hι ?_ (by omega) (by omega) hn hx fun hcn=>?_
 ·have:(m - l)* n+l * n≤cap' * n:=by rw[← qaI]; exact qar n (by omega)
  omega
 obtain⟨g1,g2⟩:=h7 hcn;subst g1;omega
theorem zAH(hS:Sim P B w1 ι h w)(hE:zbR ι N env a){o:Oper}{t el:TypeId}{x:Operand}{lo hi mx:Option Operand}(ho:o.op=.slice t x lo hi mx)(hs:P.underlying t=some (.slice el))(ht:zcy P el=true){v:V}
  (hq:q h env (.slc (P.cellsOf el) (opX x) (lo.map opX) (hi.map opX) (mx.map opX))=some v):QOk P ι a w o v:=by
 simp only[zcy,qaf]at ht;simp only[q]at hq;split at hq
 ·rename_i v1 l1 hh1 m1 hx1 hl1 hh2 hm1;have hx:=zad hE hx1;have g1:=zpG hE hl1;have g2:=zpG hE hh2;have g3:=zpG hE hm1;generalize hu0:a.eval x=u0 at hx;have hrun:∀(ad:Option Addr) (len cap' l hh m:Nat),u0=.slice ad len cap'→(∀ w',(Instr.sliceBounds true len cap' (lo.map a.eval) (hi.map a.eval) (mx.map a.eval)).run P w'=.ok (l,hh,m) w')→
    ∀ w':World,(execOp a.eval o).run P w'=.ok (.value (.slice (if m=l then ad else ad.map (·.add (l * P.cellsOf el))) (hh - l) (m - l))) w':=by
   intro ad len cap' l hh m hb hB w';simp[execOp,ho,Instr.sliceAt,zae hs,Instr.slice,hu0,hb,hB,zaB ht.1]
  cases hsv:zsC (P.cellsOf el) l1 hh1 m1 v1 with
  | some r0=>
   rw[zmP hsv]at hq;cases hq;replace hq:=hsv;unfold zsC at hq;split at hq
   ·rename_i β off n' len cap;cases hb:(P.cellsOf el == n')with
    | false=>simp only[hb,cond_false]at hq; cases hq
    | true=>
     simp only[hb,cond_true,qak,qcR]at hq;obtain⟨l,hh,c,hbd,rfl⟩:=hq;have hn:P.cellsOf el=n':=by simpa using hb
     subst hn;cases hx with
     | sl _ _ _ _ _ b s sz cap' hι k1 k2 k3 k4 k5 k6=>
      obtain⟨m,r1,r2,r3,r4,r5,r6⟩:=zct (P:=P) (isSl:=true) k5 k2 g1 g2 g3 hbd;exact⟨_,fun w' _=>hrun _ _ _ _ _ _ rfl r1 w',zrR hι k1 k3 k4 r2 r3 r4 r5 fun hcn=>⟨(r6 hcn).1,k6 (r6 hcn).2⟩⟩
     | sl0 _ _ _ _ ad k4 k5 k6=>
      obtain⟨m,r1,r2,r3,r4,r5,r6⟩:=zct (P:=P) (isSl:=true) k5 (qan 0) g1 g2 g3 hbd;refine⟨_,fun w' _=>hrun _ _ _ _ _ _ rfl r1 w',?_⟩;have e0:m=l:=by omega
      have e1:hh - l=0:=by omega
      have e2:m - l=0:=by omega
      rw[if_pos e0,e1,e2];exact .sl0 _ _ _ _ _ k4 (fun x hx'=>by rw[r5 x hx']; exact e2) fun hcn=>by obtain⟨b,s,sz,g1,g2⟩:=k6 (r6 hcn).2; exact⟨b,s,sz,g1,by omega⟩
   ·simp only[qak,qcR]at hq;obtain⟨l,hh,c,hbd,rfl⟩:=hq;have hx':=hx.zbY;obtain⟨m,r1,r2,r3,r4,r5,_⟩:=zct (P:=P) (isSl:=true) (cap':=0) (by simp) (qan 0) g1 g2 g3 hbd;refine⟨_,fun w' _=>hrun _ _ _ _ _ _ hx' r1 w',?_⟩;have e0:m=l:=by omega
    have e1:hh - l=0:=by omega
    have e2:m - l=0:=by omega
    rw[if_pos e0,e1,e2];exact .lit _
   ·cases hq
  | none=>
   unfold zyp at hq;rw[hsv]at hq;simp only at hq;unfold zrY at hq;split at hq
   ·rename_i β off n' len;split at hq
    ·rename_i x0 cs hcs;cases hb:(P.cellsOf el == n') && decide (0≤l1.getD 0) && decide (l1.getD 0≤x0) && Nat.ble (off+x0.toNat * P.cellsOf el) cs.length with
     | false=>simp only[hb,cond_false]at hq; cases hq
     | true=>
      simp only[hb,cond_true,qad]at hq;subst hq;simp only[qaf,decide_eq_true_eq,beq_iff_eq]at hb;obtain⟨⟨⟨hn,b1⟩,b2⟩,b3⟩:=hb;have b3:=qai b3;subst hn;obtain⟨b0,s0,sz0,arr0,T0,fr0,q1,q2,q3,q4,q5,q6⟩:=hS.cells hcs;have hlen:∀ cap',len≤cap'→x0.toNat≤cap'→bounds len (some cap') l1 (some x0) none=some ((l1.getD 0).toNat,x0.toNat,some (cap' - (l1.getD 0).toNat)):=by
       intro cap' _ hx0;have b4:x0≤(cap':Int):=by omega
       simp[bounds,zeF,b1,b2,b4]
      cases hx with
      | sl _ _ _ _ _ b s sz cap' hι k1 k2 k3 k4 k5 k6=>
       have q1':some (b,s,sz)=some (b0,s0,sz0):=hι.symm.trans q1;simp only[qad,qag]at q1';obtain⟨rfl,rfl,rfl⟩:=q1';have g4:=k6 rfl;have hx0:x0.toNat≤cap':=by
        refine qcf ?_ k4;omega
       obtain⟨m,r1,r2,r3,r4,r5,r6⟩:=zct (P:=P) (isSl:=true) (cap:=some cap') (fun c hc=>by cases hc; rfl) k2 g1 g2 g3 (hlen cap' k2 hx0);have r7:=r5 _ rfl;exact⟨_,fun w' _=>hrun _ _ _ _ _ _ rfl r1 w',zrR hι k1 k3 k4 r2 r3 r4 (fun y hy=>by cases hy) fun _=>⟨by omega,g4⟩⟩
      | sl0 _ _ _ _ ad k4 k5 k6=>
       obtain⟨b,s,sz,g5,g6⟩:=k6 rfl;have q1':some (b,s,sz)=some (b0,s0,sz0):=g5.symm.trans q1;simp only[qad,qag]at q1';obtain⟨rfl,rfl,rfl⟩:=q1';have hx0:x0.toNat≤0:=by
        refine qcf ?_ k4;omega
       obtain⟨m,r1,r2,r3,r4,r5,r6⟩:=zct (P:=P) (isSl:=true) (cap:=some 0) (fun c hc=>by cases hc; rfl) (qan 0) g1 g2 g3 (hlen 0 (qan 0) hx0);refine⟨_,fun w' _=>hrun _ _ _ _ _ _ rfl r1 w',?_⟩;have e0:m=(l1.getD 0).toNat:=by omega
       have e1:x0.toNat - (l1.getD 0).toNat=0:=by omega
       have e2:m - (l1.getD 0).toNat=0:=by omega
       rw[if_pos e0,e1,e2];exact .sl0 _ _ _ _ _ k4 (fun y hy=>by cases hy) fun _=>⟨b,s,sz,g5,by omega⟩
    cases hq
   cases hq
 cases hq
theorem zzL(hS:Sim P B w1 ι h w)(hE:zbR ι N env a){o:Oper}{t el:TypeId}{cnt:Nat}{x:Operand}{lo hi mx:Option Operand}(ho:o.op=.slice t x lo hi mx)(hs:P.underlying t=some (.array cnt el))(ht:zcy P el=true){v:V}
  (hq:q h env (.slcA (P.cellsOf el) cnt (opX x) (lo.map opX) (hi.map opX) (mx.map opX))=some v):QOk P ι a w o v:=by
 simp only[zcy,qaf]at ht;simp only[q]at hq;split at hq
 ·rename_i β off l1 hh1 m1 hx1 hl1 hh2 hm1;cases hb:Nat.blt 0 (P.cellsOf el) && Nat.blt cnt (2 ^ 63) && zAU h β (off+cnt * P.cellsOf el)with
  | false=>simp only[hb,cond_false]at hq; cases hq
  | true=>
   simp only[hb,cond_true,qak,qcR]at hq;obtain⟨l,hh,c,hbd,rfl⟩:=hq;simp only[qaf]at hb;obtain⟨⟨hb1,hb2⟩,hb3⟩:=hb;have hn:0<P.cellsOf el:=qbE.mp hb1;have hc63:cnt<2 ^ 63:=qbE.mp hb2;have hx:=zad hE hx1;have g1:=zpG hE hl1;have g2:=zpG hE hh2;have g3:=zpG hE hm1;unfold zAU at hb3;split at hb3
   ·rename_i cs hcs;have hle:=qai hb3;obtain⟨b',s',sz',arr,T,fr,k1,k2,k3,k4,_⟩:=hS.cells hcs;generalize hu0:a.eval x=u0 at hx;cases hx with
    | ptr _ _ b s sz hι=>
     rw[hι]at k1; cases k1;obtain⟨m,r1,r2,r3,r4,r5,r6⟩:=zct (P:=P) (isSl:=false) (cap:=some cnt) (cap':=cnt) (by simp) (qan cnt) g1 g2 g3 hbd;refine⟨_,fun w' _=>?_,zrR hι (by omega) hc63 hn r2 r3 r4 r5 fun hcn=>by cases(r6 hcn).2⟩;simp only[execOp,ho,Instr.sliceAt,Sem.run_bind,zae hs,Result.andThen_ok,Instr.sureAddr,hu0,Sem.run_pure,r1,zaB ht.1];by_cases hml:m=l
     ·simp[hml]
     simp[hml]
   cases hb3
 cases hq
theorem zeh{x:V}{u:Value}{l:List V}(hr:VRel ι x u)(hc:x.cells=some l):zeD ι l u.cells:=by
 cases hr with
 | lit v=>
  simp only[V.cells]at hc;cases ho:zfA u with
  | false=>simp only[ho,cond_false]at hc; cases hc
  | true=>
   simp only[ho,cond_true,qad]at hc;subst hc;have h1:u.cells = #[u]∧u.oneCell'=true:=by cases u<;>first | exact⟨rfl,rfl⟩| (simp[zfA]at ho)
   rw[h1.1];refine⟨rfl,fun i y v hy hv=>?_⟩;cases i with
   | zero=>simp at hy hv; subst hy; subst hv; exact⟨.lit _,h1.2⟩
   | succ i=>simp at hy
 | agg vs arr h1 h2 h3=>
  simp only[V.cells,qad]at hc;subst hc;exact⟨h1,fun i y v hy hv=>⟨h2 i y v hy hv,h3 i v hv⟩⟩
 | tup=>simp[V.cells]at hc
 | ptr β o b s sz h1=>
  simp only[V.cells,qad]at hc; subst hc;refine⟨rfl,fun i y v hy hv=>?_⟩;cases i with
  | zero=>simp[Value.cells]at hy hv; subst hy; subst hv; exact⟨.ptr β o b s sz h1,rfl⟩
  | succ i=>simp at hy
 | sl β o n len cap b s sz cap' h1 h2 h3 h4 h5 h6 h7=>
  simp only[V.cells,qad]at hc; subst hc;refine⟨rfl,fun i y v hy hv=>?_⟩;cases i with
  | zero=>simp[Value.cells]at hy hv; subst hy; subst hv; exact⟨.sl β o n len cap b s sz cap' h1 h2 h3 h4 h5 h6 h7,rfl⟩
  | succ i=>simp at hy
 | sl0 β o n cap ad h1 h2 h3=>
  simp only[V.cells,qad]at hc; subst hc;refine⟨rfl,fun i y v hy hv=>?_⟩;cases i with
  | zero=>simp[Value.cells]at hy hv; subst hy; subst hv; exact⟨.sl0 β o n cap ad h1 h2 h3,rfl⟩
  | succ i=>simp at hy
 | clo f first cap xs ys h1 h2 h3 h4=>
  simp only[V.cells,qad]at hc; subst hc;refine⟨rfl,fun i y v hy hv=>?_⟩;cases i with
  | zero=>simp[Value.cells]at hy hv; subst hy; subst hv; exact⟨.clo f first cap xs ys h1 h2 h3 h4,rfl⟩
  | succ i=>simp at hy
 | yld l b s sz h1=>
  simp only[V.cells,qad]at hc; subst hc;refine⟨rfl,fun i y v hy hv=>?_⟩;cases i with
  | zero=>simp[Value.cells]at hy hv; subst hy; subst hv; exact⟨.yld l b s sz h1,rfl⟩
  | succ i=>simp at hy
 | ifc t v0 u0 h1=>
  simp only[V.cells,qad]at hc; subst hc;refine⟨rfl,fun i y v hy hv=>?_⟩;cases i with
  | zero=>simp[Value.cells]at hy hv; subst hy; subst hv; exact⟨.ifc t v0 u0 h1,rfl⟩
  | succ i=>simp at hy
theorem ziM(off:Nat):∀(l:List Value) (k:Nat) (arr:Array Value),off+k+l.length≤arr.size →
  ((l.zipIdx k).foldl (fun cs x=>cs.setIfInBounds (off+x.2) x.1) arr).size=arr.size ∧
  ∀ i,((l.zipIdx k).foldl (fun cs x=>cs.setIfInBounds (off+x.2) x.1) arr)[i]? = if off+k≤i∧i<off+k+l.length then l[i - (off+k)]? else arr[i]?
 | [],k,arr,_=>by
  refine⟨rfl,fun i=>?_⟩;simp only[List.zipIdx_nil,List.foldl_nil,qa2];rw[if_neg (by omega)]
 | v :: l,k,arr,h=>by
  simp only[qaS]at h;obtain⟨h1,h2⟩:=ziM off l (k+1) (arr.setIfInBounds (off+k) v) (by simp; omega);simp only[List.zipIdx_cons,qcq];refine⟨by rw[h1]; simp,fun i=>?_⟩;rw[h2 i];by_cases hi:i=off+k
  ·subst hi;rw[if_neg (by omega),if_pos (by simp),qbZ (by omega)];simp
  simp only[qaS];by_cases h3:off+(k+1)≤i∧i<off+(k+1)+l.length
  ·rw[if_pos h3,if_pos (by omega)];have:i - (off+k)=(i - (off+(k+1)))+1:=by omega
   rw[this,qbS]
  rw[if_neg h3,if_neg (by omega),qaX (by omega)]
theorem zeM(cs ns:List V)(off:Nat)(h:off+ns.length≤cs.length):(zbi cs off ns).length=cs.length ∧
  ∀ i,(zbi cs off ns)[i]? = if off≤i∧i<off+ns.length then ns[i - off]? else cs[i]?:=by
 unfold zbi;refine⟨by simp; omega,fun i=>?_⟩;rw[qbw,qbk];simp only[qbD,qb0 (show off≤cs.length by omega)];by_cases h1:i<off
 ·rw[if_pos h1,if_neg (by omega),qau,if_pos h1]
 rw[if_neg h1,qbk];by_cases h2:i - off<ns.length
 ·rw[if_pos h2,if_pos (by omega)]
 rw[if_neg h2,if_neg (by omega),qay];congr 1; omega
theorem zeD.put{cs ns:List V}{arr narr:Array Value}{off:Nat}(hc:zeD ι cs arr)(hn:zeD ι ns narr)(hle:off+ns.length≤cs.length):
  zeD ι (zbi cs off ns) (narr.zipIdx.foldl (fun cs x=>cs.setIfInBounds (off+x.2) x.1) arr):=by
 obtain⟨h1,h2⟩:=zeM cs ns off hle;have hl:(narr.zipIdx.foldl (fun cs x=>cs.setIfInBounds (off+x.2) x.1) arr)=((narr.toList.zipIdx 0).foldl (fun cs x=>cs.setIfInBounds (off+x.2) x.1) arr):=by
  rw[← Array.foldl_toList]; simp
 obtain⟨h3,h4⟩:=ziM off narr.toList 0 arr (by have:=hc.1; have:=hn.1; simp; omega);rw[hl];refine⟨by rw[h3,h1]; exact hc.1,fun i x v hx hv=>?_⟩;rw[h2 i]at hx;rw[h4 i]at hv;have hsz:narr.toList.length=ns.length:=by simpa using hn.1
 simp only[qbt,hsz]at hv;split at hx
 ·rename_i hcd;rw[if_pos hcd]at hv;exact hn.2 _ x v hx (by simpa using hv)
 rename_i hcd;rw[if_neg hcd]at hv;exact hc.2 i x v hx hv
theorem zhI(z:List Value)(hz:z.all zfA=true):zeD ι (z.map .lit) z.toArray:=by
 refine⟨by simp,fun i x v hx hv=>?_⟩;simp only[qaT,qak]at hx;obtain⟨u,hu,rfl⟩:=hx;have:v=u:=by simp[hu]at hv; exact hv.symm
 subst this;have hone:=qbC.1 hz v (qaw hu);exact⟨.lit _,by cases v<;>first | rfl | (simp[zfA]at hone)⟩
theorem zcz(hE:zbR ι N env a){place:Nat→Option (Nat×Nat)}{off size:Nat→Nat}:
  ∀(parts:List (Nat×Operand)) (cs cs':List V) (arr:Array Value),(∀ ix∈parts,place ix.1=some (off ix.1,size ix.1))→zeD ι cs arr →
   zeY env cs (parts.map fun ix=>(off ix.1,size ix.1,opX ix.2))=some cs' →
   ∃ arr',Instr.fill place arr (parts.map fun ix=>(ix.1,a.eval ix.2))=some arr'∧zeD ι cs' arr'
 | [],cs,cs',arr,_,hL,hf=>by
  simp only[List.map_nil,zeY,qad]at hf;subst hf;exact⟨arr,rfl,hL⟩
 |(i,x):: parts,cs,cs',arr,hpl,hL,hf=>by
  simp only[qaL,zeY]at hf;split at hf
  ·rename_i l hl;obtain⟨v1,h1,h2⟩:=qaY.1 hl;cases hb:(l.length == size i) && Nat.ble (off i+size i) cs.length with
   | false=>simp only[hb,cond_false]at hf; cases hf
   | true=>
    simp only[hb,cond_true]at hf;simp only[qaf,beq_iff_eq]at hb;have hle:=qai hb.2;have hk:zeD ι l (a.eval x).cells:=zeh (zad hE h1) h2;have hput:=zeD.put (off:=off i) hL hk (by omega);obtain⟨arr',h3,h4⟩:=zcz hE (place:=place) (off:=off) (size:=size) parts _ _ _ (fun ix hix=>hpl ix (qaj _ hix)) hput hf;refine⟨arr',?_,h4⟩;simp only[qaL,Instr.fill,hpl (i,x) qao];rw[if_neg]
    ·exact h3
    have e1:=hk.1;have e2:=hL.1;simp;omega
  cases hf
theorem zf4{α β:Type}(f:α→Sem β)(g:α→β):∀(l:List α),(∀ x∈l,∀ w,(f x).run P w=.ok (g x) w)→∀ w:World,(l.mapM f).run P w=.ok (l.map g) w
 | [],_,w=>by simp
 | x :: r,h,w=>by
  simp[qc9,h x qao,zf4 f g r (fun y hy=>h y (qaj _ hy))]
theorem ziW{α β:Type}(f:α→Sem β)(g:α→β)(arr:Array α)(h:∀ x∈arr,∀ w,(f x).run P w=.ok (g x) w)(w:World):(arr.mapM f).run P w=.ok (arr.map g) w:=by
 obtain⟨l⟩:=arr;rw[List.mapM_toArray];simp[zf4 f g l (fun x hx=>h x (by simpa using hx))]
theorem zci{t:TypeId}{z:List Value}(hz:zeZ P t=some z):∃ v,(P.info? t).bind (·.zero)=some v∧v.cells.toList=z:=by
 simp only[zeZ,qak]at hz;exact hz
theorem zhO{cs:List V}{arr:Array Value}(hL:zeD ι cs arr):VRel ι (.agg cs) (.agg arr):=
 .agg _ _ hL.1 (fun i x v h1 h2=>(hL.2 i x v h1 h2).1) (fun i v hv=>by
  have hi:i<cs.length:=by rw[← hL.1]; exact(qaO.1 hv).1
  exact(hL.2 i cs[i] v (qac hi) hv).2)
theorem ziX(hE:zbR ι N env a){o:Oper}{t:TypeId}{parts:Array (Nat×Operand)}(ho:o.op=.build t parts){z:List Value}(hz:zeZ P t=some z)(hone:z.all zfA=true)
  {fs:Array Field} (hs:P.underlying t=some (.struct fs)) (hf:fs.all (fun f=>zcy P f.type)=true) (hpt:parts.all (fun ix=>Nat.blt ix.1 fs.size)=true)
  {v:V} (hq:q h env (.build z (parts.toList.map fun ix=>((fs.getD ix.1 default).offset,P.cellsOf (fs.getD ix.1 default).type,opX ix.2)))=some v):QOk P ι a w o v:=by
 simp only[q,qak]at hq;obtain⟨cs',hfill,rfl⟩:=hq;obtain⟨zv,hzv,rfl⟩:=zci hz;have hplaces:∀ w':World,(fs.mapM fun(f:Field)=>(do pure (f.offset,← sizeOf f.type):Sem (Nat×Nat))).run P w'=.ok (fs.map fun(f:Field)=>(f.offset,P.cellsOf f.type)) w':=fun w'=>
  ziW (P:=P) (fun(f:Field)=>(do pure (f.offset,← sizeOf f.type):Sem (Nat×Nat))) (fun(f:Field)=>(f.offset,P.cellsOf f.type)) fs (fun f hf' w''=>by
   have:=qcm.1 hf f hf';simp only[zcy,qaf]at this
   simp[zaB this.1]) w'
 obtain⟨arr',h1,h2⟩:=zcz hE (place:=fun i=>(fs.map fun f=>(f.offset,P.cellsOf f.type))[i]?) (off:=fun i=>(fs.getD i default).offset) (size:=fun i=>P.cellsOf (fs.getD i default).type)
  parts.toList _ cs' zv.cells (fun ix hix=>by
   have:=qcm.1 hpt ix (by simpa using hix);have hlt:ix.1<fs.size:=qbE.mp this
   simp[hlt]) (by simpa using zhI (ι:=ι) _ hone) hfill
 refine⟨_,fun w' _=>?_,zhO h2⟩;have hp2:(parts.map fun ix=>(ix.1,a.eval ix.2)).toList=parts.toList.map fun ix=>(ix.1,a.eval ix.2):=by simp
 simp only[execOp,ho,Instr.build,Sem.run_bind,za4 hzv,zae hs,Result.andThen_ok,hplaces];have h1':Instr.fill (fun x=>(fs.map fun f=>(f.offset,P.cellsOf f.type))[x]?) zv.cells (parts.map fun ix=>(ix.1,a.eval ix.2)).toList=some arr':=by rw[hp2]; exact h1
 simp only[h1'];rfl
theorem zj4(hE:zbR ι N env a){o:Oper}{t el:TypeId}{n:Nat}{parts:Array (Nat×Operand)}(ho:o.op=.build t parts){z:List Value}(hz:zeZ P t=some z)(hone:z.all zfA=true)
  (hs:P.underlying t=some (.array n el)) (hf:zcy P el=true)
  {v:V} (hq:q h env (.build z (parts.toList.map fun ix=>(ix.1 * P.cellsOf el,P.cellsOf el,opX ix.2)))=some v):QOk P ι a w o v:=by
 simp only[q,qak]at hq;obtain⟨cs',hfill,rfl⟩:=hq;obtain⟨zv,hzv,rfl⟩:=zci hz;simp only[zcy,qaf]at hf;obtain⟨arr',h1,h2⟩:=zcz hE (place:=fun i=>some (i * P.cellsOf el,P.cellsOf el)) (off:=fun i=>i * P.cellsOf el) (size:=fun _=>P.cellsOf el)
  parts.toList _ cs' zv.cells (fun ix _=>rfl) (by simpa using zhI (ι:=ι) _ hone) hfill
 refine⟨_,fun w' _=>?_,zhO h2⟩;have hp2:(parts.map fun ix=>(ix.1,a.eval ix.2)).toList=parts.toList.map fun ix=>(ix.1,a.eval ix.2):=by simp
 simp only[execOp,ho,Instr.build,Sem.run_bind,za4 hzv,zae hs,Result.andThen_ok,zaB hf.1];have h1':Instr.fill (fun i=>some (i * P.cellsOf el,P.cellsOf el)) zv.cells (parts.map fun ix=>(ix.1,a.eval ix.2)).toList=some arr':=by rw[hp2]; exact h1
 simp only[h1'];rfl
theorem zdu{b:Bool}{i:I}{r:V}(hq:q h env (bif b then i else .bad)=some r):b=true∧q h env i=some r:=by
 cases b with
 | true=>exact⟨rfl,hq⟩
 | false=>simp[q]at hq
theorem zrn(hS:Sim P B w1 ι h w)(hE:zbR ι N env a)(o:Oper){v:V}(hq:q h env (zaE P o)=some v):QOk P ι a w o v:=by
 obtain⟨dst,op,type,pos,after,guard⟩:=o;cases op with
 | move x=>exact⟨_,fun w' _=>by simp[execOp],zad hE hq⟩
 | assign x=>exact⟨_,fun w' _=>by simp[execOp],zad hE hq⟩
 | pick c x y=>
  simp only[zaE,q]at hq;split at hq
  ·rename_i h1;exact⟨_,fun w' _=>by simp[execOp,zdf hE h1,asBool],zad hE hq⟩
  ·rename_i h1;exact⟨_,fun w' _=>by simp[execOp,zdf hE h1,asBool],zad hE hq⟩
  ·cases hq
 | alloc t=>
  simp only[zaE]at hq;split at hq
  ·obtain⟨_,hq⟩:=zdu hq; simp[q]at hq
  ·simp[q]at hq
 | build t parts=>
  simp only[zaE]at hq;split at hq
  ·rename_i z hz;obtain⟨hone,hq⟩:=zdu hq;split at hq
   ·rename_i fs hs;obtain⟨hb,hq⟩:=zdu hq;simp only[qaf]at hb;exact ziX hE rfl hz hone hs hb.1 hb.2 hq
   ·rename_i n el hs;obtain⟨hb,hq⟩:=zdu hq;exact zj4 hE rfl hz hone hs hb hq
   simp[q]at hq
  ·simp[q]at hq
 | buildSlice t len parts=>
  simp only[zaE]at hq;split at hq
  ·obtain⟨_,hq⟩:=zdu hq;split at hq
   ·obtain⟨_,hq⟩:=zdu hq; simp[q]at hq
   simp[q]at hq
  ·simp[q]at hq
 | load t x=>
  simp only[zaE]at hq;obtain⟨ht,hq⟩:=zdu hq;exact zzg hS hE rfl ht hq
 | store t x y=>
  simp only[zaE]at hq;obtain⟨ht,hq⟩:=zdu hq;simp[q]at hq
 | fieldAddr s x f=>
  simp only[zaE]at hq;split at hq
  ·rename_i fs hs;split at hq
   ·rename_i fd hf;obtain⟨hb,hq⟩:=zdu hq;simp only[qaf,qbn]at hb;exact zAG hE rfl hs hf hb.1 hb.2 hq
   simp[q]at hq
  ·simp[q]at hq
 | field s x f=>
  simp only[zaE]at hq;split at hq
  ·rename_i fs hs;split at hq
   ·rename_i fd hf;obtain⟨hb,hq⟩:=zdu hq;exact zyW hE rfl hs hf hb hq
   simp[q]at hq
  ·simp[q]at hq
 | indexAddr t x i=>
  simp only[zaE]at hq;split at hq
  ·rename_i el hs;obtain⟨hb,hq⟩:=zdu hq;exact zzr hE rfl hs hb hq
  ·rename_i cnt el hs;obtain⟨hb,hq⟩:=zdu hq;simp only[qaf]at hb;exact zza hE rfl hs hb.1 hq
  ·simp[q]at hq
 | index t x i=>
  simp only[zaE]at hq;split at hq
  ·rename_i cnt el hs;obtain⟨hb,hq⟩:=zdu hq;simp only[qaf,qa5,beq_iff_eq]at hb;exact zym hE rfl hs hb.1.1 (fun hg=>by rcases hb.2 with h0 | h0; (rw[hg]at h0; cases h0); exact h0) hq
  ·rename_i hs;split at hq
   ·exact zAk hE rfl hs hq
   simp[q]at hq
  ·simp[q]at hq
 | makeFunc fn first cap=>
  cases fn with
  | func f=>exact zAn hE rfl hq
  | _=>simp[zaE,q]at hq
 | makeInterface t x=>
  simp only[zaE]at hq;split at hq
  ·rename_i fs hs;exact zAt hE rfl hs hq
  ·simp[q]at hq
 | binOp op t x y ty=>
  simp only[zaE]at hq;split at hq
  ·exact zAu hE rfl hq
  ·rename_i ht;split at hq
   ·exact zyS (neg:=false) hE rfl ht hq
   ·exact zyS (neg:=true) hE rfl ht hq
   simp[q]at hq
  ·rename_i fs ht;obtain⟨hf,hq⟩:=zdu hq;split at hq
   ·exact zzC (neg:=false) hE rfl ht hf hq
   ·exact zzC (neg:=true) hE rfl ht hf hq
   simp[q]at hq
  ·rename_i el ht;split at hq
   ·exact zyo (neg:=false) hE rfl ht hq
   ·exact zyo (neg:=true) hE rfl ht hq
   simp[q]at hq
  ·rename_i el ht;split at hq
   ·exact zy0 (neg:=false) hE rfl ht hq
   ·exact zy0 (neg:=true) hE rfl ht hq
   simp[q]at hq
  ·rename_i el ht;split at hq
   ·exact zzP (neg:=false) hE rfl ht hq
   ·exact zzP (neg:=true) hE rfl ht hq
   simp[q]at hq
  ·simp[q]at hq
 | unOp op t x=>exact zBD hE rfl hq
 | convert s d x=>
  simp only[zaE]at hq;split at hq
  ·rename_i h1 h2;exact zyX hE rfl h1 h2 hq
  ·simp[q]at hq
 | extract x i=>exact zAg hE rfl hq
 | makeSlice t l c=>
  simp only[zaE]at hq;split at hq
  ·obtain⟨_,hq⟩:=zdu hq;split at hq
   ·obtain⟨_,hq⟩:=zdu hq; simp[q]at hq
   simp[q]at hq
  ·simp[q]at hq
 | slice t x lo hi mx=>
  simp only[zaE]at hq;split at hq
  ·rename_i el hs;obtain⟨hb,hq⟩:=zdu hq;exact zAH hS hE rfl hs hb hq
  ·rename_i cnt el hs;obtain⟨hb,hq⟩:=zdu hq;exact zzL hS hE rfl hs hb hq
  ·simp[q]at hq
 | nilCheck x=>exact zxn hE rfl hq
 | call c=>
  simp only[zaE,ziG]at hq;split at hq
  ·obtain⟨_,hq⟩:=zdu hq;simp[q]at hq
  ·simp[q]at hq
  ·rename_i b hc;split at hq
   ·rename_i t x h1 h2;split at hq
    ·rename_i el hs;exact zAh hE rfl hc h1 h2 hs hq
    simp[q]at hq
   ·exact zBk (isMax:=false) hE rfl hc hq
   ·exact zBk (isMax:=true) hE rfl hc hq
   ·split at hq
    ·obtain⟨_,hq⟩:=zdu hq;split at hq
     ·obtain⟨_,hq⟩:=zdu hq; simp[q]at hq
     simp[q]at hq
    simp[q]at hq
   ·split at hq
    ·obtain⟨_,hq⟩:=zdu hq; simp[q]at hq
    simp[q]at hq
   ·split at hq
    ·obtain⟨_,hq⟩:=zdu hq;split at hq
     ·obtain⟨_,hq⟩:=zdu hq; simp[q]at hq
     simp[q]at hq
    simp[q]at hq
   ·simp[q]at hq
   simp[q]at hq
  ·simp[q]at hq
 | defer c=>
  simp only[zaE]at hq;split at hq<;>simp[q]at hq
 | _=>simp[zaE,q]at hq
end
end Go.Mx
