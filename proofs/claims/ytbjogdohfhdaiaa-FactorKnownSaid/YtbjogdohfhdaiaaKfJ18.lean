/-
 Trees: loops that are unrolled, calls after which what they made is forgotten. Conditions: none.
-/
import Derived.Test.YtbjogdohfhdaiaaKfJ17
set_option linter.unusedSimpArgs false
set_option linter.unusedVariables false
namespace Go.Lx
open Go Go.Mx
section
variable {fns:Mach} {k0:Nat} {Q:LX→LSt→Prop} {c:Cx} {L:List LB} {S S':LSt} {M:St} {H:zap} {B:Nat} {rd:Option Nat} {bar top e:Bool}
theorem zp5{c:Cx}{d:D}{v:V}{H:zap}{R':List LB}(hH:RelH c (L ++ R') H)(hr:R c d v)(hd:d.sc L.length)(hs:zd8 L.length L):∃ c',RelH c' L H∧R c' d v∧Step c H c' H∧c.leK L.length c':=by
 have hw:=zbl.cut (k0:=L.length) (N:=1) (E:=[(0,d)]) (E':=[(0,d)]) (L:=L) (R':=R') (qaf _) ⟨⟨rfl,hd⟩,qcb⟩ hs;have hrel:Rel c ⟨1,[(0,d)],L ++ R'⟩ ⟨[v],[],H⟩:=by
  refine⟨fun k d' hk=>?_,rfl,hH⟩;simp only[lk]at hk;split at hk
  ·rename_i hk0; subst hk0; cases hk; exact⟨v,rfl,hr⟩
  cases hk
 obtain⟨c',h1,h2,h3⟩:=hw c ⟨[v],[],H⟩ hrel;obtain⟨u,g1,g2⟩:=h1.env 0 d rfl;simp only[qbY,qad]at g1;subst g1;exact⟨c',h1.heap,g2,h2,h3⟩
theorem zdX.code{f:Nat}{fn:Mx.Fn}{args:List D}{Q1 Qp1:D→List LB→Prop}(hf:fns.has f fn)(hp:fn.p=false)(hN:args.length≤fn.N)
  (h:wp fns L.length [.code fn.c] (some ⟨fn.N,zek 0 args,L⟩) fun x S'=>match x with
   | .ret=>∃ ds,zeD S'.heap S'.env fn.rs=some ds∧Q1 (zdx ds) S'.heap
   | .normal=>∃ ds,zeD S'.heap S'.env fn.rs=some ds∧Q1 (zdx ds) S'.heap
   | .panic d=>Qp1 d S'.heap
   | .exit _=>False):zdX fns false f args L Q1 Qp1:=zdX.intro hf hp hN (zac h)
end
mutual
def D.av(β:Nat):D→Prop
 | .ptr b _=>b≠β
 | .eptr b _ _ _ _=>b≠β
 | .sl b _ _ _ _ _=>b≠β
 | .yld b=>b≠β
 | .clo _ xs ys=>D.avs β xs∧D.avs β ys
 | .ifc _ d=>d.av β
 | .agg ds=>D.avs β ds
 | .tup ds=>D.avs β ds
 | .any=>True
 | .lit _=>True
 | .fptr _ _=>True
 | .fz _ _ _=>True
 | .z0 _ _=>True
def D.avs(β:Nat):List D→Prop
 | []=>True
 | d :: r=>d.av β∧D.avs β r
end
def LB.av(β:Nat):LB→Prop
 | .cells ds=>D.avs β ds
 | .els _ es=>∀ cells,cells∈es→D.avs β cells
 | .grow _ es=>∀ cells,cells∈es→D.avs β cells
 | .gone=>True
 | .lp _ _ _ E _ _ _=>∀ k d,lk E k=some d→d.av β
 | .lost=>True
section
variable {k0:Nat} {c:Cx} {L:List LB} {H:zap}
inductive Frz (β n:Nat) (es:List (List D)):D→D→Prop
 | same {d:D}:d.av β→Frz β n es d d
 | sl {s len:Nat} {cap:Option Nat} {st:Nat}:st=es.length→s+len≤es.length→(∀ k,cap=some k→len≤k)→Frz β n es (.sl β s n len cap st) (.fz true n ((es.drop s).take len))
 | nil {m:Nat}:Frz β n es (.lit (.slice none 0 0)) (.fz true m [])
inductive FrzB (β n:Nat) (es:List (List D)):LB→LB→Prop
 | same {b:LB}:b.av β→FrzB β n es b b
 | cells {ds ds':List D}:ds.length=ds'.length→(∀(i:Nat) d d',ds[i]? = some d→ds'[i]? = some d'→Frz β n es d d')→FrzB β n es (.cells ds) (.cells ds')
 | grow {m:Nat} {e e':List (List D)}:e.length=e'.length→(∀(i:Nat) x x',e[i]? = some x→e'[i]? = some x'→x.length=x'.length∧∀(j:Nat) d d',x[j]? = some d→x'[j]? = some d'→Frz β n es d d')→FrzB β n es (.grow m e) (.grow m e')
theorem zmD{e e':List (List D)}(h1:e.length=e'.length)(h2:∀(i:Nat) x x',e[i]? = some x→e'[i]? = some x'→x.length=x'.length):e.flatten.length=e'.flatten.length:=by
 induction e generalizing e' with
 | nil=>cases e' with | nil=>rfl | cons _ _=>simp at h1
 | cons a r ih=>
  cases e' with
  | nil=>simp at h1
  | cons b s=>
   have:=ih (by simpa using h1) (fun i x x' q1 q2=>h2 (i+1) x x' (by simpa using q1) (by simpa using q2));have:=h2 0 a b rfl rfl;simp only[qa3,qas];omega
theorem zoF{e e':List (List D)}{P:D→D→Prop}(h1:e.length=e'.length)(h2:∀(i:Nat) x x',e[i]? = some x→e'[i]? = some x'→x.length=x'.length∧∀(j:Nat) d d',x[j]? = some d→x'[j]? = some d'→P d d'):
  ∀(i:Nat) d d',e.flatten[i]? = some d→e'.flatten[i]? = some d'→P d d':=by
 induction e generalizing e' with
 | nil=>intro i d d' q1; simp at q1
 | cons a r ih=>
  cases e' with
  | nil=>simp at h1
  | cons b s=>
   have hab:=h2 0 a b rfl rfl;intro i d d' q1 q2;rw[qa3]at q1 q2;by_cases hi:i<a.length
   ·rw[qal hi]at q1;rw[qal (by omega)]at q2;exact hab.2 i d d' q1 q2
   rw[qat (by omega)]at q1;rw[qat (by omega),← hab.1]at q2;exact ih (by simpa using h1) (fun i x x' q1 q2=>h2 (i+1) x x' (by simpa using q1) (by simpa using q2)) _ d d' q1 q2
end
section
variable {k0:Nat}
inductive FrzL (β n:Nat) (es:List (List D)):Nat→List LB→List LB→Prop
 | nil (i:Nat):FrzL β n es i [] []
 | here {b:LB} {r r':List LB}:FrzL β n es (β+1) r r'→FrzL β n es β (b :: r) (.gone :: r')
 | there {i:Nat} {b b':LB} {r r':List LB}:i≠β→FrzB β n es b b'→FrzL β n es (i+1) r r'→FrzL β n es i (b :: r) (b' :: r')
theorem FrzL.all{β n i0:Nat}{es:List (List D)}{L L':List LB}(h:FrzL β n es i0 L L'):L'.length=L.length∧(∀ i,i0+i=β→i<L.length→L'[i]? = some .gone)∧∀ i b b',i0+i≠β→L[i]? = some b→L'[i]? = some b'→FrzB β n es b b':=by
 induction h with
 | nil i=>exact⟨rfl,fun j _ h=>by simp at h,fun j b b' _ h=>by simp at h⟩
 | here h ih=>
  obtain⟨h1,h2,h3⟩:=ih;refine⟨by simp[h1],fun j hj hl=>?_,fun j b b' hj g1 g2=>?_⟩
  ·have:j=0:=by omega
   subst this;rfl
  ·cases j with
   | zero=>exact(hj rfl).elim
   | succ j=>exact h3 j b b' (by omega) (by simpa using g1) (by simpa using g2)
 | there hne hb h ih=>
  obtain⟨h1,h2,h3⟩:=ih;refine⟨by simp[h1],fun j hj hl=>?_,fun j b b' hj g1 g2=>?_⟩
  ·cases j with
   | zero=>exact(hne hj).elim
   | succ j=>
    have:=h2 j (by omega) (by simpa using hl);simpa using this
  cases j with
  | zero=>simp at g1 g2; subst g1; subst g2; exact hb
  | succ j=>exact h3 j b b' (by omega) (by simpa using g1) (by simpa using g2)
end
mutual
def D.fr:D→Prop
 | .lit _=>True
 | .any=>True
 | .fz t _ els=>t=false∧D.zrX els
 | .agg ds=>D.frs ds
 | .tup ds=>D.frs ds
 | .ptr _ _=>False
 | .eptr _ _ _ _ _=>False
 | .fptr t ds=>t=false∧D.frs ds
 | .sl _ _ _ _ _ _=>False
 | .z0 _ _=>False
 | .clo _ xs ys=>D.frs xs∧D.frs ys
 | .yld _=>False
 | .ifc _ d=>d.fr
def D.frs:List D→Prop
 | []=>True
 | d :: r=>d.fr∧D.frs r
def D.zrX:List (List D)→Prop
 | []=>True
 | l :: r=>D.frs l∧D.zrX r
end
theorem zee:∀ {ds:List D},D.frs ds→∀ {i:Nat} {d:D},ds[i]? = some d→d.fr
 | [],_,i,d,h=>by simp at h
 | e :: r,hs,0,d,h=>by simp at h; subst h; exact hs.1
 | e :: r,hs,i+1,d,h=>zee hs.2 (by simpa using h)
theorem zk3:∀ {es:List (List D)},D.zrX es→∀ {i:Nat} {d:List D},es[i]? = some d→D.frs d
 | [],_,i,d,h=>by simp at h
 | e :: r,hs,0,d,h=>by simp at h; subst h; exact hs.1
 | e :: r,hs,i+1,d,h=>zk3 hs.2 (by simpa using h)
theorem zlE{α:Type}(f:α→List D):∀ {xs:List α},(∀ x∈xs,D.frs (f x))→D.zrX (xs.map f)
 | [],_=>trivial
 | x :: r,h=>⟨h x (by simp),zlE f fun y hy=>h y (by simp[hy])⟩
theorem znV:∀ {a b:List D},D.frs a→D.frs b→D.frs (a ++ b)
 | [],b,_,h=>h
 | x :: r,b,h1,h2=>⟨h1.1,znV h1.2 h2⟩
theorem zle(c:Cx)(b:Nat):(c.frz false).look false b=c.look false b:=by simp[Cx.look,Cx.frz]
theorem R.fr{c:Cx}{d:D}{v:V}(hr:R c d v):∀ {c':Cx},d.fr→(∀ b cs,c.look false b=some cs→c'.look false b=some cs)→R c' d v:=by
 induction hr with
 | any v=>intro c' _ _; exact .any v
 | lit v=>intro c' _ _; exact .lit v
 | fz h1 h2 h3 h4 h5 _ ih=>
  intro c' hf h;obtain⟨rfl,hf⟩:=hf;exact .fz (h _ _ h1) h2 h3 h4 h5 fun i cells k d v g1 g2 g3=>ih i cells k d v g1 g2 g3 (zee (zk3 hf g1) g2) fun b cs hb=>by
   rw[zle]at hb ⊢;exact h b cs hb
 | fz0=>intro c' _ _; exact .fz0
 | fzn=>intro c' _ _; exact .fzn
 | fptr h1 h2 _ ih=>
  intro c' hf h;obtain⟨rfl,hf⟩:=hf;exact .fptr (h _ _ h1) h2 fun k d v g1 g2=>ih k d v g1 g2 (zee hf g1) fun b cs hb=>by
   rw[zle]at hb ⊢;exact h b cs hb
 | clo h1 h2 _ _ ih1 ih2=>intro c' hf h; exact .clo h1 h2 (fun i d v g1 g2=>ih1 i d v g1 g2 (zee hf.1 g1) h) fun i d v g1 g2=>ih2 i d v g1 g2 (zee hf.2 g1) h
 | ifc _ ih=>intro c' hf h; exact .ifc (ih hf h)
 | agg h1 _ ih=>intro c' hf h; exact .agg h1 fun i d v g1 g2=>ih i d v g1 g2 (zee hf g1) h
 | tup h1 _ ih=>intro c' hf h; exact .tup h1 fun i d v g1 g2=>ih i d v g1 g2 (zee hf g1) h
 | _=>intro c' hf _; exact hf.elim
section
variable {fns:Mach} {k0:Nat} {Q:LX→LSt→Prop} {c:Cx} {L:List LB} {S S':LSt} {M:St} {H:zap} {B:Nat} {rd:Option Nat} {bar top e:Bool}
def FnA(fns:Mach)(f:Nat)(args:List D)(res:D):Prop:=
 ∀(z:Nat→Option (List V)) (B:Nat) (H:zap) (vs:List V),(∀ b cs,z b=some cs→H[b]? = some (.blk cs))→B≤H.length→Rs ⟨z,fun _=>none,fun _=>none,H.length⟩ args vs →
  EvF fns B f vs H fun cr H'=>H.length≤H'.length∧(∀ b,b<H.length→H'[b]? = H[b]?)∧∃ v zf,cr=.ret v∧(∀ b cs,zf b=some cs→H.length≤b∧H'[b]? = some (.blk cs))∧R ⟨z,zf,fun _=>none,H.length⟩ res v
theorem FnA.call{f:Nat}{args:List D}{res:D}(h:FnA fns f args res)(hfr:D.frs args)(hres:res.fr)(bar:Bool)(Qp:D→List LB→Prop):zdX fns bar f args L (fun d L'=>d=res∧L'=L) Qp:=by
 intro c B H vs hH hB hr;have hBl:(bif bar then H.length else B)≤H.length:=by
  cases bar
  ·exact qav hB hH.base
  exact qaf _
 have hrs:Rs ⟨c.look false,fun _=>none,fun _=>none,H.length⟩ args vs:=⟨hr.1,fun i d v h1 h2=>(hr.2 i d v h1 h2).fr (zee hfr h1) fun b cs hb=>by simpa [Cx.look]using hb⟩;refine EvF.mono (h (c.look false) _ H vs (fun b cs hb=>hH.look hb) hBl hrs) ?_;rintro cr H' ⟨h1,h2,v,zf,rfl,h3,h4⟩;have hlt:∀ b cs,H[b]? = some (Ob.blk cs)→H'[b]? = some (Ob.blk cs):=fun b cs hb=>(h2 b (qaa.1 hb).1).trans hb
 let c':Cx:={ c with zf:=fun b=>match c.zf b with | some cs=>some cs | none=>zf b }
 have hzf:∀ b cs,c'.zf b=some cs→(c.zf b=some cs)∨(c.zf b=none∧zf b=some cs):=by
  intro b cs hb;simp only[c']at hb;cases hz:c.zf b with
  | some x=>rw[hz]at hb; cases hb; exact .inl rfl
  | none=>rw[hz]at hb; exact .inr ⟨rfl,hb⟩
 have hnew:∀ b cs,zf b=some cs→c.zf b=none:=by
  intro b cs hb;cases hz:c.zf b with
  | none=>rfl
  | some x=>
   have h5:=(qaa.1 (hH.zf b x hz).2).1;have h6:=(h3 b cs hb).1;omega
 have hap:∀ b cs cs',c'.zf b=some cs→c'.za b=some cs'→cs=cs':=by
  intro b cs cs' hb hb';have h5:=(hH.za b cs' hb').1;have h7:=hH.base;rcases hzf b cs hb with h6 | ⟨_,h6⟩
  ·have:=(hH.zf b cs h6).1; omega
  have:=(h3 b cs h6).1; omega
 have hle:c.le c':=⟨fun _ _ h=>h,fun b cs hb=>by simp only[c',hb],fun β x hx=>⟨x,hx,Lc.up.refl x⟩,hap⟩;refine⟨c',res,L,⟨h1,rfl,rfl,hle.zf,fun b hb _=>h2 b hb,fun β x b hx hb=>.inl ⟨β,x,hx,hb⟩,fun b hb=>hb.ze1 (h2 b hb.lt)⟩,⟨?_,?_,?_,?_,hH.inj,hH.scope,?_⟩,hle,?_,rfl,rfl⟩
 ·exact qav hH.base h1
 ·intro b cs hb;exact⟨(hH.za b cs hb).1,hlt b cs (hH.za b cs hb).2⟩
 ·intro b cs hb;rcases hzf b cs hb with h6 | ⟨_,h6⟩
  ·exact⟨(hH.zf b cs h6).1,hlt b cs (hH.zf b cs h6).2⟩
  exact⟨qav hH.base (h3 b cs h6).1,(h3 b cs h6).2⟩
 ·intro β x b hx hb;obtain⟨g1,g2,g3⟩:=hH.own β x b hx hb;refine⟨g1,qbr g2 h1,?_⟩;cases hz:c'.zf b with
  | none=>rfl
  | some cs=>
   rcases hzf b cs hz with h6 | ⟨_,h6⟩
   ·rw[g3]at h6; cases h6
   have:=(h3 b cs h6).1; omega
 ·intro β o ho;exact(hH.obj β o ho).mono hle rfl fun x b hx hb=>h2 b (hH.own β x b hx hb).2.1
 refine h4.fr hres fun b cs hb=>?_
 unfold Cx.look at hb;simp only at hb;cases hz:zf b with
 | some x=>
  rw[hz]at hb;cases hb;simp only[Cx.look,c',hnew b _ hz,hz]
 | none=>
  rw[hz]at hb;simp only[qaH,if_false,Cx.look]at hb;cases hzc:c.zf b with
  | some x=>rw[hzc]at hb; cases hb; simp only[Cx.look,c',hzc]
  | none=>rw[hzc]at hb; simp only at hb; simp only[Cx.look,c',hzc,hz,hb,qaH,if_false]
def zh9(c:Cx)(H:zap):Cx:=⟨c.za,fun b=>if c.base≤b then zaS H b else none,fun _=>none,H.length⟩
theorem ze8(c:Cx)(H:zap):(zh9 c H).frz false=zh9 c H:=by simp[zh9,Cx.frz]
theorem zeA{b:Nat}{cs:List V}(h:H[b]? = some (.blk cs))(hb:c.base≤b∨c.za b=some cs):(zh9 c H).look false b=some cs:=by
 have h1:zaS H b=some cs:=by simp[zaS,h]
 by_cases h2:c.base≤b
 ·simp[Cx.look,zh9,h1,h2]
 rcases hb with h3 | h3
 ·exact absurd h3 h2
 simp[Cx.look,zh9,h2,h3]
structure UnderA (c1 c:Cx) (H:zap):Prop where
 za:∀ b cs,c1.za b=some cs→H[b]? = some (.blk cs)∧c.za b=some cs
 zf:∀ b cs,c1.zf b=some cs→H[b]? = some (.blk cs)∧c.base≤b
 ρ:c1.ρ=c.ρ∨c1.ρ=fun _=>none
theorem UnderA.look{c1:Cx}(h:UnderA c1 c H){t:Bool}{b:Nat}{cs:List V}(hl:c1.look t b=some cs):H[b]? = some (.blk cs)∧(c.base≤b∨c.za b=some cs):=by
 unfold Cx.look at hl;cases hz:c1.zf b with
 | some x=>rw[hz]at hl; cases hl; exact⟨(h.zf b _ hz).1,.inl (h.zf b _ hz).2⟩
 | none=>
  rw[hz]at hl;cases t with
  | true=>simp at hl
  | false=>
   simp only[qaH,if_false]at hl;exact⟨(h.za b _ hl).1,.inr (h.za b _ hl).2⟩
theorem UnderA.frz{c1:Cx}(h:UnderA c1 c H)(t:Bool):UnderA (c1.frz t) c H:=by
 refine⟨fun b cs hb=>?_,h.zf,.inr rfl⟩;cases t with
 | true=>simp[Cx.frz]at hb
 | false=>simp only[Cx.frz,qaH,if_false]at hb; exact h.za b cs hb
theorem R.zi1{c1:Cx}(hu:UnderA c1 c H){β s n len st:Nat}{cap:Option Nat}{v:V}(hr:R c1 (.sl β s n len cap st) v):R c (.sl β s n len cap st) v:=by
 rcases hu.ρ with h1 | h1
 ·cases hr with
  | sl g1 g2=>exact .sl (by rw[← h1]; exact g1) g2
  | slg g1=>exact .slg (by rw[← h1]; exact g1)
 obtain⟨x,hx⟩:=zkB hr;rw[h1]at hx;cases hx
theorem RelH.zi1(h:RelH c L H):UnderA c c H:=⟨fun b cs hb=>⟨(h.za b cs hb).2,hb⟩,fun b cs hb=>⟨(h.zf b cs hb).2,(h.zf b cs hb).1⟩,.inl rfl⟩
theorem zmk(h:RelH c L H){t:Bool}{d d':D}(hs:Snp L t d d'):t=false→∀ {c1:Cx} {v:V},UnderA c1 c H→R c1 d v→R (zh9 c H) d' v:=by
 induction hs with
 | any=>intro _ c1 v _ _; exact .any v
 | lit v=>intro _ c1 v _ hr; cases hr; exact .lit _
 | nil n=>intro _ c1 v _ hr; cases hr; exact .fzn
 | same n els ht=>intro ht'; rw[ht]at ht'; cases ht'
 | fz0 t' n=>
  intro _ c1 v hu hr;cases hr with
  | fz0=>exact .fz0
  | fzn=>exact .fzn
  | fz h1 h2 h3 h4 h5 h6=>exact .fz0
 | z0 t' n=>
  intro _ c1 v hu hr;cases hr with
  | z0 h1 h2=>exact .fz0
  | z0n=>exact .fzn
 | @fz t' n els els' ht hlen hc hd ih=>
  intro ht' c1 v hu hr;subst ht';cases hr with
  | fz0=>
   have:els'=[]:=qao (by simpa using hlen.symm);subst this;exact .fz0
  | fzn=>
   have:els'=[]:=qao (by simpa using hlen.symm);subst this;exact .fzn
  | fz h1 h2 h3 h4 h5 h6=>
   rename_i b o cap cs;obtain⟨g1,g2⟩:=hu.look h1;rw[hlen];have hel:∀(i:Nat) cells',els'[i]? = some cells'→∃ cells,els[i]? = some cells:=fun i cells' hi=>by
    have:=(qaa.1 hi).1;exact⟨els[i],qag (by omega)⟩
   refine .fz (zeA g1 g2) h2 (by rw[← hlen]; exact h3) (by rw[← hlen]; exact h4) (fun i cells' hi=>?_) fun i cells' k d' v hi hk hv=>?_
   ·obtain⟨cells,hi0⟩:=hel i cells' hi;rw[← hc i cells cells' hi0 hi];exact h5 i cells hi0
   ·obtain⟨cells,hi0⟩:=hel i cells' hi;have hkl:=(qaa.1 hk).1;have hk0:cells[k]? = some (cells[k]'(by rw[hc i cells cells' hi0 hi]; exact hkl)):=qag _;rw[ze8];exact ih i k cells cells' _ d' hi0 hi hk0 hk rfl (hu.frz t') (h6 i cells k _ v hi0 hk0 hv)
 | @sl β s n len cap st es els' he hle hcap hlen hc hd ih=>
  intro ht' c1 v hu hr;subst ht';have hr0:=R.zi1 hu hr;subst hlen;rcases slR h he hr0 with⟨b,vs,q1,rfl,q2,q3⟩| ⟨rfl,rfl,h0,_,_,rfl,_⟩
  ·obtain⟨e1,e2,_⟩:=zdf h he;have hob:=(h.own β _ b q1 rfl).1;have hel:∀(i:Nat) cells',els'[i]? = some cells'→∃ cells,es[s+i]? = some cells:=fun i cells' hi=>by
    have:=(qaa.1 hi).1;exact⟨es[s+i],qag (by omega)⟩
   have hroom:s * n+els'.length * n≤vs.length:=by rw[q3.zj9,← qaI]; exact qar n hle
   refine .fz (zeA q2 (.inl hob)) e1 hcap hroom (fun i cells' hi=>?_) fun i cells' k d' v hi hk hv=>?_
   ·obtain⟨cells,hi0⟩:=hel i cells' hi;rw[← hc i cells cells' hi0 hi];exact q3.len cells (qaL hi0)
   obtain⟨cells,hi0⟩:=hel i cells' hi;have hcl:=q3.len cells (qaL hi0);have hkl:=(qaa.1 hk).1;have hcc:=hc i cells cells' hi0 hi;have hk0:cells[k]? = some (cells[k]'(by omega)):=qag _;rw[ze8]
   have hrel:=(q3.at_ hi0).2 k _ v hk0 (by
    rw[qap,if_pos (by omega),qaq,← hv];congr 1
    rw[qaI])
   exact ih i k cells cells' _ d' hi0 hi hk0 hk rfl h.zi1 hrel
  ·have:els'=[]:=qao h0;subst this;exact .fzn
 | @ptr β o ds ds' hL hle hd ih=>
  intro ht' c1 v hu hr;subst ht';cases hr with
  | ptr g1=>
   rename_i b0;have g2:c.ρ β=some (.cell b0):=by
    rcases hu.ρ with h1 | h1
    ·rw[← h1]; exact g1
    rw[h1]at g1; cases g1
   obtain⟨b,vs,k1,k2,k3⟩:=h.obj β _ hL;rw[g2]at k1;cases k1;have hob:=(h.own β _ _ g2 rfl).1;refine .fptr (zeA k2 (.inl hob)) (by rw[← k3.1]; exact hle) fun k d' v hk hv=>?_
   have hkl:=(qaa.1 hk).1;have hk0:ds[o+k]? = some (ds[o+k]'(by omega)):=qag _;rw[ze8];exact ih k _ d' hk0 hk rfl h.zi1 (k3.2 _ _ v hk0 hv)
 | @clo f xs ys xs' ys' h1 h2 _ _ ih1 ih2=>
  intro ht' c1 v hu hr;cases hr with
  | clo g1 g2 g3 g4=>
   refine .clo (h1.symm.trans g1) (h2.symm.trans g2) (fun i d' v k1 k2=>?_) fun i d' v k1 k2=>?_
   ·have hil:=(qaa.1 k1).1;have hi0:xs[i]? = some (xs[i]'(by omega)):=qag _;exact ih1 i _ d' hi0 k1 ht' hu (g3 i _ v hi0 k2)
   ·have hil:=(qaa.1 k1).1;have hi0:ys[i]? = some (ys[i]'(by omega)):=qag _;exact ih2 i _ d' hi0 k1 ht' hu (g4 i _ v hi0 k2)
 | @fptr t' ds ds' ht hlen hd ih=>
  intro ht' c1 v hu hr;subst ht';cases hr with
  | fptr h1 h2 h3=>
   obtain⟨g1,g2⟩:=hu.look h1;refine .fptr (zeA g1 g2) (by rw[← hlen]; exact h2) fun k d' v hk hv=>?_
   have hkl:=(qaa.1 hk).1;have hk0:ds[k]? = some (ds[k]'(by omega)):=qag _;rw[ze8];exact ih k _ d' hk0 hk rfl (hu.frz t') (h3 k _ v hk0 hv)
 | ifc _ ih=>intro ht' c1 v hu hr; cases hr with | ifc g=>exact .ifc (ih ht' hu g)
 | @agg ds ds' h1 _ ih=>
  intro ht' c1 v hu hr;cases hr with
  | agg g1 g2=>
   refine .agg (h1.symm.trans g1) fun i d' v k1 k2=>?_
   have hil:=(qaa.1 k1).1;have hi0:ds[i]? = some (ds[i]'(by omega)):=qag _;exact ih i _ d' hi0 k1 ht' hu (g2 i _ v hi0 k2)
 | @tup ds ds' h1 _ ih=>
  intro ht' c1 v hu hr;cases hr with
  | tup g1 g2=>
   refine .tup (h1.symm.trans g1) fun i d' v k1 k2=>?_
   have hil:=(qaa.1 k1).1;have hi0:ds[i]? = some (ds[i]'(by omega)):=qag _;exact ih i _ d' hi0 k1 ht' hu (g2 i _ v hi0 k2)
def zeV(rs:List RX)(res:D):LX→LSt→Prop:=fun x S'=>(x=.ret∨x=.normal)∧∃ ds,zeD S'.heap S'.env rs=some ds∧Snp S'.heap false (zdx ds) res
theorem zeV.ret{rs:List RX}{res:D}{ds:List D}(h:zeD S.heap S.env rs=some ds)(hs:Snp S.heap false (zdx ds) res):zeV rs res .ret S:=⟨.inl rfl,ds,h,hs⟩
theorem FnA.intro{f:Nat}{fn:Mx.Fn}{args:List D}{res:D}(hf:fns.has f fn)(hN:args.length≤fn.N)(hp:fn.p=false)
  (h:EvL fns 0 [.code fn.c] ⟨fn.N,zek 0 args,[]⟩ (zeV fn.rs res)):FnA fns f args res:=by
 intro z B H vs hz hB hr;have hH:RelH ⟨z,fun _=>none,fun _=>none,H.length⟩ [] H:=⟨qaf _,fun b cs hb=>⟨(qaa.1 (hz b cs hb)).1,hz b cs hb⟩,fun b cs hb=>(by cases hb),fun β x b hx=>(by cases hx),fun β β' x x' b hx=>(by cases hx),fun β x hx=>(by cases hx),fun β o ho=>(by simp at ho)⟩;have hrel:=ziS hH hr hN;have hN':vs.length≤fn.N:=by rw[← hr.1]; exact hN
 have post:EvC fns B none fn.c ⟨vs ++ List.replicate (fn.N - vs.length) zbg,[],H⟩ fun ex M'=>(ex=.ret∨ex=.normal)∧∃ H2:zap,Leaves B M'.dfs M'.heap H2∧∃ us,zcI H2 M'.env fn.rs=some us ∧
   H.length≤H2.length∧(∀ b:Nat,b<H.length→H2[b]? = H[b]?)∧∃ zf:Nat→Option (List V),(∀ b cs,zf b=some cs→H.length≤b∧H2[b]? = some (.blk cs))∧R ⟨z,zf,fun _=>none,H.length⟩ res (zfp us):=by
  refine EvC.mono (h _ H _ B none _ (zqX.none _) (Way.start _ _ _ _) hrel hB) ?_;intro ex M' hx;have hx':=zfi hx;obtain⟨c',S',x,h1,h2,h3,h4,ds,h5,h6⟩:=hx';have hex:ex=.ret∨ex=.normal:=by
   rcases h4 with rfl | rfl
   ·cases ex<;>first | (exact h3.elim)| exact .inl rfl
   cases ex<;>first | (exact h3.elim)| exact .inr rfl
  obtain⟨H2,l1,l2,l3⟩:=h1.leave h2.heap hB;have h2':Rel c' S' { M' with heap:=H2 }:=⟨h2.env,h2.len,l2⟩;obtain⟨us,g1,g2⟩:=zdo h2' h5;have hsn:=zmk l2 h6 rfl l2.zi1 (zfk g2);have hbase:c'.base=H.length:=h1.step.base;have hza:c'.za=z:=h1.step.za;refine⟨hex,H2,l1,us,g1,l3.len,fun b hb=>l3.ze1 b hb fun β x hx=>(by cases hx),fun b=>if H.length≤b then zaS H2 b else none,fun b cs hb=>?_,?_⟩
  ·simp only at hb;split at hb
   ·rename_i hle;exact⟨hle,zcl hb⟩
   cases hb
  refine hsn.mono ⟨fun b cs hb=>(by simp only[zh9,hza]at hb; exact hb),fun b cs hb=>(by simp only[zh9,hbase]at hb; exact hb),fun β x hx=>(by cases hx),fun b cs cs' h1 h2=>?_⟩;simp only at h1 h2;have:=(qaa.1 (hz b cs' h2)).1;split at h1
  ·omega
  cases h1
 obtain⟨N,ex,S',h1,h2,H2,h3,us,h4,h5,h6,zf,h7,h8⟩:=post;exact EvF.plain hf hp hN' ⟨N,ex,S',h1,h2,H2,h3,us,h4,h5,h6,zfp us,zf,rfl,h7,h8⟩
theorem zk6(L:List LB)(n:Nat)(lo hi mx:Option Int):zpa L n lo hi mx (.lit (.slice none 0 0))=(match bounds 0 (some 0) lo hi mx with | some _=>some (.lit (.slice none 0 0))| none=>none):=rfl
theorem zmQ(L:List LB)(n:Nat)(lo hi mx:Option Int)(β s n' len:Nat)(cap:Option Nat)(st:Nat):zpa L n lo hi mx (.sl β s n' len cap st)=(if n=n' then(match zdQ L β n st with
  | some _=>(match bounds len cap lo hi mx with
   | some (l,h,c)=>if mx=none then some (.sl β (s+l) n (h - l) c st)else none
   | none=>none)
  | none=>none)else none):=rfl
theorem znp(L:List LB)(n:Nat)(lo hi mx:Option Int)(t:Bool)(n':Nat)(els:List (List D)):zpa L n lo hi mx (.fz t n' els)=(if n=n' then zq6 t n els lo hi mx else none):=rfl
end
end Go.Lx
