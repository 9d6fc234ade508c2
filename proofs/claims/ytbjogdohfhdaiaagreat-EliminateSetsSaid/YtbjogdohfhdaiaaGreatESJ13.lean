/-
 Plain laws: what the reference finds right. Conditions: none.
-/
import Derived.Test.YtbjogdohfhdaiaaGreatESJ12
set_option linter.unusedSimpArgs false
set_option linter.unusedVariables false
namespace Go.Dc
open Go Go.Mx Go.Lx
structure RN where
 c:Nat
 ps:List Nat
 rows:List (List Int)
def rd(x:RN):S_api_Node:=⟨x.c,iL x.ps,x.rows⟩
def P1(m:Int)(y:S_api_Node):Prop:=(1≤y.zaD∧y.zaD≤4)∧zws m (-1) y.parents
theorem zvm:∀ {zs:List Nat} {z:Nat},z∈zs→z≤zs.sum
 | x :: xs,z,h=>by
  rw[qc1];rcases qaz.1 h with rfl | h
  ·omega
  have:=zvm h; omega
theorem zsl{n:Nat}{pss:List (List Nat)}(hl:pss.length=n)(hp:∀ ps∈pss,∀ p∈ps,p<n):EOk (pss.map zcJ):=by
 intro v p h;by_cases hv:v<pss.length
 ·rw[show(pss.map zcJ).getD v 0=zcJ pss[v] by simp[hv],zeu]at h;have:=hp _ (qat hv) p (of_decide_eq_true h);exact⟨by simpa using hv,by simpa [hl]using this⟩
 rw[show(pss.map zcJ).getD v 0=0 by simp[hv]]at h;simp at h
theorem RightN.p1{g:Nat}{ns:List NN}(h:RightN g ns):∀ y∈ns.map nd,P1 (ns.length:Int) y:=by
 intro y hy;obtain⟨x,hx,rfl⟩:=qaB.1 hy;have hc:=h.zaD x hx;exact⟨⟨by simp only[nd]; omega,by simp only[nd]; omega⟩,zws.of (h.inc x hx) (fun q _=>by omega) (h.lt x hx)⟩
theorem zmR{α:Type}{xs:List α}{k:Nat}:∃ ys:List α,zdd xs 0 (zcF (xs.length:Int) (k:Int))=some ys∧ys.length≤k∧∀ y∈ys,y∈xs:=by
 have hm:zcF (xs.length:Int) (k:Int)=((min xs.length k:Nat):Int):=by unfold zcF; split<;>omega
 refine⟨xs.take (min xs.length k),?_,by simp; omega,fun y hy=>List.mem_of_mem_take hy⟩;rw[hm,show(0:Int)=((0:Nat):Int)from rfl];unfold zdd;rw[if_pos (by omega)];simp
theorem RightN.eok{g:Nat}{ns:List NN}(h:RightN g ns):EOk (zam ns):=by
 have:zam ns=(ns.map (·.ps)).map zcJ:=by simp[zam,Function.comp_def]
 rw[this];refine zsl (n:=ns.length) (by simp) fun ps hps p hp=>?_
 obtain⟨x,hx,rfl⟩:=qaB.1 hps;exact h.lt x hx p hp
def zyT:List Nat→Nat→List Nat
 | [],_=>[]
 | c :: cs,w=>(w / zac cs):: zyT cs (w % zac cs)
theorem zpO(c:Nat)(cs:List Nat):zac (c :: cs)=c * zac cs:=rfl
theorem zsJ:∀ {cs:List Nat} {w:Nat},w<zac cs→∀(i:Nat) (h:i<cs.length),(zyT cs w).getD i 0<cs[i]
 | [],_,_,i,h=>absurd h (qap _)
 | c :: cs,w,hw,i,h=>by
  rw[zpO]at hw;have hp:0<zac cs:=Nat.pos_of_ne_zero fun h0=>by rw[h0,Nat.mul_zero]at hw; omega
  cases i with
  | zero=>
   show w / zac cs<c;exact(qdc hp).2 hw
  | succ i=>
   show(zyT cs (w % zac cs)).getD i 0<cs[i]'(by simpa using h);exact zsJ (qbc _ hp) i (by simpa using h)
structure CsOk (cs:List Nat):Prop where
 len:cs.length≤8
 zaD:∀ c∈cs,1≤c∧c≤4
 prod:zac cs≤1024
theorem RightN.cs{g:Nat}{ns:List NN}(h:RightN g ns):CsOk (ns.map (·.c)):=by
 refine⟨by have:=h.n2; simpa using this,fun c hc=>?_,h.prod⟩;obtain⟨x,hx,rfl⟩:=qaB.1 hc;exact h.zaD x hx
def lo(ps:List Nat)(v:Nat):List Nat:=ps.filter fun p=>decide (p<v)
def hi(ps:List Nat)(v:Nat):List Nat:=ps.filter fun p=>decide (v<p)
def fam(ps:List Nat)(v:Nat):List Nat:=lo ps v ++ v :: hi ps v
theorem zwn{ps:List Nat}{v x:Nat}(h:x∈lo ps v):x<v:=of_decide_eq_true (qaJ.1 h).2
theorem zwH{ps:List Nat}{v x:Nat}(h:x∈hi ps v):v<x:=of_decide_eq_true (qaJ.1 h).2
theorem zxa{ps:List Nat}{v:Nat}(h:ps.Pairwise (· < ·))(hv:v ∉ ps):lo ps v ++ hi ps v=ps:=by
 refine zgS (qcL.2 ⟨qbl _ h,qbl _ h,fun a ha b hb=>Nat.lt_trans (zwn ha) (zwH hb)⟩) h fun x=>?_
 unfold lo hi;simp only[qa9,qaJ,decide_eq_true_eq];constructor
 ·rintro(⟨h1,_⟩| ⟨h1,_⟩)<;> exact h1
 intro hx;rcases Nat.lt_trichotomy x v with h1 | h1 | h1
 ·exact .inl ⟨hx,h1⟩
 ·exact absurd (h1 ▸ hx) hv
 exact .inr ⟨hx,h1⟩
theorem zj7{ps:List Nat}{v:Nat}(h:ps.Pairwise (· < ·)):(fam ps v).Pairwise (· < ·):=by
 refine qcL.2 ⟨qbl _ h,qbf.2 ⟨fun a ha=>zwH ha,qbl _ h⟩,fun a ha b hb=>?_⟩;rcases qaz.1 hb with rfl | hb
 ·exact zwn ha
 exact Nat.lt_trans (zwn ha) (zwH hb)
theorem zhQ{ps:List Nat}{v u:Nat}:u∈fam ps v↔u=v∨u∈ps:=by
 unfold fam lo hi;simp only[qa9,qaz,qaJ,decide_eq_true_eq];constructor
 ·rintro(⟨h1,_⟩| h1 | ⟨h1,_⟩)
  ·exact .inr h1
  ·exact .inl h1
  exact .inr h1
 rintro(h1 | h1)
 ·exact .inr (.inl h1)
 rcases Nat.lt_trichotomy u v with h2 | h2 | h2
 ·exact .inl ⟨h1,h2⟩
 ·exact .inr (.inl h2)
 exact .inr (.inr ⟨h1,h2⟩)
def cd(cs us:List Nat):List Nat:=us.map fun p=>cs.getD p 0
structure FacOk (cs:List Nat) (v:Nat) (x:NN):Prop where
 inc:x.ps.Pairwise (· < ·)
 nv:v ∉ x.ps
 lt:∀ p∈x.ps,p<cs.length
 hv:v<cs.length
 cv:cs.getD v 0=x.c
 len:x.rows.length=zac (cd cs x.ps)
 row:∀ r∈x.rows,r.length=x.c
 num:∀ r∈x.rows,∀ w∈r,w≤60
 zaD:∀ c∈cs,1≤c∧c≤4
 l8:cs.length≤8
 prod:zac cs≤1024
def zs7(cs:List Nat)(v:Nat)(x:NN):Nat:=zac (cd cs (lo x.ps v))
def za8(cs:List Nat)(v:Nat)(x:NN):Nat:=zac (cd cs (hi x.ps v))
def zmX(cs:List Nat)(v:Nat)(x:NN):Fc:=⟨fam x.ps v,cd cs (fam x.ps v),(List.range' 0 (zs7 cs v x * x.c * za8 cs v x)).map (zx6 (za8 cs v x) x.c x.rows)⟩
theorem zfL{cs us:List Nat}(h:∀ c∈cs,1≤c∧c≤4)(hu:∀ u∈us,u<cs.length):∀ c∈cd cs us,1≤c∧c≤4:=by
 intro c hc;obtain⟨u,h1,rfl⟩:=qaB.1 hc;have h2:=hu u h1;have:cs.getD u 0=cs[u]:=by rw[qah,qac h2]; rfl
 rw[this];exact h _ (qat h2)
theorem FacOk.flt{cs:List Nat}{v:Nat}{x:NN}(h:FacOk cs v x):∀ u∈fam x.ps v,u<cs.length:=by
 intro u hu;rcases zhQ.1 hu with rfl | hu
 ·exact h.hv
 exact h.lt u hu
theorem FacOk.fl8{cs:List Nat}{v:Nat}{x:NN}(h:FacOk cs v x):(fam x.ps v).length≤8:=qam (zna (zj7 h.inc) h.flt) h.l8
theorem zyC{ps:List Nat}{v u:Nat}(h:u∈hi ps v):u∈ps:=(qaJ.1 h).1
theorem zo9(cs a b:List Nat):cd cs (a ++ b)=cd cs a ++ cd cs b:=qb2
theorem FacOk.cdf{cs:List Nat}{v:Nat}{x:NN}(h:FacOk cs v x):cd cs (fam x.ps v)=cd cs (lo x.ps v)++ x.c :: cd cs (hi x.ps v):=by
 unfold fam;rw[zo9];show _ ++ cs.getD v 0 :: _=_;rw[h.cv];rfl
theorem FacOk.size{cs:List Nat}{v:Nat}{x:NN}(h:FacOk cs v x):zac (cd cs (fam x.ps v))=zs7 cs v x * x.c * za8 cs v x:=by
 rw[h.cdf,zel,qa4];rfl
theorem FacOk.zBl{cs:List Nat}{v:Nat}{x:NN}(h:FacOk cs v x):x.rows.length=zs7 cs v x * za8 cs v x:=by
 have e:=zxa h.inc h.nv;have e2:cd cs x.ps=cd cs (lo x.ps v)++ cd cs (hi x.ps v):=by rw[← zo9,e]
 rw[h.len,e2,zel];rfl
theorem zlf{f:Nat→Nat}(p:Nat→Bool):∀ {us:List Nat},(∀ u∈us,1≤f u)→zac ((us.filter p).map f)≤zac (us.map f)
 | [],_=>qan _
 | u :: us,h=>by
  have h1:=h u qao;have h2:=zlf p fun w hw=>h w (qaj u hw)
  have h3:zac ((u :: us).map f)=f u * zac (us.map f):=rfl;rw[List.filter_cons,h3];cases p u with
  | true=>
   rw[if_pos rfl];exact qcd _ h2
  | false=>
   rw[if_neg (by decide)];exact qam h2 (qcC _ h1)
theorem zoD(cs:List Nat):(List.range cs.length).map (fun p=>cs.getD p 0)=cs:=by
 refine qb8 (by simp) fun i h1 h2=>?_
 rw[qdf,List.getElem_range,qah,qac h2];rfl
theorem zj6{cs us:List Nat}(hc:∀ c∈cs,1≤c)(h:us.Pairwise (· < ·))(hu:∀ u∈us,u<cs.length):zac (cd cs us)≤zac cs:=by
 have e:us=(List.range cs.length).filter (fun u=>decide (u∈us)):=zgS h (qbl _ qc5) fun x=>by
  simp only[qaJ,qbI,decide_eq_true_eq];exact⟨fun hx=>⟨hu x hx,hx⟩,fun hx=>hx.2⟩
 have k:=zlf (f:=fun p=>cs.getD p 0) (fun u=>decide (u∈us)) (us:=List.range cs.length) fun u hx=>by
  have h2:=qbI.1 hx;rw[qah,qac h2];exact hc _ (qat h2)
 rw[← e,zoD]at k;exact k
theorem FacOk.le{cs:List Nat}{v:Nat}{x:NN}(h:FacOk cs v x):zs7 cs v x * x.c * za8 cs v x≤1024:=by
 rw[← h.size];exact qam (zj6 (fun c hc=>(h.zaD c hc).1) (zj7 h.inc) h.flt) h.prod
theorem FacOk.B0{cs:List Nat}{v:Nat}{x:NN}(h:FacOk cs v x):0<za8 cs v x:=zdj fun c hc=>(zfL h.zaD (fun u hu=>h.lt u (zyC hu)) c hc).1
theorem FacOk.c1{cs:List Nat}{v:Nat}{x:NN}(h:FacOk cs v x):1≤x.c∧x.c≤4:=by
 have:=zfL (us:=[v]) h.zaD (fun u hu=>by rw[qaQ.1 hu]; exact h.hv) (cs.getD v 0) (qaQ.2 rfl);rw[h.cv]at this;exact this
theorem RightN.fac{g:Nat}{ns:List NN}(h:RightN g ns){v:Nat}{x:NN}(hx:ns[v]? = some x):FacOk (ns.map (·.c)) v x:=by
 obtain⟨hv,ev⟩:=qab.1 hx;have hm:x∈ns:=ev ▸ qat hv;refine⟨h.inc x hm,fun hp=>h.ne hx v hp rfl,by simpa using h.lt x hm,by simpa using hv,?_,(h.rows x hm).len,fun r hr=>((h.rows x hm).row r hr).1,fun r hr w hw=>?_,h.cs.zaD,by simpa using h.n2,h.prod⟩
 ·rw[qah,qaT,hx];rfl
 have:=zvm hw;have:=((h.rows x hm).row r hr).2;have:=h.g2;omega
def zgT:List Nat→List Nat→(Nat→Nat)→Nat→Nat
 | u :: us,d :: ds,F=>zgT us ds (upd F u d)
 | _,_,F=>F
theorem zoX:∀ {us ds:List Nat} {F:Nat→Nat} {x:Nat},x ∉ us→zgT us ds F x=F x
 | [],_,_,_,_=>by unfold zgT; rfl
 | u :: us,[],_,_,_=>by unfold zgT; rfl
 | u :: us,d :: ds,F,x,h=>by
  unfold zgT;rw[zoX fun h1=>h (qaj u h1),ziE fun e=>h (by rw[e]; exact qao)]
theorem znb:∀ {us ds:List Nat} {F:Nat→Nat} {x:Nat},us.Nodup→us.length=ds.length→x∈us→zgT us ds F x=at_ us ds x
 | [],_,_,_,_,_,h=>by simp at h
 | u :: us,[],_,_,_,h,_=>by simp at h
 | u :: us,d :: ds,F,x,hn,hl,h=>by
  obtain⟨n1,n2⟩:=qbh.1 hn;unfold zgT;rw[zes];by_cases e:u=x
  ·subst e;rw[zoX n1,zfk,beq_self_eq_true,cond_true]
  rw[beq_false_of_ne e,cond_false];exact znb n2 (by simpa using hl) ((qaz.1 h).resolve_left fun e2=>e e2.symm)
theorem zw7{cs:List Nat}{v:Nat}{x:NN}(h:FacOk cs v x){j:Nat}(hj:j<zs7 cs v x * x.c * za8 cs v x):dig (cd cs (fam x.ps v)) j=dig (cd cs (lo x.ps v)) (j / (x.c * za8 cs v x))++ j / za8 cs v x % x.c :: dig (cd cs (hi x.ps v)) (j % za8 cs v x):=by
 have hB:=h.B0;have hc:=h.c1;have hp:zac (x.c :: cd cs (hi x.ps v))=x.c * za8 cs v x:=rfl;have hp0:0<x.c * za8 cs v x:=qcS (by omega) hB;rw[h.cdf,znH _ _ _ (by rw[hp]; exact hp0) (by rw[hp,← qa4]; exact hj),hp];congr 1
 show j % (x.c * za8 cs v x) / za8 cs v x :: dig (cd cs (hi x.ps v)) (j % (x.c * za8 cs v x) % za8 cs v x)=_;rw[show j % (x.c * za8 cs v x) / za8 cs v x=j / za8 cs v x % x.c by rw[qaR,Nat.mod_mul_right_div_self],Nat.mod_mod_of_dvd _ ⟨x.c,qaR _ _⟩]
theorem zBH{a a' b b':List Nat}{x x':Nat}(h:a ++ x :: b=a' ++ x' :: b')(hl:a.length=a'.length):a=a'∧x=x'∧b=b':=by
 obtain⟨h1,h2⟩:=List.append_inj h hl;obtain⟨h3,h4⟩:=List.cons.inj h2;exact⟨h1,h3,h4⟩
theorem zri{cs:List Nat}{v:Nat}{x:NN}(h:FacOk cs v x){F:Nat→Nat}{j:Nat}(hj:j<zs7 cs v x * x.c * za8 cs v x)(e:(fam x.ps v).map F=dig (cd cs (fam x.ps v)) j):F v=j / za8 cs v x % x.c∧x.ps.map F=dig (cd cs x.ps) (j / (x.c * za8 cs v x)* za8 cs v x+j % za8 cs v x):=by
 rw[zw7 h hj]at e;unfold fam at e;rw[qb2,qaL]at e;obtain⟨h1,h2,h3⟩:=zBH e (by rw[qaA,zey]; simp[cd]);refine⟨h2,?_⟩;have hB:=h.B0;have hmod:=qbc j hB;have ha:j / (x.c * za8 cs v x)<zs7 cs v x:=qbL (by rw[qaR (x.c * za8 cs v x),← qa4]; exact hj);have hlt:j / (x.c * za8 cs v x)* za8 cs v x+j % za8 cs v x<zs7 cs v x * za8 cs v x:=by
  have:=qar (za8 cs v x) (show j / (x.c * za8 cs v x)+1≤zs7 cs v x from ha);rw[qaI,qba]at this;omega
 have hps:cd cs x.ps=cd cs (lo x.ps v)++ cd cs (hi x.ps v):=by rw[← zo9,zxa h.inc h.nv]
 rw[hps,znH _ _ _ hB hlt];have d1:(j / (x.c * za8 cs v x)* za8 cs v x+j % za8 cs v x) / za8 cs v x=j / (x.c * za8 cs v x):=by rw[qbV,qck _ _ hB,qbP hmod,qaP]
 have d2:(j / (x.c * za8 cs v x)* za8 cs v x+j % za8 cs v x) % za8 cs v x=j % za8 cs v x:=by rw[qbV,qbA,Nat.mod_mod]
 show _=dig _ ((j / (x.c * za8 cs v x)* za8 cs v x+j % za8 cs v x) / za8 cs v x)++ dig _ ((j / (x.c * za8 cs v x)* za8 cs v x+j % za8 cs v x) % za8 cs v x);rw[d1,d2,← h1,← h3,← qb2,zxa h.inc h.nv]
theorem zzN{A B c j:Nat}(hB:0<B)(hj:j<A * c * B):j / (c * B)* B+j % B<A * B:=by
 have hmod:=qbc j hB;have ha:j / (c * B)<A:=qbL (by rw[qaR (c * B),← qa4]; exact hj);have:=qar B (show j / (c * B)+1≤A from ha);rw[qaI,qba]at this;omega
theorem zwS{cs us:List Nat}(h:∀ c∈cs,1≤c∧c≤4)(hu:∀ u∈us,u<cs.length):∀ c∈cd cs us,1≤c∧c≤8:=fun c hc=>⟨(zfL h hu c hc).1,qam (zfL h hu c hc).2 (by decide)⟩
theorem zg9{α:Type}{xs:List α}{i:Nat}{d:α}:xs.getD i d=d∨xs.getD i d∈xs:=by
 rw[qah];rcases qa3 i xs.length with h | h
 ·rw[qac h];exact .inr (qat h)
 rw[qaN h];exact .inl rfl
theorem zrq{B c:Nat}{rows:List (List Nat)}(h:∀ r∈rows,∀ w∈r,w≤60)(j:Nat):zx6 B c rows j≤60:=by
 unfold zx6;rcases zg9 (xs:=rows) (i:=j / (c * B)* B+j % B) (d:=[])with e | e
 ·rw[e]; simp
 rcases zg9 (xs:=rows.getD (j / (c * B)* B+j % B) []) (i:=j / B % c) (d:=0)with e2 | e2
 ·rw[e2]; omega
 exact h _ e _ e2
theorem znR{cs:List Nat}{v:Nat}{x:NN}(h:FacOk cs v x):FcOk (zmX cs v x):=by
 have h8:=h.fl8;have hle:=h.le;have hsz:=h.size;refine⟨by simp[zmX,cd],by simp only[zmX,cd,qaA]; omega,zwS h.zaD h.flt,?_,?_,zj7 h.inc,fun u hu=>?_,fun w hw=>?_⟩
 ·show zac (cd cs (fam x.ps v))≤4096;omega
 ·show _=zac (cd cs (fam x.ps v));rw[hsz];simp[zmX]
 ·have:=h.flt u hu;have:=h.l8;omega
 obtain⟨j,_,rfl⟩:=qaB.1 hw;have:=zrq (B:=za8 cs v x) (c:=x.c) h.num j;simp only[zdl];omega
def zxX(cs:List Nat)(x:NN)(s:Nat→Nat):Nat:=dot (x.ps.map s) (zas (cd cs x.ps))
theorem zwI{cs:List Nat}{v:Nat}{x:NN}{u:Nat}(hu:u∈fam x.ps v):at_ (zmX cs v x).vs (zmX cs v x).cs u=cs.getD u 0:=zgj (h:=fun p=>cs.getD p 0) hu
theorem zuX{cs:List Nat}{v:Nat}{x:NN}(h:FacOk cs v x){s:Nat→Nat}(hs:∀ u∈fam x.ps v,s u<cs.getD u 0):(zmX cs v x).val s=(x.rows.getD (zxX cs x s) []).getD (s v) 0∧zxX cs x s<x.rows.length:=by
 have hok:=znR h;have hb:zb8 (cd cs (fam x.ps v)) ((fam x.ps v).map s):=Fit.below hok (f:=zmX cs v x) fun u hu=>by rw[zwI hu]; exact hs u hu
 have hlt:=zi8 hb;have hdig:=zjZ hb;have hj:dot ((fam x.ps v).map s) (zas (cd cs (fam x.ps v)))<zs7 cs v x * x.c * za8 cs v x:=by rw[← h.size]; exact hlt
 obtain⟨k1,k2⟩:=zri h (F:=s) hj hdig.symm;have hkl:=zzN h.B0 hj;have hps:zac (cd cs x.ps)=zs7 cs v x * za8 cs v x:=by rw[← h.len,h.zBl]
 have hr:zxX cs x s=dot ((fam x.ps v).map s) (zas (cd cs (fam x.ps v))) / (x.c * za8 cs v x)* za8 cs v x+dot ((fam x.ps v).map s) (zas (cd cs (fam x.ps v))) % za8 cs v x:=by
  unfold zxX;rw[k2,zg7 (zwS h.zaD h.lt) (by rw[hps]; exact hkl)]
 refine⟨?_,by rw[hr,h.zBl]; exact hkl⟩;show(zmX cs v x).get (dot ((fam x.ps v).map s) (zas (cd cs (fam x.ps v))))=_;rw[hr,k1];unfold Fc.get zmX;simp only[];rw[get_map hj];rfl
theorem zue{cs:List Nat}{v:Nat}{x:NN}(h:FacOk cs v x)(i:Nat):(zmX cs v x).get i≤60:=by
 unfold Fc.get;rcases zg9 (xs:=(zmX cs v x).ws) (i:=i) (d:=0)with e | e
 ·rw[e]; omega
 obtain⟨j,_,e2⟩:=qaB.1 e;rw[← e2];exact zrq h.num j
theorem zxq(xs:List Nat):big false xs=xs.sum:=by
 induction xs with
 | nil=>rfl
 | cons x xs ih=>rw[zkC,ih]; rfl
theorem NetOk.right{num:List Nat}{g:Nat}{ns:List NN}(h:NetOk num g ns):RightN g ns:=by
 have at_v:∀ v (hv:v<ns.length),∃ j,num[j]? = some v∧NodeOk num g (ns.map (·.c)) j ns[v]:=by
  intro v hv;obtain⟨j,hj,hjv⟩:=qcp.1 (h.perm.all v hv);exact⟨j,by rw[qac hj,hjv],h.node j v ns[v] (by rw[qac hj,hjv]) (qac hv)⟩
 have at_x:∀ x∈ns,∃ j v,num[j]? = some v∧NodeOk num g (ns.map (·.c)) j x:=by
  intro x hx;obtain⟨v,hv,rfl⟩:=qcp.1 hx;obtain⟨j,h1,h2⟩:=at_v v hv;exact⟨j,v,h1,h2⟩
 refine⟨h.g1,h.g2,h.n1,h.n2,h.zaD,h.prod,fun x hx=>?_,fun x hx p hp=>?_,fun x hx=>?_,?_⟩
 ·obtain⟨j,v,_,h2⟩:=at_x x hx;exact h2.par.inc
 ·obtain⟨j,v,_,h2⟩:=at_x x hx;have:=h2.par.lt p hp;simpa using this
 ·obtain⟨j,v,_,h2⟩:=at_x x hx;exact h2.rows
 refine⟨fun v=>min (num.idxOf v) 8,fun v=>qcz _ _,fun v x hx p hp=>?_⟩;obtain⟨hv,rfl⟩:=qab.1 hx;obtain⟨j,h1,h2⟩:=at_v v hv;have hin:=h2.par.mem p hp;obtain⟨hj,ej⟩:=qab.1 h1;obtain⟨k,hk,ek0⟩:=hin;obtain⟨hk2,ek⟩:=qab.1 ek0;have i1:num.idxOf v=j:=by rw[← ej]; exact h.perm.nod.idxOf_getElem j hj
 have i2:num.idxOf p=k:=by rw[← ek]; exact h.perm.nod.idxOf_getElem k hk2
 have hn:=h.perm.len;have hn8:=h.n2;simp only[i1,i2];omega
theorem zn7:∀(cs:List Nat),(∀ c∈cs,1≤c)→dot (cs.map (· - 1)) (zas cs)+1=zac cs
 | [],_=>rfl
 | c :: cs,h=>by
  have ih:=zn7 cs fun d hd=>h d (qaj c hd)
  have hc:=h c qao;show(c - 1)* zac cs+dot (cs.map (· - 1)) (zas cs)+1=c * zac cs;have:c * zac cs=(c - 1)* zac cs+zac cs:=by
   conv=>lhs; rw[show c=(c - 1)+1 by omega,qaI,qba]
  omega
def ziT(cs:List Nat)(us:List Nat)(s:Nat→Nat)(u:Nat):Nat:=bif decide (u∈us)then cs.getD u 0 - 1 else s u
structure Fixd (cs:List Nat) (v:Nat) (x:NN) (i:Nat) (f:Fc):Prop where
 ok:FcOk f
 vs:f.vs=(fam x.ps v).filter fun u=>!decide (u∈x.ps.take i)
 cs_:f.cs=cd cs f.vs
 val:∀ s,(∀ u∈f.vs,s u<cs.getD u 0)→f.val s=(zmX cs v x).val (ziT cs (x.ps.take i) s)
theorem Fixd.zero{cs:List Nat}{v:Nat}{x:NN}(h:FacOk cs v x):Fixd cs v x 0 (zmX cs v x):=by
 refine⟨znR h,?_,rfl,fun s _=>?_⟩
 ·rw[qbW];exact(List.filter_eq_self.2 fun u _=>by simp).symm
 refine val_congr fun u _=>?_
 unfold ziT;rw[qbW,decide_eq_false (by simp),cond_false]
theorem zjM{cs:List Nat}(h:∀ c∈cs,1≤c∧c≤4){u:Nat}(hu:u<cs.length):1≤cs.getD u 0∧cs.getD u 0≤4:=zfL (us:=[u]) h (fun w hw=>by rw[qaQ.1 hw]; exact hu) _ (qaQ.2 rfl)
theorem Fixd.next{cs:List Nat}{v:Nat}{x:NN}(h:FacOk cs v x){i:Nat}{f:Fc}(hf:Fixd cs v x i f)(hi:i<x.ps.length):∃ f',Fixd cs v x (i+1) f'∧zdO f.D ((x.ps[i]:Nat):Int) (((cs.getD x.ps[i] 0 - 1:Nat):Nat):Int)=some (f'.D,0):=by
 have hnd:=za7 h.inc;have hp:=h.lt _ (qat hi);have hc:=zjM h.zaD hp;have e:x.ps.take i ++ x.ps[i]:: x.ps.drop (i+1)=x.ps:=by rw[← qaG hi,qbR]
 have hnd2:(x.ps.take i ++ x.ps[i]:: x.ps.drop (i+1)).Nodup:=by rw[e]; exact hnd
 obtain⟨_,_,n3⟩:=List.nodup_append.1 hnd2;have hnt:x.ps[i] ∉ x.ps.take i:=fun hm=>n3 _ hm _ qao rfl
 clear e hnd2 n3;have hmt:∀ u,u∈x.ps.take (i+1)↔u∈x.ps.take i∨u=x.ps[i]:=fun u=>by rw[qcn hi,qa9,qaQ]
 have hm:x.ps[i]∈f.vs:=by
  rw[hf.vs,qaJ];exact⟨zhQ.2 (.inr (qat hi)),by rw[decide_eq_false hnt]; rfl⟩
 obtain⟨k,hk⟩:=zjS hm;obtain⟨hk1,hk2⟩:=zcQ hk;have hkc:k<f.cs.length:=by rw[← hf.ok.len]; exact hk1
 have hck:f.cs[k]=cs.getD x.ps[i] 0:=by
  rw[← zj3 hf.ok hk hkc,hf.cs_];exact zgj hm
 have hlt:cs.getD x.ps[i] 0 - 1<f.cs[k]:=by rw[hck]; omega
 refine⟨fixF f x.ps[i] k (cs.getD x.ps[i] 0 - 1),⟨zw9 hf.ok hk hkc _,?_,?_,fun s hs=>?_⟩,zw3 hf.ok hk hkc hlt⟩
 ·show rest f x.ps[i]=_;unfold rest;rw[hf.vs,List.filter_filter];refine List.filter_congr fun u hu=>?_
  rw[qb4];simp only[qaf,qbn,beq_eq_false_iff_ne,ne_eq,decide_eq_false_iff_not,hmt,not_or];constructor<;>rintro⟨a,b⟩<;> exact⟨b,a⟩
 ·show f.cs.eraseIdx k=cd cs (rest f x.ps[i]);rw[ziI hf.ok hk,hf.cs_];unfold cd;rw[zfb]
 have hs':∀ u∈rest f x.ps[i],s u<at_ f.vs f.cs u:=by
  intro u hu;have h1:=hs u hu;have h2:u∈f.vs:=(qaJ.1 hu).1;rw[hf.cs_];rw[show at_ f.vs (cd cs f.vs) u=cs.getD u 0 from zgj h2];exact h1
 rw[zhR hf.ok hk hkc hlt hs',hf.val _ fun u hu=>?_]
 ·refine val_congr fun u _=>?_
  unfold ziT;by_cases e:u=x.ps[i]
  ·subst e;rw[decide_eq_false hnt,cond_false,zfk,decide_eq_true ((hmt _).2 (.inr rfl)),cond_true]
  rw[ziE e];by_cases e2:u∈x.ps.take i
  ·rw[decide_eq_true e2,cond_true,decide_eq_true ((hmt _).2 (.inl e2)),cond_true]
  rw[decide_eq_false e2,cond_false,decide_eq_false (fun h3=>((hmt _).1 h3).elim e2 e),cond_false]
 by_cases e:u=x.ps[i]
 ·subst e; rw[zfk]; omega
 rw[ziE e];refine hs u ?_;show u∈rest f x.ps[i];exact qaJ.2 ⟨hu,by rw[beq_false_of_ne e]; rfl⟩
theorem zlc{xs:List Nat}{j:Nat}(h:j<xs.length):xs[j]=xs.getD j 0:=by
 rw[qah,qac h];rfl
theorem Fixd.last{cs:List Nat}{v:Nat}{x:NN}(h:FacOk cs v x){f:Fc}(hf:Fixd cs v x x.ps.length f):f.ws=x.rows.getD (x.rows.length - 1) []:=by
 have hvs:f.vs=[v]:=by
  rw[hf.vs,qcg];refine zgS (qbl _ (zj7 h.inc)) (by simp) fun u=>?_
  simp only[qaJ,zhQ,qbn,decide_eq_false_iff_not,qaQ];constructor
  ·rintro⟨h1 | h1,h2⟩
   ·exact h1
   exact absurd h1 h2
  rintro rfl;exact⟨.inl rfl,h.nv⟩
 have hcs:f.cs=[x.c]:=by rw[hf.cs_,hvs]; show [cs.getD v 0]=_; rw[h.cv]
 have hc1:=h.c1;have hsz:=hf.ok.size;have hp1:zac f.cs=x.c:=by rw[hcs]; simp[zac]
 have h1:1≤x.rows.length:=by rw[h.len]; exact zdj fun c hc=>(zfL h.zaD h.lt c hc).1
 have hrl:(x.rows.getD (x.rows.length - 1) []).length=x.c:=by
  rw[qah,qac (by omega)];exact h.row _ (qat _)
 refine qb8 (by rw[hsz,hp1,hrl]) fun j a b=>?_
 have hj:j<zac f.cs:=by rw[← hsz]; exact a
 have hjc:j<x.c:=by rw[← hp1]; exact hj
 have e1:=ztf hf.ok hj;have hat:at_ f.vs (dig f.cs j) v=j:=by
  rw[hvs,hcs];simp[dig,at_,zac]
 rw[hf.val _ fun u hu=>?_]at e1
 ·have hfit:∀ u∈fam x.ps v,ziT cs (x.ps.take x.ps.length) (at_ f.vs (dig f.cs j)) u<cs.getD u 0:=by
   intro u hu;unfold ziT;rw[qcg];by_cases e:u∈x.ps
   ·have:=(zjM h.zaD (h.lt u e)).1;rw[decide_eq_true e,cond_true]; omega
   have:u=v:=(zhQ.1 hu).resolve_right e;subst this;rw[decide_eq_false e,cond_false,hat,h.cv];exact hjc
  obtain⟨k1,k2⟩:=zuX h hfit;have k3:zxX cs x (ziT cs (x.ps.take x.ps.length) (at_ f.vs (dig f.cs j)))=x.rows.length - 1:=by
   unfold zxX;have:x.ps.map (ziT cs (x.ps.take x.ps.length) (at_ f.vs (dig f.cs j)))=(cd cs x.ps).map (· - 1):=by
    unfold cd;rw[qdk];refine qbj fun u hu=>?_
    unfold ziT;rw[qcg,decide_eq_true hu,cond_true];rfl
   rw[this];have:=zn7 (cd cs x.ps) fun c hc=>(zfL h.zaD h.lt c hc).1
   rw[h.len];omega
  have k4:ziT cs (x.ps.take x.ps.length) (at_ f.vs (dig f.cs j)) v=j:=by
   unfold ziT;rw[qcg,decide_eq_false h.nv,cond_false,hat]
  rw[k1,k3,k4]at e1;unfold Fc.get at e1;rw[zlc a,zlc b];exact e1.symm
 rw[hvs]at hu;rw[qaQ.1 hu,hat,h.cv];exact hjc
end Go.Dc
namespace Go.Dc
open Go Go.Mx Go.Lx
def zqy:Nat→(Nat→Nat)→Nat
 | 0,_=>0
 | n+1,f=>zqy n f+f n
theorem zi2{f g:Nat→Nat}:∀ {n:Nat},(∀ x,x<n→f x=g x)→zqy n f=zqy n g
 | 0,_=>rfl
 | n+1,h=>by
  unfold zqy;rw[zi2 (n:=n) fun x hx=>h x (by omega),h n (by omega)]
theorem zoz{a:Nat}{f:Nat→Nat}:∀ n:Nat,zqy n (fun x=>a * f x)=a * zqy n f
 | 0=>rfl
 | n+1=>by
  show zqy n (fun x=>a * f x)+a * f n=a * (zqy n f+f n);rw[zoz n,Nat.mul_add]
theorem zli(f:Nat→Nat):∀ n:Nat,zqy n f=((List.range' 0 n).map f).sum
 | 0=>rfl
 | n+1=>by
  rw[List.range'_concat];unfold zqy;rw[zli f n];simp
theorem zqe{a b:List Nat}(h:a.Perm b):zac a=zac b:=by
 induction h with
 | nil=>rfl
 | cons x _ ih=>show x * zac _=x * zac _; rw[ih]
 | swap x y l=>
  show y * (x * zac l)=x * (y * zac l);rw[← qa4,← qa4,qaR y x]
 | trans _ _ ih1 ih2=>rw[ih1,ih2]
abbrev zgM:NN:=⟨0,[],[]⟩
def wtO(ns:List NN)(L:List Nat)(s:Nat→Nat):Nat:=zac (L.map fun v=>(zmX (ns.map (·.c)) v (ns.getD v zgM)).val s)
theorem zqP{α:Type}{xs:List α}{i:Nat}{d:α}(h:i<xs.length):xs.getD i d∈xs:=by
 rw[qah,qac h];exact qat h
theorem zuw{ns:List NN}{v:Nat}(h:v<ns.length):ns[v]? = some (ns.getD v zgM):=by
 rw[qah,qac h];rfl
structure NCs (cs:List Nat):Prop where
 zaD:∀ c∈cs,1≤c∧c≤4
 l8:cs.length≤8
 prod:zac cs≤1024
structure Stc (cs:List Nat) (f:Fc) (M:Nat):Prop where
 ok:FcOk f
 cs_:f.cs=cd cs f.vs
 var:∀ v∈f.vs,v<cs.length
 le:∀ i,f.get i≤M
theorem NCs.vars{cs vs:List Nat}(h:NCs cs)(hi:vs.Pairwise (· < ·))(hv:∀ v∈vs,v<cs.length):zac (cd cs vs)≤1024∧vs.length≤8∧(∀ c∈cd cs vs,1≤c∧c≤8)∧zb2 (iL (cd cs vs))=true:=by
 have h1:=qam (zj6 (fun c hc=>(h.zaD c hc).1) hi hv) h.prod;have h2:=qam (zna hi hv) h.l8;have h3:=zwS h.zaD hv;refine⟨h1,h2,h3,?_⟩;unfold zb2;rw[zao,show(cd cs vs).length=vs.length by simp[cd],decide_eq_true (by omega),qbF];exact zgn h3 (by omega)
theorem Stc.at{cs:List Nat}{f:Fc}{M:Nat}(h:Stc cs f M){v:Nat}(hv:v∈f.vs):at_ f.vs f.cs v=cs.getD v 0:=by
 rw[h.cs_];exact zgj (h:=fun p=>cs.getD p 0) hv
theorem Stc.agr{cs:List Nat}{f g:Fc}{M N:Nat}(hf:Stc cs f M)(hg:Stc cs g N):Agr f g:=fun v h1 h2=>by rw[hf.at h1,hg.at h2]
theorem Stc.ucs{cs:List Nat}{f g:Fc}{M N:Nat}(hf:Stc cs f M)(hg:Stc cs g N):ucs f g=cd cs (uni f g):=by
 refine qbj fun v hv=>?_
 rcases(zfO hf.ok hg.ok).1 hv with h | h
 ·rw[zBc h,hf.at h]
 rw[zA7 (hf.agr hg) h,hg.at h]
theorem Stc.uv{cs:List Nat}{f g:Fc}{M N:Nat}(hf:Stc cs f M)(hg:Stc cs g N):∀ v∈uni f g,v<cs.length:=fun v hv=>((zfO hf.ok hg.ok).1 hv).elim (hf.var v) (hg.var v)
theorem Stc.zay{cs:List Nat}{f g:Fc}{M N:Nat}(hc:NCs cs)(hf:Stc cs f M)(hg:Stc cs g N):zb2 (iL (Go.Dc.ucs f g))=true:=by
 rw[hf.ucs hg];exact(hc.vars (zkB f g) (hf.uv hg)).2.2.2
theorem Stc.znM{cs:List Nat}{f g:Fc}{M N:Nat}(hf:Stc cs f M)(hg:Stc cs g N)(hB:M * N≤zdl):Go.Dc.znM f g=true:=
 qbC.2 fun j _=>decide_eq_true (qam (qbz (hf.le _) (hg.le _)) hB)
theorem Stc.mul{cs:List Nat}{f g:Fc}{M N:Nat}(hc:NCs cs)(hf:Stc cs f M)(hg:Stc cs g N)(hB:M * N≤zdl):Stc cs (zqu f g) (M * N):=by
 refine⟨zrP hf.ok hg.ok (hf.zay hc hg) (hf.znM hg hB),hf.ucs hg,hf.uv hg,zd5 fun x hx=>?_⟩;obtain⟨j,_,rfl⟩:=qaB.1 hx;exact qbz (hf.le _) (hg.le _)
def zq0(cs:List Nat)(s:Nat→Nat):Prop:=∀ v,v<cs.length→s v<cs.getD v 0
theorem Stc.fit{cs:List Nat}{f:Fc}{M:Nat}(h:Stc cs f M){s:Nat→Nat}(hs:zq0 cs s):Fit f s:=fun v hv=>by rw[h.at hv]; exact hs v (h.var v hv)
theorem Stc.ziu{cs:List Nat}{f g:Fc}{M N:Nat}(hc:NCs cs)(hf:Stc cs f M)(hg:Stc cs g N)(hB:M * N≤zdl){s:Nat→Nat}(hs:zq0 cs s):(zqu f g).val s=f.val s * g.val s:=Go.Dc.ziu hf.ok hg.ok (hf.zay hc hg) ((hf.mul hc hg hB).fit hs)
theorem RightN.stc{g:Nat}{ns:List NN}(h:RightN g ns){v:Nat}(hv:v<ns.length):Stc (ns.map (·.c)) (zmX (ns.map (·.c)) v (ns.getD v zgM)) 60:=by
 have hf:=h.fac (zuw hv);exact⟨znR hf,rfl,hf.flt,zue hf⟩
def ztE:Fc:=⟨[],[],[1]⟩
theorem znY(cs:List Nat):Stc cs ztE 1:=by
 refine⟨⟨rfl,by simp[ztE],by simp[ztE],by simp[ztE,zac],rfl,List.Pairwise.nil,by simp[ztE],fun w hw=>by rw[qaQ.1 hw]; decide⟩,rfl,by simp[ztE],zd5 (by simp[ztE])⟩
theorem zwB(s:Nat→Nat):ztE.val s=1:=rfl
structure Prf (ns:List NN) (i:Nat) (f:Fc):Prop where
 st:Stc (ns.map (·.c)) f (60 ^ i)
 mem:∀ v,v<i→v∈f.vs
 val:∀ s,zq0 (ns.map (·.c)) s→f.val s=wtO ns (List.range i) s
theorem zoi:∀(cs:List Nat) (w:Nat),zyT cs w=dig cs w
 | [],_=>rfl
 | c :: cs,w=>by
  unfold zyT dig;rw[zoi cs]
def wld(ns:List NN)(w:Nat):Nat→Nat:=zgT (List.range ns.length) (dig (ns.map (·.c)) w) fun _=>0
theorem zxe(ns:List NN)(w:Nat):(List.range ns.length).map (wld ns w)=dig (ns.map (·.c)) w:=by
 have hl:(List.range ns.length).length=(dig (ns.map (·.c)) w).length:=by rw[zey]; simp
 rw[← zmE qcP hl];exact qbj fun u hu=>znb qcP hl hu
theorem zxx(ns:List NN)(w:Nat){u:Nat}(hu:u<ns.length):wld ns w u=(dig (ns.map (·.c)) w).getD u 0:=by
 rw[← zxe ns w,qah,qaT,qcQ hu];rfl
theorem zwl{g:Nat}{ns:List NN}(h:RightN g ns){w:Nat}(hw:w<zac (ns.map (·.c))):zq0 (ns.map (·.c)) (wld ns w):=by
 intro v hv;have hv':v<ns.length:=by simpa using hv
 rw[zxx ns w hv',← zoi];have:=zsJ hw v hv;rw[show(ns.map (·.c)).getD v 0=(ns.map (·.c))[v] by rw[qah,qac hv]; rfl];exact this
def wtW(ns:List NN)(w:Nat):Nat:=wtO ns (List.range ns.length) (wld ns w)
theorem Prf.get{g:Nat}{ns:List NN}(h:RightN g ns){f:Fc}(hf:Prf ns ns.length f):f.ws.length=zac (ns.map (·.c))∧∀ w,w<zac (ns.map (·.c))→za3 (iL f.ws) (w:Int)=some ((wtW ns w:Nat):Int):=by
 have hvs:f.vs=List.range ns.length:=zgS hf.st.ok.inc qc5 fun v=>by
  rw[qbI];exact⟨fun hv=>by simpa using hf.st.var v hv,hf.mem v⟩
 have hcs:f.cs=ns.map (·.c):=by
  rw[hf.st.cs_,hvs];have:=zoD (ns.map (·.c));rw[qaA]at this;exact this
 have hsz:=hf.st.ok.size;rw[hcs]at hsz;refine⟨hsz,fun w hw=>?_⟩;have e:=ztf hf.st.ok (i:=w) (by rw[hcs]; exact hw);have e2:f.val (at_ f.vs (dig f.cs w))=f.val (wld ns w):=by
  refine val_congr fun u hu=>?_
  rw[hvs,hcs];rw[hvs]at hu;exact(znb qcP (by rw[zey]; simp) hu).symm
 rw[e2,hf.val _ (zwl h hw)]at e;rw[zfH (by rw[hsz]; exact hw)];congr 2
 exact e.symm
theorem zvx{g:Nat}{ns:List NN}{e:List Int}{r1:S_net_network×Int}(hc:r1.1.zay=iL (ns.map (·.c)))(hl:e.length=ns.length)(hn:ns.length≤8):∀(n m i:Nat),i≤e.length→e.length - i<n→e.length - i<m →
  (zaP e r1 n (i:Int)=some (.go ())∧zbe e (zbQ g ns) m (i:Int)=some (.go ()))∨
  (zaP e r1 n (i:Int)=some (.ret 2)∧zbe e (zbQ g ns) m (i:Int)=some (.ret false))
 | 0,_,_,_,h,_=>absurd h (qap _)
 | _,0,_,_,_,h=>absurd h (qap _)
 | n+1,m+1,i,h1,h3,h5=>by
  unfold zaP zbe;rw[zaz];by_cases hi:i<e.length
  ·obtain⟨x,hx⟩:∃ x,e[i]=x:=⟨_,rfl⟩;have hin:i<ns.length:=by omega
   rw[decide_eq_true hi,cond_true,cond_true,zbd hi,qaa,qaa,hx];by_cases c1:x < -1
   ·rw[decide_eq_true c1,cond_true,cond_true,qaa,qaa,cond_true,cond_true];exact .inr ⟨rfl,rfl⟩
   have hg:za3 (iL (ns.map (·.c))) (i:Int)=some ((ns[i].c:Nat):Int):=by rw[zbf (by simpa using hin)]; simp
   rw[decide_eq_false c1,cond_false,cond_false,hc,hg,show za3 (zbQ g ns).nodes (i:Int)=some (nd ns[i])from zch hin];simp only[qaa,show(nd ns[i]).zaD=((ns[i].c:Nat):Int)from rfl];by_cases c2:((ns[i].c:Nat):Int)≤x
   ·rw[decide_eq_true c2,cond_true,cond_true];exact .inr ⟨rfl,rfl⟩
   rw[decide_eq_false c2,cond_false,cond_false,zal (by omega)];exact zvx hc hl hn n m (i+1) hi (by omega) (by omega)
  rw[decide_eq_false hi,cond_false,cond_false];exact .inl ⟨rfl,rfl⟩
theorem zwr{g:Nat}{ns:List NN}(h:RightN g ns)(e:List Int):∃ b:Bool,zc5 (zbQ g ns) e=some b∧zba (zbQ g ns) e=some (bif b then 0 else 2):=by
 obtain⟨os,_,_,e2⟩:=zsn h;have hn:=h.n2;have hnl:(zbQ g ns).nodes.length=ns.length:=by simp[zbQ]
 unfold zc5 zba;rw[e2,qaa];simp only[];rw[show((0:Int)== 0)=true from rfl,cond_true,hnl];by_cases hl:e.length=ns.length
 ·rw[show(((e.length:Nat):Int)==((ns.length:Nat):Int))=true by rw[hl]; simp,cond_true,cond_true,zaN];rcases zvx (g:=g) (e:=e) (r1:=(⟨zbQ g ns,iL (ns.map (·.c)),iL (zam ns),iL os⟩,0)) rfl hl hn (e.length+2) (e.length+2) 0 (qaC _) (by omega) (by omega)with⟨g1,g2⟩| ⟨g1,g2⟩
  ·rw[show((0:Nat):Int)=0 from rfl]at g1 g2;rw[g1,g2,qaa,qaa];exact⟨true,rfl,rfl⟩
  rw[show((0:Nat):Int)=0 from rfl]at g1 g2;rw[g1,g2,qaa,qaa];exact⟨false,rfl,rfl⟩
 rw[show(((e.length:Nat):Int)==((ns.length:Nat):Int))=false by rw[beq_eq_false_iff_ne]; omega,cond_false,cond_false];exact⟨false,rfl,rfl⟩
theorem zBr{a:Int}{v:Nat}:∃ q,zhP .u8 a (v:Int)=some q:=zoI .u8 a
end Go.Dc
