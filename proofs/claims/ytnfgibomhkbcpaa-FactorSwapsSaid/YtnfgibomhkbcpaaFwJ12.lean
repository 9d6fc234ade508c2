/-
 Plain laws: Keep and Total; FactorKeeps. Conditions: none.
-/
import Derived.Test.YtnfgibomhkbcpaaFwJ11
import Derived.Test.YtnfgibomhkbcpaaFwJ8
import Derived.Test.YtnfgibomhkbcpaaFwJ9
set_option linter.unusedSimpArgs false
set_option linter.unusedVariables false
set_option maxRecDepth 100000
namespace Go.Dc
open Go Go.Mx Go.Lx
def upB:List Int→Bool
 | x :: y :: r=>decide (x<y) && upB (y :: r)
 | _=>true
def zpt(f:Fc)(xs:List Int):Bool:=xs.all fun x=>(zhL (iL f.vs) x).isSome
theorem zsc(x y:Int):decide (y≤x)=!decide (x<y):=by
 by_cases h:x<y
 ·rw[decide_eq_true h]; exact decide_eq_false (by omega)
 rw[decide_eq_false h]; exact decide_eq_true (by omega)
theorem zpT{i:Nat}(h:1≤i)(h2:i≤100000):w64 ((i:Int) - 1)=((i - 1:Nat):Int):=by
 rw[zei (by omega) (by omega)]; omega
theorem znQ{xs:List Int}(hl:xs.length≤1000):∀(n i:Nat),1≤i→xs.length - i<n→zbu xs n (i:Int)=some (bif upB (xs.drop (i - 1))then .go ()else .ret (noF,2))
 | 0,_,_,h=>absurd h (qaR _)
 | n+1,i,h1,hn=>by
  unfold zbu;rw[zqn];by_cases h:i<xs.length
  ·have e:xs.drop (i - 1)=xs[i - 1]:: xs[i]:: xs.drop (i+1):=by
    rw[qaq (show i - 1<xs.length by omega),show i - 1+1=i by omega,qaq h]
   have ih:=znQ hl n (i+1) (by omega) (by omega);rw[show i+1 - 1=i by omega,qaq h]at ih;rw[decide_eq_true h,cond_true,zbQ h,qad,zpT h1 (by omega),zbQ (show i - 1<xs.length by omega),qad,zsc,zbr (by omega),ih,e];rw[show upB (xs[i - 1]:: xs[i]:: xs.drop (i+1))=(decide (xs[i - 1]<xs[i]) && upB (xs[i]:: xs.drop (i+1)))from rfl];cases decide (xs[i - 1]<xs[i])<;> rfl
  rw[decide_eq_false h,cond_false];have:upB (xs.drop (i - 1))=true:=by
   rcases qaY (i - 1) xs.length with h3 | h3
   ·rw[qaq h3,qbr (by omega)]; rfl
   rw[qbr h3]; rfl
  rw[this,cond_true]
theorem zoh{f:Fc}(hf:FcOk f){e:Int}{xs:List Int}(hl:xs.length≤1000):∀(n i:Nat),i≤xs.length→xs.length - i<n→zby xs (f.T,e) n (i:Int)=some (bif zpt f (xs.drop i)then .go ()else .ret (noF,4))
 | 0,_,_,h=>absurd h (qaR _)
 | n+1,i,h1,hn=>by
  unfold zby
  rcases qaY i xs.length with h | h
  ·rw[zpO h,cond_true,zbQ h,qad];simp only[];rw[zhc hf,qad,zqT,zbr (by omega),zoh hf hl n (i+1) h (by omega),qaq h,show zpt f (xs[i]:: xs.drop (i+1))=((zhL (iL f.vs) xs[i]).isSome && zpt f (xs.drop (i+1)))from rfl];cases(zhL (iL f.vs) xs[i]).isSome<;>rfl
  obtain rfl:i=xs.length:=by omega
  rw[zpn,cond_false,qaT];rfl
theorem zsy{f:Fc}(hf:FcOk f){xs:List Int}(hl:xs.length≤1000):zaM f.D xs=(bif upB xs then bif zpt f xs then(zcP 8 xs).bind fun y16=>(zau f.T y16).bind fun r18=>some (r18.1,r18.2)else some (noF,4)else some (noF,2)):=by
 unfold zaM;rw[zi9 hf,qad];simp only[];have h1:=znQ hl (((xs.length:Int) - 1+2).toNat) 1 (qai _) (by omega);rw[show((0:Int)== 0)=true from rfl,cond_true,show zbu xs (((xs.length:Int) - 1+2).toNat) 1=_ from h1,qad,show 1 - 1=0 from rfl,qaN];cases upB xs with
 | false=>rfl
 | true=>
  have h2:=zoh hf (e:=0) hl (xs.length+2) 0 (qaQ _) (by omega);rw[cond_true,cond_true];simp only[];rw[zda,show zby xs (f.T,0) (xs.length+2) 0=_ from h2,qad,qaN];cases zpt f xs<;>rfl
theorem zma{f:Fc}(hf:FcOk f){us:List Nat}(hs:Sel f us)(h1:upB (iL us)=true)(h2:zpt f (iL us)=true):zaM f.D (iL us)=some (ztf (gat false f us) f us):=by
 have hl:=zff hf hs;rw[zsy hf (by rw[zbf]; omega),h1,h2,cond_true,cond_true,zl5 (by rw[zbf]; omega),qad,zit hf hs,qad];cases gat false f us<;>rfl
theorem zkS(f:Fc):Sel f []:=⟨.nil,fun u hu=>by simp at hu⟩
theorem zq8{f:Fc}{b:Bool}{l:List Nat}(h:gat b f []=some l):l.length=1:=(zhp h).trans (by simp[cof,zai])
theorem zoq{f:Fc}(hf:FcOk f):za4 f.D=some (match gat false f []with | some l=>(((l.getD 0 0:Nat):Int),0)| none=>(0,6)):=by
 unfold za4;rw[zi9 hf,qad];simp only[];rw[show((0:Int)== 0)=true from rfl,cond_true,show([]:List Int)=iL []from rfl,zit hf (zkS f),qad];cases h:gat false f []with
 | none=>rfl
 | some l=>
  have hl:=zq8 h;show(zbl (iL l) ((0:Nat):Int)).bind _=_;rw[zdY (by omega)];rfl
section
variable {x:S_api_Factor} {p3:Int}
end
section
variable {y4 l1:List Int} {x:S_api_Factor}
end
section
variable {r6 r8:S_api_Factor} {p3:Int} {y4:List Int}
end
def Fit(f:Fc)(s:Nat→Nat):Prop:=∀ v∈f.vs,s v<at_ f.vs f.cs v
theorem zkp{s:Nat→Nat}:∀ {us cs:List Nat},us.length=cs.length→us.Nodup→(∀ c∈cs,1≤c∧c≤8)→(∀ v∈us,s v<at_ us cs v)→zcF cs (us.map s)
 | [],[],_,_,_,_=>trivial
 | [],c :: cs,h,_,_,_=>by simp at h
 | u :: us,[],h,_,_,_=>by simp at h
 | u :: us,c :: cs,hl,hn,hc,h=>by
  obtain⟨h1,h2⟩:=qbe.1 hn;have hu:=h u qaw;rw[zes,beq_self_eq_true,cond_true]at hu;refine⟨hu,(hc c qaw).2,zkp (by simpa using hl) h2 (fun d hd=>hc d (qal _ hd)) fun v hv=>?_⟩;have:=h v (qal _ hv)
  rwa [zes,show(u == v)=false from beq_false_of_ne (fun e=>h1 (e ▸ hv)),cond_false]at this
theorem Fit.below{f:Fc}(hf:FcOk f){s:Nat→Nat}(h:Fit f s):zcF f.cs (f.vs.map s):=zkp hf.len (zb8 hf.inc) hf.zhH h
theorem get_map{n:Nat}{g:Nat→Nat}{i:Nat}(h:i<n):((List.range' 0 n).map g).getD i 0=g i:=by
 rw[qat,qaf (by simpa using h)];simp
def big(b:Bool)(xs:List Nat):Nat:=xs.foldr (gop b) 0
theorem zfx(b:Bool)(x y z:Nat):gop b (gop b x y) z=gop b x (gop b y z):=by
 cases b
 ·exact qa0 x y z
 exact Nat.max_assoc x y z
theorem zlQ(b:Bool)(x y:Nat):gop b x y=gop b y x:=by
 cases b
 ·exact Nat.add_comm x y
 exact Nat.max_comm x y
theorem zgz(b:Bool)(x:Nat):gop b x 0=x:=by
 cases b
 ·rfl
 exact Nat.max_zero x
theorem zpw(b:Bool)(x:Nat):gop b 0 x=x:=by rw[zlQ,zgz]
theorem zdC(b:Bool)(x:Nat)(xs:List Nat):big b (x :: xs)=gop b x (big b xs):=rfl
theorem zn0{b:Bool}{M:Nat}:∀ {xs:List Nat},(∀ x∈xs,x≤M)→big b xs≤xs.length * M
 | [],_=>by simp[big]
 | x :: xs,h=>by
  have h1:=h x qaw;have h2:=zn0 (b:=b) fun y hy=>h y (qal x hy)
  rw[zdC,qaS,qaI,qbJ];cases b
  ·show x+big false xs≤_; omega
  show max x (big true xs)≤_; omega
def fib(f:Fc)(us:List Nat)(m i j:Nat):List Nat:=((List.range' i m).filter fun i=>ix f us i == j).map f.get
theorem zpe(f:Fc)(us:List Nat)(m i j:Nat):fib f us (m+1) i j=bif ix f us i == j then f.get i :: fib f us m (i+1) j else fib f us m (i+1) j:=by
 unfold fib;rw[qb2];cases hb:(ix f us i == j)with
 | true=>rw[qbp (p:=fun i=>ix f us i == j) hb,qax,cond_true]
 | false=>rw[qbo (p:=fun i=>ix f us i == j) (by rw[hb]; decide),cond_false]
theorem zhZ{b:Bool}{f:Fc}{us:List Nat}{M:Nat}(hM:∀ i,f.get i≤M):∀ {m i K:Nat} {l:List Nat},(∀ j,l.getD j 0≤K)→K+m * M≤ze2→(∀ k,i≤k→k<i+m→ix f us k<l.length)→
  ∃ l',zfy b f us m i l=some l'∧l'.length=l.length∧∀ j,j<l.length→l'.getD j 0=gop b (l.getD j 0) (big b (fib f us m i j))
 | 0,i,K,l,_,_,_=>⟨l,rfl,rfl,fun j _=>by
   rw[show fib f us 0 i j=[]from rfl]
   exact(zgz b _).symm⟩
 | m+1,i,K,l,hl,hK,hx=>by
  have hi:=hx i (qai _) (by omega);have h1:=hl (ix f us i);have h2:=hM i;rw[qaI,qbJ]at hK;have h3:gop b (l.getD (ix f us i) 0) (f.get i)≤K+M:=by
   cases b
   ·show _+_≤_; omega
   show max _ _≤_; omega
  have hset:∀ j,(l.set (ix f us i) (gop b (l.getD (ix f us i) 0) (f.get i))).getD j 0=bif ix f us i == j then gop b (l.getD (ix f us i) 0) (f.get i)else l.getD j 0:=by
   intro j;by_cases e:ix f us i=j
   ·subst e;rw[beq_self_eq_true,cond_true,qat,qaz hi];rfl
   rw[beq_false_of_ne e,cond_false,qat,qam e,← qat]
  obtain⟨l',g1,g2,g3⟩:=zhZ (b:=b) (us:=us) hM (m:=m) (i:=i+1) (K:=K+M) (l:=l.set (ix f us i) (gop b (l.getD (ix f us i) 0) (f.get i))) (fun j=>by
   rw[hset];cases(ix f us i == j)
   ·rw[cond_false]; have:=hl j; omega
   rw[cond_true]; exact h3) (by omega) (fun k a c=>by rw[qaV]; exact hx k (by omega) (by omega))
  refine⟨l',?_,by rw[g2,qaV],fun j hj=>?_⟩
  ·unfold zfy;rw[decide_eq_true (show gop b (l.getD (ix f us i) 0) (f.get i)≤ze2 by omega),cond_true];exact g1
  rw[g3 j (by rw[qaV]; exact hj),hset,zpe];cases hb:(ix f us i == j)with
  | false=>rw[cond_false,cond_false]
  | true=>
   rw[cond_true,cond_true,zdC,zfx,beq_iff_eq.1 hb]
theorem zfm(b:Bool){f:Fc}(hf:FcOk f){us:List Nat}(hs:Sel f us){M:Nat}(hM:∀ i,f.get i≤M)(hB:zai f.cs * M≤ze2):
  gat b f us=some ((List.range' 0 (zai (cof f us))).map fun j=>big b (fib f us (zai f.cs) 0 j)):=by
 obtain⟨l',g1,g2,g3⟩:=zhZ (b:=b) (us:=us) hM (m:=zai f.cs) (i:=0) (K:=0) (l:=List.replicate (zai (cof f us)) 0) (fun j=>by
  rw[qat,List.getElem?_replicate]
  split<;>exact qai _) (by omega) (fun k _ hk=>by rw[qcb]; exact zpS hf hs (by omega))
 unfold gat;rw[g1];refine congrArg some (List.ext_getElem (by rw[g2]; simp) fun j a c=>?_);have hj:j<zai (cof f us):=by simpa using c
 have e:=g3 j (by simpa using hj);rw[qat,qaf a,qat,List.getElem?_replicate,if_pos hj]at e;simp only[qbj]at e;rw[zpw]at e;rw[e];simp
theorem zob(b:Bool){a x:Nat}{B:Nat→Nat}:∀ {J:List Nat},J.Nodup→big b (J.map fun j=>bif a == j then gop b x (B j)else B j)=bif decide (a∈J)then gop b x (big b (J.map B))else big b (J.map B)
 | [],_=>rfl
 | j :: J,h=>by
  obtain⟨h1,h2⟩:=qbe.1 h;rw[qax,zdC,zob b h2,qax,zdC];by_cases e:a=j
  ·subst e;rw[beq_self_eq_true,cond_true,decide_eq_false h1,cond_false,decide_eq_true qaw,cond_true,zfx]
  rw[beq_false_of_ne e,cond_false];by_cases hm:a∈J
  ·rw[decide_eq_true hm,decide_eq_true (qal _ hm),cond_true,cond_true,← zfx,zlQ b (B j) x,zfx]
  rw[decide_eq_false hm,decide_eq_false (by rw[qaM]; exact fun c=>c.elim e hm),cond_false,cond_false]
theorem zlV(b:Bool):∀(J:List Nat),big b (J.map fun _=>0)=0
 | []=>rfl
 | j :: J=>by rw[qax,zdC,zlV b J,zgz]
theorem zkm(b:Bool){φ ψ w:Nat→Nat}{k:Nat}{J:List Nat}(hJ:J.Nodup):∀ {L:List Nat},(∀ i∈L,φ i∈J)→
  big b ((J.filter fun j=>ψ j == k).map fun j=>big b ((L.filter fun i=>φ i == j).map w))=big b ((L.filter fun i=>ψ (φ i)== k).map w)
 | [],_=>zlV b _
 | i :: L,h=>by
  have ih:=zkm b (φ:=φ) (ψ:=ψ) (w:=w) (k:=k) hJ fun x hx=>h x (qal i hx)
  have hi:=h i qaw;have e:((J.filter fun j=>ψ j == k).map fun j=>big b (((i :: L).filter fun i=>φ i == j).map w))=(J.filter fun j=>ψ j == k).map fun j=>bif φ i == j then gop b (w i) (big b ((L.filter fun i=>φ i == j).map w))else big b ((L.filter fun i=>φ i == j).map w):=by
   refine qbf fun j _=>?_
   cases hb:(φ i == j)with
   | true=>rw[qbp (p:=fun i=>φ i == j) hb,qax,zdC,cond_true]
   | false=>rw[qbo (p:=fun i=>φ i == j) (by rw[hb]; decide),cond_false]
  rw[e,zob b (qbZ (fun j=>ψ j == k) hJ),ih];cases hb:(ψ (φ i)== k)with
  | true=>rw[decide_eq_true (qbx.2 ⟨hi,hb⟩),cond_true,qbp (p:=fun i=>ψ (φ i)== k) hb,qax,zdC]
  | false=>rw[decide_eq_false (fun c=>by rw[(qbx.1 c).2]at hb; cases hb),cond_false,qbo (p:=fun i=>ψ (φ i)== k) (by rw[hb]; decide)]
theorem zn1{f:Fc}{us l us':List Nat}(h:∀ u∈us',u∈us):cof (gF f us l) us'=cof f us':=by
 refine qbf fun u hu=>?_
 show at_ us (cof f us) u=_;unfold cof;rw[zjJ (h u hu)]
theorem zs8{f:Fc}(hf:FcOk f){us l us':List Nat}(hs:Sel f us)(h:∀ u∈us',u∈us){i:Nat}(hi:i<zai f.cs):ix (gF f us l) us' (ix f us i)=ix f us' i:=by
 show dot (us'.map (at_ us (dig (cof f us) (ix f us i)))) (zbK (cof (gF f us l) us'))=_;rw[zn1 h];have e:dig (cof f us) (ix f us i)=us.map (at_ f.vs (dig f.cs i)):=znw (Sub.below hf.len (zf1 hf.zhH hi) (zoR hs));rw[e];unfold ix;congr 1
 exact qbf fun u hu=>zjJ (h u hu)
theorem zhs(b:Bool){f:Fc}(hf:FcOk f){us us' l:List Nat}(hs:Sel f us)(hs':Sel (gF f us l) us'){M:Nat}(hM:∀ i,f.get i≤M)(hB:zai f.cs * (zai f.cs * M)≤ze2)(hg:gat b f us=some l):gat b (gF f us l) us'=gat b f us':=by
 have hn1:0<zai f.cs:=zcT hf.zhH;have hB1:zai f.cs * M≤ze2:=qap (qb9 _ hn1) hB;have hgF:=zrW hf hs hg;have hcof:zai (cof f us)≤zai f.cs:=zfu (zoe hf hs) fun c hc=>(hf.zhH c hc).1
 have hsel:Sel f us':=⟨hs'.inc,fun u hu=>hs.mem u (hs'.mem u hu)⟩;have hl:=zfm b hf hs hM hB1;rw[hg]at hl;have hl:=qab hl;have hget:∀ j,j<zai (cof f us)→(gF f us l).get j=big b (fib f us (zai f.cs) 0 j):=by
  intro j hj;show l.getD j 0=_;rw[hl,get_map hj]
 have hM2:∀ j,(gF f us l).get j≤zai f.cs * M:=by
  intro j;rcases qaY j (zai (cof f us))with hj | hj
  ·rw[hget j hj];refine qap (zn0 fun x hx=>?_) (qao M (show(fib f us (zai f.cs) 0 j).length≤zai f.cs from ?_))
   ·obtain⟨i,_,rfl⟩:=qaK.1 hx;exact hM i
   unfold fib;rw[qa1];exact qap (List.length_filter_le _ _) (by simp)
  show l.getD j 0≤_;rw[qat,qa6 (by rw[hl]; simpa using hj)];exact qaQ _
 rw[zfm b hgF hs' hM2 (qap (qao _ hcof) hB),zfm b hf hsel hM hB1,zn1 (f:=f) (us:=us) (l:=l) (us':=us') hs'.mem];refine congrArg some (qbf fun k _=>?_);have e1:fib (gF f us l) us' (zai (gF f us l).cs) 0 k=((List.range' 0 (zai (cof f us))).filter fun j=>ix (gF f us l) us' j == k).map fun j=>big b (((List.range' 0 (zai f.cs)).filter fun i=>ix f us i == j).map f.get):=by
  refine qbf fun j hj=>?_
  have h3:j<0+zai (cof f us):=(qbl.1 (qbx.1 hj).1).2;exact hget j (by omega)
 rw[e1,zkm b (List.nodup_range' ..) fun i hi=>qbl.2 ⟨qaQ _,by have:=zpS hf hs (show i<zai f.cs by have:=qbl.1 hi; omega); omega⟩];unfold fib;have e2:((List.range' 0 (zai f.cs)).filter fun i=>ix (gF f us l) us' (ix f us i)== k)=(List.range' 0 (zai f.cs)).filter fun i=>ix f us' i == k:=by
  refine List.filter_congr fun i hi=>?_
  rw[zs8 hf hs hs'.mem (by have:=qbl.1 hi; omega)]
 rw[e2]
theorem ziG{f:Fc}(hf:FcOk f):Sel f f.vs:=⟨hf.inc,fun _ h=>h⟩
theorem zi0{f:Fc}(hf:FcOk f):cof f f.vs=f.cs:=zoE (zb8 hf.inc) hf.len
theorem filter_one{j:Nat}:∀ {L:List Nat},L.Nodup→j∈L→(L.filter fun i=>i == j)=[j]
 | [],_,h=>by simp at h
 | x :: L,hn,h=>by
  obtain⟨h1,h2⟩:=qbe.1 hn;by_cases e:x=j
  ·subst e
   rw[qbp (p:=fun i=>i == x) (beq_self_eq_true x),List.filter_eq_nil_iff.2 fun y hy=>by
    rw[beq_false_of_ne (fun e:y=x=>h1 (by rw[← e]; exact hy))]; decide]
  rw[qbo (p:=fun i=>i == j) (by rw[beq_false_of_ne e]; decide)];exact filter_one h2 ((qaM.1 h).resolve_left fun c=>e c.symm)
theorem zpJ(b:Bool){f:Fc}(hf:FcOk f){M:Nat}(hM:∀ i,f.get i≤M)(hB:zai f.cs * M≤ze2):gat b f f.vs=some f.ws:=by
 rw[zfm b hf (ziG hf) hM hB,zi0 hf];refine congrArg some (List.ext_getElem (by simp[hf.size]) fun j a c=>?_);have hj:j<zai f.cs:=by simpa using a
 have hix:∀ i,i<zai f.cs→ix f f.vs i=i:=by
  intro i hi;unfold ix;rw[zi0 hf,zoE (zb8 hf.inc) (by rw[ziQ,hf.len]),zoo hf.zhH hi]
 have e:((List.range' 0 (zai f.cs)).filter fun i=>ix f f.vs i == j)=[j]:=by
  rw[← filter_one (L:=List.range' 0 (zai f.cs)) (List.nodup_range' ..) (qbl.2 ⟨qaQ _,by omega⟩)];exact List.filter_congr fun i hi=>by rw[hix i (by have:=qbl.1 hi; omega)]
 rw[List.getElem_map];simp only[List.getElem_range',qaP,qbJ];unfold fib;rw[e,qax,List.map_nil,zdC];show gop b (f.get j) 0=_;rw[zgz];unfold Fc.get;rw[qat,qaf c];rfl
theorem zrw{f:Fc}(hf:FcOk f){v k:Nat}(hv:pos f.vs v=some k)(hk:k<f.cs.length):at_ f.vs f.cs v=f.cs[k]:=by
 rw[znn hv,qat,qaf hk];rfl
structure Std (f:Fc) (M:Nat):Prop where
 ok:FcOk f
 cs:f.cs=f.vs.map zfn
 var:∀ v∈f.vs,v<5
 le:∀ i,f.get i≤M
theorem zpj:∀ v,v<5→1≤zfn v∧zfn v≤8:=by decide
theorem zpm:[0,1,2,3,4].Pairwise (· < ·):=by decide
theorem zpY{v:Nat}(h:v<5):v∈[0,1,2,3,4]:=by
 have:∀ v,v<5→v∈[0,1,2,3,4]:=by decide
 exact this v h
theorem zgY{vs:List Nat}(hi:vs.Pairwise (· < ·))(hv:∀ v∈vs,v<5):zai (vs.map zfn)≤24∧vs.length≤5:=by
 have hs:=zhf hi zpm fun v h=>zpY (hv v h)
 refine⟨?_,hs.length_le⟩;have:=zfu (hs.map zfn) (by decide);exact this
theorem zno{vs:List Nat}(hv:∀ v∈vs,v<5):∀ c∈vs.map zfn,1≤c∧c≤8:=by
 intro c hc;obtain⟨v,h,rfl⟩:=qaK.1 hc;exact zpj v (hv v h)
theorem zmN{vs:List Nat}(hi:vs.Pairwise (· < ·))(hv:∀ v∈vs,v<5):zcq (iL (vs.map zfn))=true:=by
 obtain⟨h1,h2⟩:=zgY hi hv;unfold zcq;rw[zbf,qa1,decide_eq_true (by omega),qbn];exact zhg (zno hv) (by omega)
theorem Std.at{f:Fc}{M:Nat}(h:Std f M){v:Nat}(hv:v∈f.vs):at_ f.vs f.cs v=zfn v:=by rw[h.cs,zjJ hv]
theorem Std.prod{f:Fc}{M:Nat}(h:Std f M):zai f.cs≤24:=by rw[h.cs]; exact(zgY h.ok.inc h.var).1
theorem Std.agr{f g:Fc}{M N:Nat}(hf:Std f M)(hg:Std g N):Agr f g:=fun v h1 h2=>by rw[hf.at h1,hg.at h2]
theorem Std.zhH{f:Fc}{M:Nat}(h:Std f M){v k:Nat}(hv:pos f.vs v=some k)(hk:k<f.cs.length):f.cs[k]=zfn v:=by
 obtain⟨h1,e⟩:=zeP hv;rw[← zrw h.ok hv hk,h.at (e ▸ qaW h1)]
theorem Std.ucs{f g:Fc}{M N:Nat}(hf:Std f M)(hg:Std g N):ucs f g=(uni f g).map zfn:=by
 refine qbf fun v hv=>?_
 rcases(znp hf.ok hg.ok).1 hv with h | h
 ·rw[ztB h,hf.at h]
 rw[ztx (hf.agr hg) h,hg.at h]
theorem Std.uv{f g:Fc}{M N:Nat}(hf:Std f M)(hg:Std g N):∀ v∈uni f g,v<5:=fun v hv=>((znp hf.ok hg.ok).1 hv).elim (hf.var v) (hg.var v)
theorem Std.zae{f g:Fc}{M N:Nat}(hf:Std f M)(hg:Std g N):zcq (iL (Go.Dc.ucs f g))=true:=by
 rw[hf.ucs hg];exact zmN (zra f g) (hf.uv hg)
theorem zh3{l:List Nat}{M:Nat}(h:∀ x∈l,x≤M)(k:Nat):l.getD k 0≤M:=by
 by_cases hk:k<l.length
 ·rw[qat,qaf hk];exact h _ (qaW hk)
 rw[qat,qa6 (by omega)];exact qaQ _
theorem Std.bound{f:Fc}{M:Nat}(h:Std f M)(hB:24 * M≤ze2):zai f.cs * M≤ze2:=qap (qao M h.prod) hB
theorem Std.gat{f:Fc}{M:Nat}(hf:Std f M)(hB:24 * M≤ze2)(b:Bool){us:List Nat}(hs:Sel f us):∃ l,Go.Dc.gat b f us=some l∧Std (gF f us l) (24 * M):=by
 have h:=zfm b hf.ok hs hf.le (hf.bound hB);refine⟨_,h,zrW hf.ok hs h,?_,fun v hv=>hf.var v (hs.mem v hv),zh3 fun x hx=>?_⟩
 ·exact qbf fun u hu=>hf.at (hs.mem u hu)
 obtain⟨j,_,rfl⟩:=qaK.1 hx;refine qap (zn0 (M:=M) fun y hy=>?_) (qao M ?_)
 ·obtain⟨i,_,rfl⟩:=qaK.1 hy;exact hf.le i
 unfold fib;rw[qa1];exact qap (List.length_filter_le _ _) (by rw[List.length_range']; exact hf.prod)
theorem zsl{w:Nat}(hw:w<256)(n:List Nat):Std (drF w n false) 9:=by
 refine⟨zsI hw n false,rfl,fun v hv=>?_,zh3 fun x hx=>?_⟩
 ·have:=qbl.1 (qbx.1 hv).1;omega
 obtain⟨j,_,rfl⟩:=qaK.1 hx;have:=zkL n j;show zm3 n j * 1≤9;omega
theorem zrq{f g:Fc}{M:Nat}(hf:Std f M)(h:f=g):zaX f.D 0 g.D=some true:=by
 unfold zaX;rw[show((0:Int)== 0)=true from rfl,cond_true,zrj hf.ok.sz,h,decide_eq_true rfl];rfl
section
variable {f g h:Fc} {M N K:Nat}
end
theorem DrOk.f{d:S_haruspexref03_Draft}(h:DrOk d):∃ w n,w<256∧d.which=((w:Nat):Int)∧d.n=iL n∧zaV 5000 ⟨d.which,d.n,false⟩=some (drF w n false).D:=by
 obtain⟨w,hw,e1⟩:=h.which;obtain⟨n,e2⟩:=h.n;exact⟨w,n,hw,e1,e2,by rw[e1,e2]; exact zni hw n false⟩
section
variable {f g:Fc} {M N:Nat}
end
section
variable {f g:Fc} {M N:Nat} {v:Nat}
end
theorem Std.zmt{f:Fc}{v k:Nat}{l:List Nat}(hf:FcOk f)(hp:pos f.vs v=some k)(h:Go.Dc.gat false f (rest f v)=some l):zaI f.D (v:Int)=some ((gF f (rest f v) l).D,0):=by
 rw[Go.Dc.zmt hf hp,h]; rfl
theorem Std.zmz{f:Fc}{v k:Nat}{l:List Nat}(hf:FcOk f)(hp:pos f.vs v=some k)(h:Go.Dc.gat true f (rest f v)=some l):zaO f.D (v:Int)=some ((gF f (rest f v) l).D,0):=by
 rw[Go.Dc.zmz hf hp,h]; rfl
theorem zsA{f:Fc}{us l us' l':List Nat}(h:∀ u∈us',u∈us):gF (gF f us l) us' l'=gF f us' l':=by
 show(⟨us',cof (gF f us l) us',l'⟩:Fc)=⟨us',cof f us',l'⟩;rw[zn1 h]
theorem zhw{f:Fc}:∀ {us:List Nat},Sel f us→upB (iL us)=true∧zpt f (iL us)=true
 | [],_=>⟨rfl,rfl⟩
 | u :: us,h=>by
  obtain⟨h1,h2⟩:=qbb.1 h.inc;obtain⟨h3,h4⟩:=zhw (f:=f) (us:=us) ⟨h2,fun x hx=>h.mem x (qal _ hx)⟩;refine⟨?_,?_⟩
  ·cases us with
   | nil=>rfl
   | cons y ys=>
    rw[show upB (iL (u :: y :: ys))=(decide ((u:Int)<(y:Int)) && upB (iL (y :: ys)))from rfl,h3,qbV];exact decide_eq_true (by have:=h1 y qaw; omega)
  rw[show zpt f (iL (u :: us))=((zhL (iL f.vs) (u:Int)).isSome && zpt f (iL us))from rfl,h4,qbV,zc2,zqX];exact decide_eq_true (h.mem u qaw)
theorem zkP(hw:zcZ=some true){p0:S_haruspexref03_Draft}(h0:DrOk p0){p1:Nat}(h1:p1<256):zcc 5000 p0 (p1:Int)=some true:=by
 obtain⟨w0,n0,k0,q0,q0',e0⟩:=h0.f;have a:=zsl k0 n0;generalize drF w0 n0 false=A at *;have hl5:A.vs.length≤5:=(zgY a.ok.inc a.var).2;unfold zcc;rw[hw,qad,cond_true,e0,qad,show A.D.vars=iL A.vs from rfl,zbf];by_cases hlen:A.vs.length<2
 ·rw[decide_eq_true (by omega),cond_true]
 rw[decide_eq_false (by omega),cond_false,zcW (show p1<_ by omega),zei (by omega) (by omega),show(A.vs.length:Int) - 1=((A.vs.length - 1:Nat):Int) by omega,zr8 (by omega),qad];have hq:p1 % (A.vs.length - 1)<A.vs.length - 1:=qbU _ (by omega);generalize p1 % (A.vs.length - 1)=q at *;rw[zds (by omega),qad,zbr (by omega),zds (by omega),qad];have hx:A.vs[q]'(by omega)∈A.vs:=qaW _;have hy:A.vs[q+1]'(by omega)∈A.vs:=qaW _;have hxy:A.vs[q]'(by omega)<A.vs[q+1]'(by omega):=List.pairwise_iff_getElem.1 a.ok.inc q (q+1) (by omega) (by omega) (by omega);generalize A.vs[q]'(by omega)=x at *;generalize A.vs[q+1]'(by omega)=y at *;have hxr:x∈rest A y:=qbx.2 ⟨hx,by rw[beq_false_of_ne (by omega)]; rfl⟩;have hyr:y∈rest A x:=qbx.2 ⟨hy,by rw[beq_false_of_ne (by omega)]; rfl⟩;obtain⟨kx,px⟩:=zen hx;obtain⟨ky,py⟩:=zen hy;have sx:=zeO a.ok x;have sy:=zeO a.ok y;have both:∀ b:Bool,∃ lx ly l,gat b A (rest A x)=some lx∧gat b A (rest A y)=some ly∧Std (gF A (rest A x) lx) 216∧Std (gF A (rest A y) ly) 216 ∧
   rest (gF A (rest A y) ly) x=rest (gF A (rest A x) lx) y∧gat b (gF A (rest A x) lx) (rest (gF A (rest A x) lx) y)=some l∧gat b (gF A (rest A y) ly) (rest (gF A (rest A x) lx) y)=some l∧gat b A (rest (gF A (rest A x) lx) y)=some l ∧
   gF (gF A (rest A x) lx) (rest (gF A (rest A x) lx) y) l=gF A (rest (gF A (rest A x) lx) y) l∧gF (gF A (rest A y) ly) (rest (gF A (rest A x) lx) y) l=gF A (rest (gF A (rest A x) lx) y) l∧Sel A (rest (gF A (rest A x) lx) y)∧Std (gF A (rest (gF A (rest A x) lx) y) l) 5184:=by
  intro b;obtain⟨lx,g1,t1⟩:=a.gat (by decide) b sx;obtain⟨ly,g2,t2⟩:=a.gat (by decide) b sy;have er:rest (gF A (rest A y) ly) x=rest (gF A (rest A x) lx) y:=by
   show((A.vs.filter fun u=>!(u == y)).filter fun u=>!(u == x))=(A.vs.filter fun u=>!(u == x)).filter fun u=>!(u == y)
   rw[List.filter_filter,List.filter_filter];exact List.filter_congr fun u _=>Bool.and_comm _ _
  have s1:=zeO t1.ok y;have s2:Sel (gF A (rest A y) ly) (rest (gF A (rest A x) lx) y):=er ▸ zeO t2.ok x;obtain⟨l,g3,t3⟩:=t1.gat (by decide) b s1;have w1:=zhs b a.ok sx s1 a.le (qap (qbB a.prod (qao 9 a.prod)) (by decide)) g1;have w2:=zhs b a.ok sy s2 a.le (qap (qbB a.prod (qao 9 a.prod)) (by decide)) g2;have e1:gF (gF A (rest A x) lx) (rest (gF A (rest A x) lx) y) l=gF A (rest (gF A (rest A x) lx) y) l:=zsA s1.mem;refine⟨lx,ly,l,g1,g2,t1,t2,er,g3,by rw[w2,← w1,g3],by rw[← w1,g3],e1,zsA s2.mem,⟨s1.inc,fun u hu=>sx.mem u (s1.mem u hu)⟩,?_⟩;rw[← e1];exact t3
 obtain⟨lx,ly,l,g1,g2,t1,t2,er,g3,g4,g5,f1,f2,sa,ts⟩:=both false;obtain⟨mx,my,m,u1,u2,v1,v2,ur,u3,u4,u5,h1,h2,_,vs⟩:=both true;obtain⟨jx,jpx⟩:=zen (show y∈(gF A (rest A x) lx).vs from hyr);obtain⟨jy,jpy⟩:=zen (show x∈(gF A (rest A y) ly).vs from hxr);have x1:=Std.zmt a.ok px g1;have x2:=Std.zmt a.ok py g2;have x3:=Std.zmt t1.ok jpx g3;have x4:=Std.zmt t2.ok jpy (by rw[er]; exact g4);have y1:=Std.zmz a.ok px u1;have y2:=Std.zmz a.ok py u2;have y3:=Std.zmz v1.ok (f:=gF A (rest A x) mx) jpx u3;have y4:=Std.zmz v2.ok (f:=gF A (rest A y) my) jpy (by rw[ur]; exact u4);rw[f1]at x3;rw[er,f2]at x4;rw[h1]at y3;rw[ur,h2]at y4;obtain⟨lt,gt,_⟩:=a.gat (by decide) false (zkS A);have tt:gat false (gF A (rest (gF A (rest A x) lx) y) l) []=some lt:=by
  rw[zhs false a.ok sa (zkS _) a.le (qap (qbB a.prod (qao 9 a.prod)) (by decide)) g5];exact gt
 have z1:za4 A.D=some (((lt.getD 0 0:Nat):Int),0):=by rw[zoq a.ok,gt]
 have z2:za4 (gF A (rest (gF A (rest A x) lx) y) l).D=some (((lt.getD 0 0:Nat):Int),0):=by rw[zoq ts.ok,tt]
 have c1:zaM A.D (gF A (rest (gF A (rest A x) lx) y) l).D.vars=some ((gF A (rest (gF A (rest A x) lx) y) l).D,0):=by
  obtain⟨r1,r2⟩:=zhw sa;show zaM A.D (iL (rest (gF A (rest A x) lx) y))=_;rw[zma a.ok sa r1 r2,g5]; rfl
 have c2:zaM A.D (iL A.vs)=some (A.D,0):=by
  obtain⟨r1,r2⟩:=zhw (ziG a.ok);rw[zma a.ok (ziG a.ok) r1 r2,zpJ false a.ok a.le (a.bound (by decide))];show some ((⟨iL A.vs,iL (cof A A.vs),iL A.ws⟩:S_api_Factor),(0:Int))=_;rw[zi0 a.ok]; rfl
 have i0:∀ x:S_api_Factor,zb0 x=some x:=fun _=>rfl
 have i1:=zrq ts rfl;have i2:=zrq vs rfl;have i3:=zrq a rfl;have z:((0:Int)== 0)=true:=rfl;have zt:(((lt.getD 0 0:Nat):Int)==((lt.getD 0 0:Nat):Int))=true:=beq_self_eq_true _;simp only[x1,x2,x3,x4,y1,y2,y3,y4,z1,z2,c1,c2,i0,i1,i2,i3,z,zt,qad,cond_true,cond_false,qaX]
def zrG(x:Int):List Int→List Int
 | []=>[x]
 | y :: ys=>bif decide (x≤y)then x :: y :: ys else y :: zrG x ys
def zsd:List Int→List Int
 | []=>[]
 | x :: xs=>zrG x (zsd xs)
theorem zhy(x:Int):∀ ys,(zrG x ys).Perm (x :: ys)
 | []=>.refl _
 | y :: ys=>by
  unfold zrG;cases decide (x≤y)with
  | true=>exact .refl _
  | false=>exact((zhy x ys).cons y).trans (.swap x y ys)
theorem zjX:∀ xs,(zsd xs).Perm xs
 | []=>.refl _
 | x :: xs=>(zhy x _).trans ((zjX xs).cons x)
theorem znI(x:Int):∀ {ys:List Int},ys.Pairwise (· ≤ ·)→(zrG x ys).Pairwise (· ≤ ·)
 | [],_=>List.pairwise_singleton _ _
 | y :: ys,h=>by
  obtain⟨h1,h2⟩:=qbb.1 h;unfold zrG;cases hd:decide (x≤y)with
  | true=>
   have:=of_decide_eq_true hd;refine qbb.2 ⟨fun z hz=>?_,h⟩;rcases qaM.1 hz with rfl | hz
   ·exact this
   ·exact Int.le_trans this (h1 z hz)
  | false=>
   have:=of_decide_eq_false hd;refine qbb.2 ⟨fun z hz=>?_,znI x h2⟩;rcases qaM.1 ((zhy x ys).mem_iff.1 hz)with rfl | hz
   ·omega
   exact h1 z hz
theorem zm9:∀ xs,(zsd xs).Pairwise (· ≤ ·)
 | []=>.nil
 | x :: xs=>znI x (zm9 xs)
theorem zpR:zgt=zsd:=by
 funext xs
 refine List.Perm.eq_of_pairwise (le:=fun a b:Int=>a≤b) (fun a b _ _ h1 h2=>Int.le_antisymm h1 h2) ?_ (zm9 xs) ((List.mergeSort_perm xs _).trans (zjX xs).symm);have:=List.pairwise_mergeSort (le:=fun x y:Int=>decide (x≤y)) (fun a b c h1 h2=>by simp at *; omega) (fun a b=>by simp; omega) xs;exact this.imp fun h=>by simpa using h
def zr0(b:Nat)(xs:List Int):Option (List Int):=if xs.length * b≤zap then some (zsd xs)else none
theorem zpz:zjZ=zr0:=by
 funext b xs
 unfold zjZ zr0;rw[zpR]
theorem zsx:zcZ=some true:=by
 delta zcZ zcr zc1
 rw[zpz];decide +kernel
end Go.Dc
