/-
 Plain laws: Keep and Total; FactorKeeps. Conditions: none.
-/
import Derived.Test.YtnfgibomhkbcpaaFuJ10
import Derived.Test.YtnfgibomhkbcpaaFuJ8
import Derived.Test.YtnfgibomhkbcpaaFuQ9
set_option linter.unusedSimpArgs false
set_option linter.unusedVariables false
set_option maxRecDepth 100000
namespace Go.Dc
open Go Go.Mx Go.Lx
section
variable {x:S_api_Factor} {p3:Int}
end
section
variable {y4 l1:List Int} {x:S_api_Factor}
end
section
variable {r6 r8:S_api_Factor} {p3:Int} {y4:List Int}
end
def Fc.val(f:Fc)(s:Nat→Nat):Nat:=f.get (dot (f.vs.map s) (zaC f.cs))
theorem zqW(f:Fc)(u ds:List Nat):f.at u ds=f.val (at_ u ds):=rfl
def Fit(f:Fc)(s:Nat→Nat):Prop:=∀ v∈f.vs,s v<at_ f.vs f.cs v
theorem zhh{s:Nat→Nat}:∀ {us cs:List Nat},us.length=cs.length→us.Nodup→(∀ c∈cs,1≤c∧c≤8)→(∀ v∈us,s v<at_ us cs v)→zcp cs (us.map s)
 | [],[],_,_,_,_=>trivial
 | [],c :: cs,h,_,_,_=>by simp at h
 | u :: us,[],h,_,_,_=>by simp at h
 | u :: us,c :: cs,hl,hn,hc,h=>by
  obtain⟨h1,h2⟩:=qbq.1 hn;have hu:=h u qap;rw[zew,beq_self_eq_true,cond_true]at hu;refine⟨hu,(hc c qap).2,zhh (by simpa using hl) h2 (fun d hd=>hc d (qak _ hd)) fun v hv=>?_⟩;have:=h v (qak _ hv)
  rwa [zew,show(u == v)=false from beq_false_of_ne (fun e=>h1 (e ▸ hv)),cond_false]at this
theorem Fit.below{f:Fc}(hf:FcOk f){s:Nat→Nat}(h:Fit f s):zcp f.cs (f.vs.map s):=zhh hf.len (zaP hf.inc) hf.zdN h
theorem zrU{f:Fc}(hf:FcOk f){i:Nat}(hi:i<zae f.cs):Fit f (at_ f.vs (dig f.cs i)):=fun v hv=>(zgQ hf.len (zdB hf.zdN hi) hv).1
theorem zn4{f:Fc}(hf:FcOk f){i:Nat}(hi:i<zae f.cs):f.val (at_ f.vs (dig f.cs i))=f.get i:=by
 unfold Fc.val;rw[zmV (zaP hf.inc) (by rw[zgq,hf.len]),zhD hf.zdN hi]
theorem val_congr{f:Fc}{s t:Nat→Nat}(h:∀ v∈f.vs,s v=t v):f.val s=f.val t:=by
 unfold Fc.val;rw[qbk h]
theorem zrH{f g:Fc}(hf:FcOk f)(hg:FcOk g)(h1:f.vs=g.vs)(h2:f.cs=g.cs)(h:∀ s,Fit f s→f.val s=g.val s):f=g:=by
 have hw:f.ws=g.ws:=by
  refine qcp (by rw[hf.size,hg.size,h2]) fun i a b=>?_
  have hi:i<zae f.cs:=by rw[← hf.size]; exact a
  have e:=h _ (zrU hf hi);rw[zn4 hf hi,h1,h2,zn4 hg (by rw[← h2]; exact hi)]at e;unfold Fc.get at e;rw[qam,qam,qaf a,qaf b]at e;exact e
 cases f; cases g;simp only at h1 h2 hw;rw[h1,h2,hw]
theorem get_map{n:Nat}{g:Nat→Nat}{i:Nat}(h:i<n):((List.range' 0 n).map g).getD i 0=g i:=by
 rw[qam,qaf (by simpa using h)];simp
theorem zgm{f g:Fc}(hf:FcOk f)(hg:FcOk g)(hc:zbJ (iL (ucs f g))=true){s:Nat→Nat}(hs:Fit (zg1 f g) s):(zg1 f g).val s=f.val s * g.val s:=by
 have hD:=zl6 hc;have hb:zcp (ucs f g) ((uni f g).map s):=zhh hD.len hD.nodup hD.zdN hs;have hlt:=ziB hb;show((List.range' 0 (zae (ucs f g))).map fun j=>f.at (uni f g) (dig (ucs f g) j)* g.at (uni f g) (dig (ucs f g) j)).getD (dot ((uni f g).map s) (zaC (ucs f g))) 0=_;rw[get_map hlt,zln hb,zqW,zqW];rw[val_congr (f:=f) (t:=s) fun v hv=>zhi ((zdi hf hg).2 (.inl hv)),val_congr (f:=g) (t:=s) fun v hv=>zhi ((zdi hf hg).2 (.inr hv))]
def big(b:Bool)(xs:List Nat):Nat:=xs.foldr (gop b) 0
theorem zoj(b:Bool)(x y z:Nat):gop b (gop b x y) z=gop b x (gop b y z):=by
 cases b
 ·exact qa8 x y z
 exact Nat.max_assoc x y z
theorem zqE(b:Bool)(x y:Nat):gop b x y=gop b y x:=by
 cases b
 ·exact Nat.add_comm x y
 exact Nat.max_comm x y
theorem zl9(b:Bool)(x:Nat):gop b x 0=x:=by
 cases b
 ·rfl
 exact Nat.max_zero x
theorem zpZ(b:Bool)(x:Nat):gop b 0 x=x:=by rw[zqE,zl9]
theorem zgP(b:Bool)(x:Nat)(xs:List Nat):big b (x :: xs)=gop b x (big b xs):=rfl
theorem zrd{b:Bool}{M:Nat}:∀ {xs:List Nat},(∀ x∈xs,x≤M)→big b xs≤xs.length * M
 | [],_=>by simp[big]
 | x :: xs,h=>by
  have h1:=h x qap;have h2:=zrd (b:=b) fun y hy=>h y (qak x hy)
  rw[zgP,qaT,qaJ,qbW];cases b
  ·show x+big false xs≤_; omega
  show max x (big true xs)≤_; omega
def fib(f:Fc)(us:List Nat)(m i j:Nat):List Nat:=((List.range' i m).filter fun i=>ix f us i == j).map f.get
theorem zqf(f:Fc)(us:List Nat)(m i j:Nat):fib f us (m+1) i j=bif ix f us i == j then f.get i :: fib f us m (i+1) j else fib f us m (i+1) j:=by
 unfold fib;rw[qbC];cases hb:(ix f us i == j)with
 | true=>rw[qch (p:=fun i=>ix f us i == j) hb,qay,cond_true]
 | false=>rw[qcg (p:=fun i=>ix f us i == j) (by rw[hb]; decide),cond_false]
theorem ziI{b:Bool}{f:Fc}{us:List Nat}{M:Nat}(hM:∀ i,f.get i≤M):∀ {m i K:Nat} {l:List Nat},(∀ j,l.getD j 0≤K)→K+m * M≤zdj→(∀ k,i≤k→k<i+m→ix f us k<l.length)→
  ∃ l',zfI b f us m i l=some l'∧l'.length=l.length∧∀ j,j<l.length→l'.getD j 0=gop b (l.getD j 0) (big b (fib f us m i j))
 | 0,i,K,l,_,_,_=>⟨l,rfl,rfl,fun j _=>by
   rw[show fib f us 0 i j=[]from rfl]
   exact(zl9 b _).symm⟩
 | m+1,i,K,l,hl,hK,hx=>by
  have hi:=hx i (qai _) (by omega);have h1:=hl (ix f us i);have h2:=hM i;rw[qaJ,qbW]at hK;have h3:gop b (l.getD (ix f us i) 0) (f.get i)≤K+M:=by
   cases b
   ·show _+_≤_; omega
   show max _ _≤_; omega
  have hset:∀ j,(l.set (ix f us i) (gop b (l.getD (ix f us i) 0) (f.get i))).getD j 0=bif ix f us i == j then gop b (l.getD (ix f us i) 0) (f.get i)else l.getD j 0:=by
   intro j;by_cases e:ix f us i=j
   ·subst e;rw[beq_self_eq_true,cond_true,qam,qaz hi];rfl
   rw[beq_false_of_ne e,cond_false,qam,qan e,← qam]
  obtain⟨l',g1,g2,g3⟩:=ziI (b:=b) (us:=us) hM (m:=m) (i:=i+1) (K:=K+M) (l:=l.set (ix f us i) (gop b (l.getD (ix f us i) 0) (f.get i))) (fun j=>by
   rw[hset];cases(ix f us i == j)
   ·rw[cond_false]; have:=hl j; omega
   rw[cond_true]; exact h3) (by omega) (fun k a c=>by rw[qa1]; exact hx k (by omega) (by omega))
  refine⟨l',?_,by rw[g2,qa1],fun j hj=>?_⟩
  ·unfold zfI;rw[decide_eq_true (show gop b (l.getD (ix f us i) 0) (f.get i)≤zdj by omega),cond_true];exact g1
  rw[g3 j (by rw[qa1]; exact hj),hset,zqf];cases hb:(ix f us i == j)with
  | false=>rw[cond_false,cond_false]
  | true=>
   rw[cond_true,cond_true,zgP,zoj,beq_iff_eq.1 hb]
theorem zmB(b:Bool){f:Fc}(hf:FcOk f){us:List Nat}(hs:Sel f us){M:Nat}(hM:∀ i,f.get i≤M)(hB:zae f.cs * M≤zdj):
  gat b f us=some ((List.range' 0 (zae (cof f us))).map fun j=>big b (fib f us (zae f.cs) 0 j)):=by
 obtain⟨l',g1,g2,g3⟩:=ziI (b:=b) (us:=us) hM (m:=zae f.cs) (i:=0) (K:=0) (l:=List.replicate (zae (cof f us)) 0) (fun j=>by
  rw[qam,List.getElem?_replicate]
  split<;>exact qai _) (by omega) (fun k _ hk=>by rw[qcm]; exact zsp hf hs (by omega))
 unfold gat;rw[g1];refine congrArg some (qcp (by rw[g2]; simp) fun j a c=>?_);have hj:j<zae (cof f us):=by simpa using c
 have e:=g3 j (by simpa using hj);rw[qam,qaf a,qam,List.getElem?_replicate,if_pos hj]at e;simp only[qbl]at e;rw[zpZ]at e;rw[e];simp
def upd(s:Nat→Nat)(v p:Nat)(u:Nat):Nat:=bif u == v then p else s u
theorem zjm(s:Nat→Nat)(v p:Nat):upd s v p v=p:=by unfold upd; rw[beq_self_eq_true,cond_true]
theorem zmQ{s:Nat→Nat}{v p u:Nat}(h:u≠v):upd s v p u=s u:=by unfold upd; rw[beq_false_of_ne h,cond_false]
theorem zrF{f:Fc}{v u:Nat}(h:u∈rest f v):u≠v:=by
 have:=(qaW.1 h).2;intro e;rw[e,beq_self_eq_true]at this;cases this
theorem zfU{f:Fc}(hf:FcOk f){v k:Nat}(hv:pos f.vs v=some k)(s:Nat→Nat)(p:Nat):(f.vs.map (upd s v p)).eraseIdx k=(rest f v).map s:=by
 rw[← zf5,← zjn hf hv];exact qbk fun u hu=>zmQ (zrF hu)
theorem zkR{cs:List Nat}{k:Nat}(hc:∀ c∈cs,1≤c∧c≤8){i:Nat}(h:i<zae (cs.eraseIdx k)):dot (dig (cs.eraseIdx k) i) (zaC (cs.eraseIdx k))=i:=zhD (zeb hc k) h
theorem zly{cs ds:List Nat}{k p:Nat}(hc:∀ c∈cs,1≤c∧c≤8)(hk:k<cs.length)(hp:p<cs[k])(hb:zcp cs ds)(hd:ds.getD k 0=p):zgj cs k p (dot (ds.eraseIdx k) (zaC (cs.eraseIdx k)))=dot ds (zaC cs)∧dot (ds.eraseIdx k) (zaC (cs.eraseIdx k))<zae (cs.eraseIdx k):=by
 have hlt:=ziB hb;have hdig:=zln hb;obtain⟨j,h1,h2⟩:=zmh hc hk hlt (p:=p) (by rw[hdig]; exact hd);have h3:=(zi6 hc hk hp h1).2;rw[h2,hdig]at h3;rw[h3,zkR hc h1];exact⟨h2,h1⟩
theorem zmL{f:Fc}{v k:Nat}(hv:pos f.vs v=some k)(s:Nat→Nat)(p:Nat):(f.vs.map (upd s v p)).getD k 0=p:=by
 obtain⟨hk,e⟩:=zb6 hv;rw[qam,qaf (by simpa using hk)];simp only[List.getElem_map,e,zjm,qbl]
theorem zoF{f:Fc}(hf:FcOk f){v k:Nat}(hv:pos f.vs v=some k)(hk:k<f.cs.length):at_ f.vs f.cs v=f.cs[k]:=by
 rw[zmI hv,qam,qaf hk];rfl
theorem zoo{f:Fc}(hf:FcOk f){v k p:Nat}(hv:pos f.vs v=some k)(hk:k<f.cs.length)(hp:p<f.cs[k]){s:Nat→Nat}(hs:∀ u∈rest f v,s u<at_ f.vs f.cs u):Fit f (upd s v p):=by
 intro u hu;by_cases e:u=v
 ·subst e;rw[zjm,zoF hf hv hk];exact hp
 rw[zmQ e];exact hs u (qaW.2 ⟨hu,by rw[beq_false_of_ne e]; rfl⟩)
theorem zjO{f:Fc}(hf:FcOk f){v k p:Nat}(hv:pos f.vs v=some k)(hk:k<f.cs.length)(hp:p<f.cs[k]){s:Nat→Nat}(hs:∀ u∈rest f v,s u<at_ f.vs f.cs u):(fixF f v k p).val s=f.val (upd s v p):=by
 have hb:=(zoo hf hv hk hp hs).below hf;obtain⟨h1,h2⟩:=zly hf.zdN hk hp hb (zmL hv s p);rw[zfU hf hv]at h1 h2;show((List.range' 0 (zae (f.cs.eraseIdx k))).map fun j=>f.get (zgj f.cs k p j)).getD (dot ((rest f v).map s) (zaC (f.cs.eraseIdx k))) 0=_;rw[get_map h2,h1];rfl
theorem ziv:∀ {cs:List Nat} {k p q i:Nat},(∀ c∈cs,1≤c∧c≤8)→k<cs.length→p<q→zgj cs k p i<zgj cs k q i
 | [],k,_,_,_,_,hk,_=>by simp at hk
 | c :: cs,0,p,q,i,hc,_,h=>by
  have hp:0<zae cs:=zbr fun d hd=>hc d (qak c hd)
  have:=Nat.mul_lt_mul_of_pos_right h hp;show p * zae cs+i<q * zae cs+i;omega
 | c :: cs,k+1,p,q,i,hc,hk,h=>by
  have:=ziv (i:=i % zae (cs.eraseIdx k)) (fun d hd=>hc d (qak c hd)) (show k<cs.length by simpa using hk) h;show i / zae (cs.eraseIdx k)* zae cs+zgj cs k p (i % zae (cs.eraseIdx k))<i / zae (cs.eraseIdx k)* zae cs+zgj cs k q (i % zae (cs.eraseIdx k));omega
theorem zoM{f:Fc}(hf:FcOk f){v k:Nat}(hv:pos f.vs v=some k){i:Nat}:ix f (rest f v) i=dot ((dig f.cs i).eraseIdx k) (zaC (f.cs.eraseIdx k)):=by
 unfold ix;rw[zf2 hf hv,zjn hf hv,zf5,zmV (zaP hf.inc) (by rw[zgq,hf.len])]
theorem zqF{f:Fc}(hf:FcOk f){v k:Nat}(hv:pos f.vs v=some k)(hk:k<f.cs.length){j:Nat}(hj:j<zae (f.cs.eraseIdx k)):fib f (rest f v) (zae f.cs) 0 j=(List.range' 0 f.cs[k]).map fun p=>f.get (zgj f.cs k p j):=by
 have e:((List.range' 0 (zae f.cs)).filter fun i=>ix f (rest f v) i == j)=(List.range' 0 f.cs[k]).map fun p=>zgj f.cs k p j:=by
  refine zlk (qbE _ qbY) (qck.2 (List.Pairwise.imp (fun h=>ziv hf.zdN hk h) qbY)) fun x=>?_
  simp only[qaW,qbx,qaC,beq_iff_eq];constructor
  ·rintro⟨⟨_,h1⟩,h2⟩;have hx:x<zae f.cs:=by omega
   have hb:=zdB hf.zdN hx;have hp:(dig f.cs x).getD k 0<f.cs[k]:=by
    have hkd:k<(dig f.cs x).length:=by rw[zgq]; exact hk
    have hm:f.vs[k]'(by rw[hf.len]; exact hk)∈f.vs:=qaF _;have h3:=(zgQ hf.len hb hm).1;rw[zkW (zaP hf.inc) (by rw[hf.len]; exact hk),zkW (zaP hf.inc) (by rw[hf.len]; exact hk)]at h3
    rwa [qam (l:=f.cs),qaf hk]at h3
   refine⟨(dig f.cs x).getD k 0,⟨qaM _,by omega⟩,?_⟩;obtain⟨h3,_⟩:=zly hf.zdN hk hp hb rfl;rw[zoM hf hv]at h2;rw[h2,zhD hf.zdN hx]at h3;exact h3
  rintro⟨p,⟨_,h1⟩,rfl⟩;have hp:p<f.cs[k]:=by omega
  refine⟨⟨qaM _,by have:=zji hf.zdN hk hp hj; omega⟩,?_⟩;rw[zoM hf hv,(zi6 hf.zdN hk hp hj).2,zkR hf.zdN hj]
 unfold fib;rw[e,List.map_map];rfl
theorem ziR(b:Bool){f:Fc}(hf:FcOk f){v k:Nat}(hv:pos f.vs v=some k)(hk:k<f.cs.length){l:List Nat}{M:Nat}(hM:∀ i,f.get i≤M)(hB:zae f.cs * M≤zdj)(hg:gat b f (rest f v)=some l){s:Nat→Nat}(hs:∀ u∈rest f v,s u<at_ f.vs f.cs u):
  (gF f (rest f v) l).val s=big b ((List.range' 0 f.cs[k]).map fun p=>f.val (upd s v p)):=by
 have h0:=zmB b hf (zdL hf v) hM hB;rw[hg,zf2 hf hv]at h0;have hl:=qac h0;have hc0:0<f.cs[k]:=(hf.zdN _ (qaF hk)).1;have key:∀ p,p<f.cs[k]→zgj f.cs k p (dot ((rest f v).map s) (zaC (f.cs.eraseIdx k)))=dot (f.vs.map (upd s v p)) (zaC f.cs)∧dot ((rest f v).map s) (zaC (f.cs.eraseIdx k))<zae (f.cs.eraseIdx k):=by
  intro p hp;have h:=zly hf.zdN hk hp ((zoo hf hv hk hp hs).below hf) (zmL hv s p);rw[zfU hf hv]at h;exact h
 have hj:=(key 0 hc0).2;show l.getD (dot ((rest f v).map s) (zaC (cof f (rest f v)))) 0=_;rw[zf2 hf hv,hl,get_map hj,zqF hf hv hk hj];congr 1
 refine qbk fun p hp=>?_
 have:=qbx.1 hp;rw[(key p (by omega)).1];rfl
structure Std (f:Fc) (M:Nat):Prop where
 ok:FcOk f
 cs:f.cs=f.vs.map zdA
 var:∀ v∈f.vs,v<5
 le:∀ i,f.get i≤M
def zqR(s:Nat→Nat):Prop:=∀ v,v<5→s v<zdA v
theorem ziP:∀ v,v<5→1≤zdA v∧zdA v≤8:=by decide
theorem zqD:[0,1,2,3,4].Pairwise (· < ·):=by decide
theorem zqw{v:Nat}(h:v<5):v∈[0,1,2,3,4]:=by
 have:∀ v,v<5→v∈[0,1,2,3,4]:=by decide
 exact this v h
theorem zjT{vs:List Nat}(hi:vs.Pairwise (· < ·))(hv:∀ v∈vs,v<5):zae (vs.map zdA)≤24∧vs.length≤5:=by
 have hs:=zg6 hi zqD fun v h=>zqw (hv v h)
 refine⟨?_,hs.length_le⟩;have:=zgZ (hs.map zdA) (by decide);exact this
theorem zoC{vs:List Nat}(hv:∀ v∈vs,v<5):∀ c∈vs.map zdA,1≤c∧c≤8:=by
 intro c hc;obtain⟨v,h,rfl⟩:=qaC.1 hc;exact ziP v (hv v h)
theorem zne{vs:List Nat}(hi:vs.Pairwise (· < ·))(hv:∀ v∈vs,v<5):zbJ (iL (vs.map zdA))=true:=by
 obtain⟨h1,h2⟩:=zjT hi hv;unfold zbJ;rw[zaQ,qa4,decide_eq_true (by omega),qbn];exact zhd (zoC hv) (by omega)
theorem Std.at{f:Fc}{M:Nat}(h:Std f M){v:Nat}(hv:v∈f.vs):at_ f.vs f.cs v=zdA v:=by rw[h.cs,zhi hv]
theorem Std.prod{f:Fc}{M:Nat}(h:Std f M):zae f.cs≤24:=by rw[h.cs]; exact(zjT h.ok.inc h.var).1
theorem Std.agr{f g:Fc}{M N:Nat}(hf:Std f M)(hg:Std g N):Agr f g:=fun v h1 h2=>by rw[hf.at h1,hg.at h2]
theorem Std.fit{f:Fc}{M:Nat}(h:Std f M){s:Nat→Nat}(hs:zqR s):Fit f s:=fun v hv=>by rw[h.at hv]; exact hs v (h.var v hv)
theorem Std.zdN{f:Fc}{M:Nat}(h:Std f M){v k:Nat}(hv:pos f.vs v=some k)(hk:k<f.cs.length):f.cs[k]=zdA v:=by
 obtain⟨h1,e⟩:=zb6 hv;rw[← zoF h.ok hv hk,h.at (e ▸ qaF h1)]
theorem Std.ucs{f g:Fc}{M N:Nat}(hf:Std f M)(hg:Std g N):ucs f g=(uni f g).map zdA:=by
 refine qbk fun v hv=>?_
 rcases(zdi hf.ok hg.ok).1 hv with h | h
 ·rw[zuB h,hf.at h]
 rw[zuz (hf.agr hg) h,hg.at h]
theorem Std.uv{f g:Fc}{M N:Nat}(hf:Std f M)(hg:Std g N):∀ v∈uni f g,v<5:=fun v hv=>((zdi hf.ok hg.ok).1 hv).elim (hf.var v) (hg.var v)
theorem Std.zad{f g:Fc}{M N:Nat}(hf:Std f M)(hg:Std g N):zbJ (iL (Go.Dc.ucs f g))=true:=by
 rw[hf.ucs hg];exact zne (zfl f g) (hf.uv hg)
theorem ze0{l:List Nat}{M:Nat}(h:∀ x∈l,x≤M)(k:Nat):l.getD k 0≤M:=by
 by_cases hk:k<l.length
 ·rw[qam,qaf hk];exact h _ (qaF hk)
 rw[qam,qa7 (by omega)];exact qaM _
theorem Std.zlt{f g:Fc}{M N:Nat}(hf:Std f M)(hg:Std g N)(hB:M * N≤zdj):Go.Dc.zlt f g=true:=
 qbs.2 fun j _=>decide_eq_true (qat (qbr (hf.le _) (hg.le _)) hB)
theorem Std.mul{f g:Fc}{M N:Nat}(hf:Std f M)(hg:Std g N)(hB:M * N≤zdj):Std (zg1 f g) (M * N):=by
 refine⟨zrB hf.ok hg.ok (hf.zad hg) (hf.zlt hg hB),hf.ucs hg,hf.uv hg,ze0 fun x hx=>?_⟩;obtain⟨j,_,rfl⟩:=qaC.1 hx;exact qbr (hf.le _) (hg.le _)
theorem Std.znc{f g:Fc}{M N:Nat}(hf:Std f M)(hg:Std g N)(hB:M * N≤zdj):zaV f.D g.D=some ((zg1 f g).D,0):=by
 rw[Go.Dc.znc hf.ok hg.ok,(zkq hf.ok hg.ok).2 (hf.agr hg),cond_true];unfold mulR;rw[hf.zad hg,cond_true,hf.zlt hg hB,cond_true]
theorem Std.zgm{f g:Fc}{M N:Nat}(hf:Std f M)(hg:Std g N)(hB:M * N≤zdj){s:Nat→Nat}(hs:zqR s):(zg1 f g).val s=f.val s * g.val s:=
 Go.Dc.zgm hf.ok hg.ok (hf.zad hg) ((hf.mul hg hB).fit hs)
theorem Std.ext{f g:Fc}{M N:Nat}(hf:Std f M)(hg:Std g N)(h1:f.vs=g.vs)(h:∀ s,zqR s→f.val s=g.val s):f=g:=by
 refine zrH hf.ok hg.ok h1 (by rw[hf.cs,hg.cs,h1]) fun s hs=>?_
 have h5:zqR fun u=>bif decide (u∈f.vs)then s u else 0:=by
  intro v hv;by_cases hm:v∈f.vs
  ·show(bif decide (v∈f.vs)then s v else 0)<_;rw[decide_eq_true hm,cond_true,← hf.at hm];exact hs v hm
  show(bif decide (v∈f.vs)then s v else 0)<_;rw[decide_eq_false hm,cond_false];exact(ziP v hv).1
 have e:=h _ h5;rw[val_congr (f:=f) (t:=s) fun v hv=>by rw[decide_eq_true hv,cond_true],val_congr (f:=g) (t:=s) fun v hv=>by rw[← h1]at hv; rw[decide_eq_true hv,cond_true]]at e;exact e
theorem Std.bound{f:Fc}{M:Nat}(h:Std f M)(hB:24 * M≤zdj):zae f.cs * M≤zdj:=qat (qaq M h.prod) hB
theorem Std.gat{f:Fc}{M:Nat}(hf:Std f M)(hB:24 * M≤zdj)(b:Bool){us:List Nat}(hs:Sel f us):∃ l,Go.Dc.gat b f us=some l∧Std (gF f us l) (24 * M):=by
 have h:=zmB b hf.ok hs hf.le (hf.bound hB);refine⟨_,h,zt7 hf.ok hs h,?_,fun v hv=>hf.var v (hs.mem v hv),ze0 fun x hx=>?_⟩
 ·exact qbk fun u hu=>hf.at (hs.mem u hu)
 obtain⟨j,_,rfl⟩:=qaC.1 hx;refine qat (zrd (M:=M) fun y hy=>?_) (qaq M ?_)
 ·obtain⟨i,_,rfl⟩:=qaC.1 hy;exact hf.le i
 unfold fib;rw[qa4];exact qat (List.length_filter_le _ _) (by rw[List.length_range']; exact hf.prod)
theorem zmD{s:Nat→Nat}(hs:zqR s){v p:Nat}(hp:p<zdA v):zqR (upd s v p):=by
 intro u hu;by_cases e:u=v
 ·subst e; rw[zjm]; exact hp
 rw[zmQ e]; exact hs u hu
theorem Std.ziR{f:Fc}{M:Nat}(hf:Std f M)(hB:24 * M≤zdj)(b:Bool){v k:Nat}(hv:pos f.vs v=some k){l:List Nat}(hg:Go.Dc.gat b f (rest f v)=some l){s:Nat→Nat}(hs:zqR s):
  (gF f (rest f v) l).val s=big b ((List.range' 0 (zdA v)).map fun p=>f.val (upd s v p)):=by
 obtain⟨hk1,_⟩:=zb6 hv;have hk:k<f.cs.length:=by rw[← hf.ok.len]; exact hk1
 have h:=Go.Dc.ziR b hf.ok hv hk hf.le (hf.bound hB) hg (s:=s) fun u hu=>hf.fit hs u (qaW.1 hu).1
 rw[h,hf.zdN hv hk]
theorem Std.fix{f:Fc}{M:Nat}(hf:Std f M){v k:Nat}(hv:pos f.vs v=some k)(p:Nat):Std (fixF f v k p) M:=by
 obtain⟨hk1,_⟩:=zb6 hv;have hk:k<f.cs.length:=by rw[← hf.ok.len]; exact hk1
 refine⟨zsw hf.ok hv hk p,?_,fun u hu=>hf.var u (qaW.1 hu).1,ze0 fun x hx=>?_⟩
 ·show f.cs.eraseIdx k=(rest f v).map zdA;rw[← zf2 hf.ok hv];exact qbk fun u hu=>hf.at (qaW.1 hu).1
 obtain⟨j,_,rfl⟩:=qaC.1 hx;exact hf.le _
theorem Std.zjO{f:Fc}{M:Nat}(hf:Std f M){v k p:Nat}(hv:pos f.vs v=some k)(hp:p<zdA v){s:Nat→Nat}(hs:zqR s):(fixF f v k p).val s=f.val (upd s v p):=by
 obtain⟨hk1,_⟩:=zb6 hv;have hk:k<f.cs.length:=by rw[← hf.ok.len]; exact hk1
 exact Go.Dc.zjO hf.ok hv hk (by rw[hf.zdN hv hk]; exact hp) fun u hu=>hf.fit hs u (qaW.1 hu).1
theorem zqY{w:Nat}(hw:w<256)(n:List Nat):Std (drF w n false) 9:=by
 refine⟨ztc hw n false,rfl,fun v hv=>?_,ze0 fun x hx=>?_⟩
 ·have:=qbx.1 (qaW.1 hv).1;omega
 obtain⟨j,_,rfl⟩:=qaC.1 hx;have:=zli n j;show znK n j * 1≤9;omega
theorem zq3{w:Nat}{n:List Nat}{b:Bool}{v:Nat}:v∈(drF w n b).vs↔v<5∧w.testBit v=true:=by
 show v∈(List.range' 0 5).filter w.testBit↔_;rw[qaW,qbx];constructor
 ·exact fun h=>⟨by omega,h.2⟩
 exact fun h=>⟨⟨qaM _,by omega⟩,h.2⟩
theorem zrw{f g:Fc}{M:Nat}(hf:Std f M)(h:f=g):za7 f.D 0 g.D=some true:=by
 unfold za7;rw[show((0:Int)== 0)=true from rfl,cond_true,zrQ hf.ok.sz,h,decide_eq_true rfl];rfl
section
variable {f g h:Fc} {M N K:Nat}
theorem ztp{vs:List Nat}(hf:FcOk f)(hg:FcOk g)(hi:vs.Pairwise (· < ·))(hm:∀ v,v∈vs↔v∈f.vs∨v∈g.vs):uni f g=vs:=
 zlk (zfl f g) hi fun v=>(zdi hf hg).trans (hm v).symm
end
theorem DrOk.f{d:S_haruspexref03_Draft}(h:DrOk d):∃ w n,w<256∧d.which=((w:Nat):Int)∧d.n=iL n∧zaD 5000 ⟨d.which,d.n,false⟩=some (drF w n false).D:=by
 obtain⟨w,hw,e1⟩:=h.which;obtain⟨n,e2⟩:=h.n;exact⟨w,n,hw,e1,e2,by rw[e1,e2]; exact zjh hw n false⟩
section
variable {f g:Fc} {M N:Nat}
end
theorem zsq(b:Bool)(x y z:Nat):x * gop b y z=gop b (x * y) (x * z):=by
 cases b
 ·exact Nat.mul_add x y z
 show x * max y z=max (x * y) (x * z);rcases Nat.le_total y z with h | h
 ·rw[Nat.max_eq_right h,Nat.max_eq_right (Nat.mul_le_mul_left x h)]
 rw[Nat.max_eq_left h,Nat.max_eq_left (Nat.mul_le_mul_left x h)]
theorem zn1(b:Bool)(x:Nat)(g:Nat→Nat):∀ L:List Nat,big b (L.map fun p=>x * g p)=x * big b (L.map g)
 | []=>rfl
 | p :: L=>by rw[qay,qay,zgP,zgP,zn1 b x g L,zsq]
section
variable {f g:Fc} {M N:Nat} {v:Nat}
theorem zmg(hf:FcOk f)(hg:FcOk g)(hv:v ∉ f.vs){h:Fc}(e:h.vs=rest g v)(hh:FcOk h):rest (zg1 f g) v=uni f h:=by
 symm
 refine ztp hf hh (qbE _ (zfl f g)) fun u=>?_
 show u∈(uni f g).filter (fun u=>!(u == v))↔_;rw[qaW,zdi hf hg,e];unfold rest;rw[qaW];constructor
 ·rintro⟨h1 | h1,h2⟩
  ·exact .inl h1
  exact .inr ⟨h1,h2⟩
 rintro(h1 | ⟨h1,h2⟩)
 ·exact⟨.inl h1,by rw[beq_false_of_ne (fun e:u=v=>hv (e ▸ h1))]; rfl⟩
 exact⟨.inr h1,h2⟩
theorem ztg(hv:v ∉ f.vs)(s:Nat→Nat)(p:Nat):f.val (upd s v p)=f.val s:=val_congr fun u hu=>zmQ fun e=>hv (e ▸ hu)
theorem zmT(b:Bool)(hf:Std f M)(hg:Std g N)(hv:v ∉ f.vs){k j:Nat}(hk:pos g.vs v=some k)(hj:pos (zg1 f g).vs v=some j)(hB:M * N≤zdj)(hB2:24 * (M * N)≤zdj)(hB3:24 * N≤zdj)(hB4:M * (24 * N)≤zdj){l l':List Nat}
  (h1:gat b g (rest g v)=some l) (s1:Std (gF g (rest g v) l) (24 * N)) (h2:gat b (zg1 f g) (rest (zg1 f g) v)=some l') (s2:Std (gF (zg1 f g) (rest (zg1 f g) v) l') (24 * (M * N))):zg1 f (gF g (rest g v) l)=gF (zg1 f g) (rest (zg1 f g) v) l':=by
 have h:=hf.mul hg hB;refine(hf.mul s1 hB4).ext s2 (zmg hf.ok hg.ok hv rfl s1.ok).symm fun s hs=>?_
 rw[hf.zgm s1 hB4 hs,hg.ziR hB3 b hk h1 hs,h.ziR hB2 b hj h2 hs,← zn1];congr 1
 refine qbk fun p hp=>?_
 have hp2:p<zdA v:=by have:=qbx.1 hp; omega
 rw[hf.zgm hg hB (zmD hs hp2),ztg hv]
theorem zp6(hf:Std f M)(hg:Std g N)(hv:v ∉ f.vs){k j:Nat}(hk:pos g.vs v=some k)(hj:pos (zg1 f g).vs v=some j)(hB:M * N≤zdj){p:Nat}(hp:p<zdA v):zg1 f (fixF g v k p)=fixF (zg1 f g) v j p:=by
 have h:=hf.mul hg hB;have s1:=hg.fix hk p;have s2:=h.fix hj p;refine(hf.mul s1 hB).ext s2 (zmg hf.ok hg.ok hv rfl s1.ok).symm fun s hs=>?_
 rw[hf.zgm s1 hB hs,hg.zjO hk hp hs,h.zjO hj hp hs,hf.zgm hg hB (zmD hs hp),ztg hv]
end
theorem Std.zqB{f:Fc}{v k:Nat}{l:List Nat}(hf:FcOk f)(hp:pos f.vs v=some k)(h:Go.Dc.gat false f (rest f v)=some l):zaZ f.D (v:Int)=some ((gF f (rest f v) l).D,0):=by
 rw[Go.Dc.zqB hf hp,h]; rfl
theorem Std.zp9{f:Fc}{v k:Nat}{l:List Nat}(hf:FcOk f)(hp:pos f.vs v=some k)(h:Go.Dc.gat true f (rest f v)=some l):zbc f.D (v:Int)=some ((gF f (rest f v) l).D,0):=by
 rw[Go.Dc.zp9 hf hp,h]; rfl
theorem Std.zqe{f:Fc}{M v k p:Nat}(hf:Std f M)(hv:pos f.vs v=some k)(hp:p<zdA v):zbb f.D (v:Int) (p:Int)=some ((fixF f v k p).D,0):=by
 obtain⟨hk1,_⟩:=zb6 hv;have hk:k<f.cs.length:=by rw[← hf.ok.len]; exact hk1
 exact Go.Dc.zqe hf.ok hv hk (by rw[hf.zdN hv hk]; exact hp)
theorem zlw(hw:zcY=some true){p0 p1:S_haruspexref03_Draft}(h0:DrOk p0)(h1:DrOk p1){p2:Nat}(h2:p2<256):zcj 5000 p0 p1 (p2:Int)=some true:=by
 obtain⟨w0,n0,k0,q0,q0',e0⟩:=h0.f;obtain⟨w1,n1,k1,q1,q1',e1⟩:=h1.f;have hm:w64 ((p2:Int).tmod 5)=((p2 % 5:Nat):Int):=by
  rw[show(p2:Int).tmod 5=((p2 % 5:Nat):Int)from rfl,zce (by omega)]
 have hv5:p2 % 5<5:=qbw _ (by decide);generalize p2 % 5=v at *;have hsh:=zuc (v:=v) (by omega);have h2v:2 ^ v<256:=Nat.pow_lt_pow_right (n:=8) (by decide) (by omega);have kn:=zmc w0 (2 ^ v);have ko:w1 ||| 2 ^ v<256:=Nat.or_lt_two_pow (n:=8) k1 h2v;have ea:zaD 5000 ⟨zum .u8 p0.which ((2 ^ v:Nat):Int),p0.n,false⟩=some (drF (zlf w0 (2 ^ v)) n0 false).D:=by rw[q0,q0',zuK]; exact zjh kn n0 false
 have eb:zaD 5000 ⟨orI .u8 p1.which ((2 ^ v:Nat):Int),p1.n,false⟩=some (drF (w1 ||| 2 ^ v) n1 false).D:=by rw[q1,q1',orB k1 h2v]; exact zjh ko n1 false
 have a:=zqY kn n0;have b:=zqY ko n1;have hva:v ∉ (drF (zlf w0 (2 ^ v)) n0 false).vs:=by
  intro c;have:=(zq3.1 c).2;rw[zoz k0 h2v,Nat.testBit_two_pow_self]at this;simp at this
 have hvb:v∈(drF (w1 ||| 2 ^ v) n1 false).vs:=zq3.2 ⟨hv5,by rw[Nat.testBit_or,Nat.testBit_two_pow_self,Bool.or_true]⟩;generalize drF (zlf w0 (2 ^ v)) n0 false=A at *;generalize drF (w1 ||| 2 ^ v) n1 false=B at *;have ab:=a.mul b (by decide);obtain⟨k,hk⟩:=zfu hvb;obtain⟨j,hj⟩:=zfu (show v∈(zg1 A B).vs from(zdi a.ok b.ok).2 (.inr hvb));obtain⟨l1,g1,t1⟩:=b.gat (by decide) false (zdL b.ok v);obtain⟨l2,g2,t2⟩:=b.gat (by decide) true (zdL b.ok v);obtain⟨l3,g3,t3⟩:=ab.gat (by decide) false (zdL ab.ok v);obtain⟨l4,g4,t4⟩:=ab.gat (by decide) true (zdL ab.ok v);have hc0:0<zdA v:=(ziP v hv5).1;have m1:=a.znc b (by decide);have x1:=Std.zqB b.ok hk g1;have x2:=Std.zp9 b.ok hk g2;have x3:zbb B.D (v:Int) 0=some ((fixF B v k 0).D,0):=b.zqe hk hc0;have x4:=Std.zqB ab.ok hj g3;have x5:=Std.zp9 ab.ok hj g4;have x6:zbb (zg1 A B).D (v:Int) 0=some ((fixF (zg1 A B) v j 0).D,0):=ab.zqe hj hc0;have m2:=a.znc t1 (by decide);have m3:=a.znc t2 (by decide);have m4:=a.znc (b.fix hk 0) (by decide);have i0:∀ x:S_api_Factor,zcl x=some x:=fun _=>rfl
 have i1:=zrw (a.mul t1 (by decide)) (zmT false a b hva hk hj (by decide) (by decide) (by decide) (by decide) g1 t1 g3 t3);have i2:=zrw (a.mul t2 (by decide)) (zmT true a b hva hk hj (by decide) (by decide) (by decide) (by decide) g2 t2 g4 t4);have i3:=zrw (a.mul (b.fix hk 0) (by decide)) (zp6 a b hva hk hj (by decide) hc0);have z:((0:Int)== 0)=true:=rfl;unfold zcj;simp only[hw,hm,hsh,ea,eb,m1,x1,x2,x3,x4,x5,x6,m2,m3,m4,i0,i1,i2,i3,z,qaa,cond_true]
def zsF(x:Int):List Int→List Int
 | []=>[x]
 | y :: ys=>bif decide (x≤y)then x :: y :: ys else y :: zsF x ys
def zsS:List Int→List Int
 | []=>[]
 | x :: xs=>zsF x (zsS xs)
theorem zhF(x:Int):∀ ys,(zsF x ys).Perm (x :: ys)
 | []=>.refl _
 | y :: ys=>by
  unfold zsF;cases decide (x≤y)with
  | true=>exact .refl _
  | false=>exact((zhF x ys).cons y).trans (.swap x y ys)
theorem zky:∀ xs,(zsS xs).Perm xs
 | []=>.refl _
 | x :: xs=>(zhF x _).trans ((zky xs).cons x)
theorem zoV(x:Int):∀ {ys:List Int},ys.Pairwise (· ≤ ·)→(zsF x ys).Pairwise (· ≤ ·)
 | [],_=>List.pairwise_singleton _ _
 | y :: ys,h=>by
  obtain⟨h1,h2⟩:=qaX.1 h;unfold zsF;cases hd:decide (x≤y)with
  | true=>
   have:=of_decide_eq_true hd;refine qaX.2 ⟨fun z hz=>?_,h⟩;rcases qaD.1 hz with rfl | hz
   ·exact this
   ·exact Int.le_trans this (h1 z hz)
  | false=>
   have:=of_decide_eq_false hd;refine qaX.2 ⟨fun z hz=>?_,zoV x h2⟩;rcases qaD.1 ((zhF x ys).mem_iff.1 hz)with rfl | hz
   ·omega
   exact h1 z hz
theorem zoT:∀ xs,(zsS xs).Pairwise (· ≤ ·)
 | []=>.nil
 | x :: xs=>zoV x (zoT xs)
theorem zqc:zes=zsS:=by
 funext xs
 refine List.Perm.eq_of_pairwise (le:=fun a b:Int=>a≤b) (fun a b _ _ h1 h2=>Int.le_antisymm h1 h2) ?_ (zoT xs) ((List.mergeSort_perm xs _).trans (zky xs).symm);have:=List.pairwise_mergeSort (le:=fun x y:Int=>decide (x≤y)) (fun a b c h1 h2=>by simp at *; omega) (fun a b=>by simp; omega) xs;exact this.imp fun h=>by simpa using h
def zs2(b:Nat)(xs:List Int):Option (List Int):=if xs.length * b≤zap then some (zsS xs)else none
theorem zqo:zhX=zs2:=by
 funext b xs
 unfold zhX zs2;rw[zqc]
theorem zts:zcY=some true:=by
 delta zcY zaV zb1
 rw[zqo];decide +kernel
end Go.Dc
