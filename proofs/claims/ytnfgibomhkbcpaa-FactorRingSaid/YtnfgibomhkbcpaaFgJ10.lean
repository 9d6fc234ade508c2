/-
 Plain laws: Keep and Total; FactorKeeps. Conditions: none.
-/
import Derived.Test.YtnfgibomhkbcpaaFgJ9
import Derived.Test.YtnfgibomhkbcpaaFgJ7
set_option linter.unusedSimpArgs false
set_option linter.unusedVariables false
set_option maxRecDepth 100000
namespace Go.Dc
open Go Go.Mx Go.Lx
section
variable {x:S_api_Factor} {p3:Int}
end
section
variable {y4 l1:List Int} {x:S_api_Factor}
end
section
variable {r6 r8:S_api_Factor} {p3:Int} {y4:List Int}
end
def Fc.val(f:Fc)(s:Nat→Nat):Nat:=f.get (dot (f.vs.map s) (zbl f.cs))
theorem zqd(f:Fc)(u ds:List Nat):f.at u ds=f.val (at_ u ds):=rfl
def Fit(f:Fc)(s:Nat→Nat):Prop:=∀ v∈f.vs,s v<at_ f.vs f.cs v
theorem zhc{s:Nat→Nat}:∀ {us cs:List Nat},us.length=cs.length→us.Nodup→(∀ c∈cs,1≤c∧c≤8)→(∀ v∈us,s v<at_ us cs v)→zcd cs (us.map s)
 | [],[],_,_,_,_=>trivial
 | [],c :: cs,h,_,_,_=>by simp at h
 | u :: us,[],h,_,_,_=>by simp at h
 | u :: us,c :: cs,hl,hn,hc,h=>by
  obtain⟨h1,h2⟩:=qbz.1 hn;have hu:=h u qao;rw[zeu,beq_self_eq_true,cond_true]at hu;refine⟨hu,(hc c qao).2,zhc (by simpa using hl) h2 (fun d hd=>hc d (qal _ hd)) fun v hv=>?_⟩;have:=h v (qal _ hv)
  rwa [zeu,show(u == v)=false from beq_false_of_ne (fun e=>h1 (e ▸ hv)),cond_false]at this
theorem Fit.below{f:Fc}(hf:FcOk f){s:Nat→Nat}(h:Fit f s):zcd f.cs (f.vs.map s):=zhc hf.len (zdm hf.inc) hf.zmU h
theorem zqt{f:Fc}(hf:FcOk f){i:Nat}(hi:i<zao f.cs):Fit f (at_ f.vs (dig f.cs i)):=fun v hv=>(zja hf.len (zeD hf.zmU hi) hv).1
theorem zoc{f:Fc}(hf:FcOk f){i:Nat}(hi:i<zao f.cs):f.val (at_ f.vs (dig f.cs i))=f.get i:=by
 unfold Fc.val;rw[zrV (zdm hf.inc) (by rw[zjc,hf.len]),zop hf.zmU hi]
theorem val_congr{f:Fc}{s t:Nat→Nat}(h:∀ v∈f.vs,s v=t v):f.val s=f.val t:=by
 unfold Fc.val;rw[List.map_congr_left h]
theorem zqB{f g:Fc}(hf:FcOk f)(hg:FcOk g)(h1:f.vs=g.vs)(h2:f.cs=g.cs)(h:∀ s,Fit f s→f.val s=g.val s):f=g:=by
 have hw:f.ws=g.ws:=by
  refine List.ext_getElem (by rw[hf.size,hg.size,h2]) fun i a b=>?_
  have hi:i<zao f.cs:=by rw[← hf.size]; exact a
  have e:=h _ (zqt hf hi);rw[zoc hf hi,h1,h2,zoc hg (by rw[← h2]; exact hi)]at e;unfold Fc.get at e;rw[qaG,qaG,qaf a,qaf b]at e;exact e
 cases f; cases g;simp only at h1 h2 hw;rw[h1,h2,hw]
theorem get_map{n:Nat}{g:Nat→Nat}{i:Nat}(h:i<n):((List.range' 0 n).map g).getD i 0=g i:=by
 rw[qaG,qaf (by simpa using h)];simp
theorem zdF{f g:Fc}(hf:FcOk f)(hg:FcOk g)(hc:zbw (iL (ucs f g))=true){s:Nat→Nat}(hs:Fit (zgr f g) s):(zgr f g).val s=f.val s * g.val s:=by
 have hD:=zk2 hc;have hb:zcd (ucs f g) ((uni f g).map s):=zhc hD.len hD.nodup hD.zmU hs;have hlt:=zlI hb;show((List.range' 0 (zao (ucs f g))).map fun j=>f.at (uni f g) (dig (ucs f g) j)* g.at (uni f g) (dig (ucs f g) j)).getD (dot ((uni f g).map s) (zbl (ucs f g))) 0=_;rw[get_map hlt,zm0 hb,zqd,zqd];rw[val_congr (f:=f) (t:=s) fun v hv=>zh3 ((zcz hf hg).2 (.inl hv)),val_congr (f:=g) (t:=s) fun v hv=>zh3 ((zcz hf hg).2 (.inr hv))]
theorem zqO{f:Fc}(hf:FcOk f){v k:Nat}(hv:pos f.vs v=some k)(hk:k<f.cs.length):at_ f.vs f.cs v=f.cs[k]:=by
 rw[zlQ hv,qaG,qaf hk];rfl
structure Std (f:Fc) (M:Nat):Prop where
 ok:FcOk f
 cs:f.cs=f.vs.map ze7
 var:∀ v∈f.vs,v<5
 le:∀ i,f.get i≤M
def zsy(s:Nat→Nat):Prop:=∀ v,v<5→s v<ze7 v
theorem zlq:∀ v,v<5→1≤ze7 v∧ze7 v≤8:=by decide
theorem zpx:[0,1,2,3,4].Pairwise (· < ·):=by decide
theorem zpt{v:Nat}(h:v<5):v∈[0,1,2,3,4]:=by
 have:∀ v,v<5→v∈[0,1,2,3,4]:=by decide
 exact this v h
theorem znV{vs:List Nat}(hi:vs.Pairwise (· < ·))(hv:∀ v∈vs,v<5):zao (vs.map ze7)≤24∧vs.length≤5:=by
 have hs:=zk1 hi zpx fun v h=>zpt (hv v h)
 refine⟨?_,hs.length_le⟩;have:=ziJ (hs.map ze7) (by decide);exact this
theorem znM{vs:List Nat}(hv:∀ v∈vs,v<5):∀ c∈vs.map ze7,1≤c∧c≤8:=by
 intro c hc;obtain⟨v,h,rfl⟩:=qaK.1 hc;exact zlq v (hv v h)
theorem zme{vs:List Nat}(hi:vs.Pairwise (· < ·))(hv:∀ v∈vs,v<5):zbw (iL (vs.map ze7))=true:=by
 obtain⟨h1,h2⟩:=znV hi hv;unfold zbw;rw[zbj,qba,decide_eq_true (by omega),qbf];exact zgF (znM hv) (by omega)
theorem Std.at{f:Fc}{M:Nat}(h:Std f M){v:Nat}(hv:v∈f.vs):at_ f.vs f.cs v=ze7 v:=by rw[h.cs,zh3 hv]
theorem Std.agr{f g:Fc}{M N:Nat}(hf:Std f M)(hg:Std g N):Agr f g:=fun v h1 h2=>by rw[hf.at h1,hg.at h2]
theorem Std.fit{f:Fc}{M:Nat}(h:Std f M){s:Nat→Nat}(hs:zsy s):Fit f s:=fun v hv=>by rw[h.at hv]; exact hs v (h.var v hv)
theorem Std.zmU{f:Fc}{M:Nat}(h:Std f M){v k:Nat}(hv:pos f.vs v=some k)(hk:k<f.cs.length):f.cs[k]=ze7 v:=by
 obtain⟨h1,e⟩:=zeI hv;rw[← zqO h.ok hv hk,h.at (e ▸ qbp h1)]
theorem Std.ucs{f g:Fc}{M N:Nat}(hf:Std f M)(hg:Std g N):ucs f g=(uni f g).map ze7:=by
 refine List.map_congr_left fun v hv=>?_
 rcases(zcz hf.ok hg.ok).1 hv with h | h
 ·rw[ztf h,hf.at h]
 rw[ztc (hf.agr hg) h,hg.at h]
theorem Std.uv{f g:Fc}{M N:Nat}(hf:Std f M)(hg:Std g N):∀ v∈uni f g,v<5:=fun v hv=>((zcz hf.ok hg.ok).1 hv).elim (hf.var v) (hg.var v)
theorem Std.zad{f g:Fc}{M N:Nat}(hf:Std f M)(hg:Std g N):zbw (iL (Go.Dc.ucs f g))=true:=by
 rw[hf.ucs hg];exact zme (zek f g) (hf.uv hg)
theorem zf1{l:List Nat}{M:Nat}(h:∀ x∈l,x≤M)(k:Nat):l.getD k 0≤M:=by
 by_cases hk:k<l.length
 ·rw[qaG,qaf hk];exact h _ (qbp hk)
 rw[qaG,qbl (by omega)];exact qaV _
theorem Std.zkG{f g:Fc}{M N:Nat}(hf:Std f M)(hg:Std g N)(hB:M * N≤zgi):Go.Dc.zkG f g=true:=
 qbk.2 fun j _=>decide_eq_true (qav (qbj (hf.le _) (hg.le _)) hB)
theorem Std.mul{f g:Fc}{M N:Nat}(hf:Std f M)(hg:Std g N)(hB:M * N≤zgi):Std (zgr f g) (M * N):=by
 refine⟨zqT hf.ok hg.ok (hf.zad hg) (hf.zkG hg hB),hf.ucs hg,hf.uv hg,zf1 fun x hx=>?_⟩;obtain⟨j,_,rfl⟩:=qaK.1 hx;exact qbj (hf.le _) (hg.le _)
theorem Std.zi1{f g:Fc}{M N:Nat}(hf:Std f M)(hg:Std g N)(hB:M * N≤zgi):zau f.D g.D=some ((zgr f g).D,0):=by
 rw[Go.Dc.zi1 hf.ok hg.ok,(zjD hf.ok hg.ok).2 (hf.agr hg),cond_true];unfold mulR;rw[hf.zad hg,cond_true,hf.zkG hg hB,cond_true]
theorem Std.zdF{f g:Fc}{M N:Nat}(hf:Std f M)(hg:Std g N)(hB:M * N≤zgi){s:Nat→Nat}(hs:zsy s):(zgr f g).val s=f.val s * g.val s:=
 Go.Dc.zdF hf.ok hg.ok (hf.zad hg) ((hf.mul hg hB).fit hs)
theorem Std.ext{f g:Fc}{M N:Nat}(hf:Std f M)(hg:Std g N)(h1:f.vs=g.vs)(h:∀ s,zsy s→f.val s=g.val s):f=g:=by
 refine zqB hf.ok hg.ok h1 (by rw[hf.cs,hg.cs,h1]) fun s hs=>?_
 have h5:zsy fun u=>bif decide (u∈f.vs)then s u else 0:=by
  intro v hv;by_cases hm:v∈f.vs
  ·show(bif decide (v∈f.vs)then s v else 0)<_;rw[decide_eq_true hm,cond_true,← hf.at hm];exact hs v hm
  show(bif decide (v∈f.vs)then s v else 0)<_;rw[decide_eq_false hm,cond_false];exact(zlq v hv).1
 have e:=h _ h5;rw[val_congr (f:=f) (t:=s) fun v hv=>by rw[decide_eq_true hv,cond_true],val_congr (f:=g) (t:=s) fun v hv=>by rw[← h1]at hv; rw[decide_eq_true hv,cond_true]]at e;exact e
theorem zoL{w:Nat}(hw:w<256)(n:List Nat):Std (drF w n false) 9:=by
 refine⟨zrO hw n false,rfl,fun v hv=>?_,zf1 fun x hx=>?_⟩
 ·have:=qb5.1 (qbH.1 hv).1;omega
 obtain⟨j,_,rfl⟩:=qaK.1 hx;have:=zk9 n j;show zmV n j * 1≤9;omega
theorem zpz{f g:Fc}{M:Nat}(hf:Std f M)(h:f=g):zaI f.D 0 g.D=some true:=by
 unfold zaI;rw[show((0:Int)== 0)=true from rfl,cond_true,zra hf.ok.sz,h,decide_eq_true rfl];rfl
theorem zdB:Std ⟨[],[],[1]⟩ 1:=by
 refine⟨⟨rfl,by decide,fun c h=>by simp at h,by decide,rfl,.nil,fun v h=>by simp at h,fun w h=>?_⟩,rfl,fun v h=>by simp at h,zf1 fun x hx=>?_⟩
 ·rw[List.mem_singleton.1 h]; decide
 rw[List.mem_singleton.1 hx]; exact qaj 1
section
variable {f g h:Fc} {M N K:Nat}
theorem zlA{vs:List Nat}(hf:FcOk f)(hg:FcOk g)(hi:vs.Pairwise (· < ·))(hm:∀ v,v∈vs↔v∈f.vs∨v∈g.vs):uni f g=vs:=
 znS (zek f g) hi fun v=>(zcz hf hg).trans (hm v).symm
theorem Std.comm(hf:Std f M)(hg:Std g N)(hB:M * N≤zgi):zgr g f=zgr f g:=by
 have hB2:N * M≤zgi:=by rwa [qbo]
 refine(hg.mul hf hB2).ext (hf.mul hg hB) (zlA hg.ok hf.ok (zek f g) fun v=>(zcz hf.ok hg.ok).trans Or.comm) fun s hs=>?_
 rw[hg.zdF hf hB2 hs,hf.zdF hg hB hs,qbo]
theorem Std.assoc(hf:Std f M)(hg:Std g N)(hh:Std h K)(h1:M * N≤zgi)(h2:N * K≤zgi)(h3:M * N * K≤zgi)(h4:M * (N * K)≤zgi):zgr f (zgr g h)=zgr (zgr f g) h:=by
 have a:=hf.mul hg h1;have b:=hg.mul hh h2;refine(hf.mul b h4).ext (a.mul hh h3) (zlA hf.ok b.ok (zek _ _) fun v=>?_) fun s hs=>?_
 ·rw[show v∈(zgr (zgr f g) h).vs↔v∈(zgr f g).vs∨v∈h.vs from zcz a.ok hh.ok,show v∈(zgr f g).vs↔v∈f.vs∨v∈g.vs from zcz hf.ok hg.ok,show v∈(zgr g h).vs↔v∈g.vs∨v∈h.vs from zcz hg.ok hh.ok,or_assoc]
 rw[hf.zdF b h4 hs,hg.zdF hh h2 hs,a.zdF hh h3 hs,hf.zdF hg h1 hs,qbD]
def zor:Fc:=⟨[],[],[1]⟩
theorem Std.mul_one(hf:Std f M)(hB:M * 1≤zgi):zgr f zor=f:=by
 refine(hf.mul zdB hB).ext hf (zlA hf.ok zdB.ok hf.ok.inc fun v=>⟨.inl,fun c=>c.elim id fun c=>by simp[zor]at c⟩) fun s hs=>?_
 rw[hf.zdF zdB hB hs];exact Nat.mul_one _
theorem Std.one_mul(hf:Std f M)(hB:1 * M≤zgi):zgr zor f=f:=by
 refine(zdB.mul hf hB).ext hf (zlA zdB.ok hf.ok hf.ok.inc fun v=>⟨.inr,fun c=>c.elim (fun c=>by simp[zor]at c) id⟩) fun s hs=>?_
 rw[zdB.zdF hf hB hs];exact qb4 _
end
theorem DrOk.f{d:S_haruspexref03_Draft}(h:DrOk d):∃ w n,w<256∧d.which=((w:Nat):Int)∧d.n=iL n∧zaC 5000 ⟨d.which,d.n,false⟩=some (drF w n false).D:=by
 obtain⟨w,hw,e1⟩:=h.which;obtain⟨n,e2⟩:=h.n;exact⟨w,n,hw,e1,e2,by rw[e1,e2]; exact znd hw n false⟩
theorem zmD(hw:zcQ=some true){p0 p1 p2:S_haruspexref03_Draft}(h0:DrOk p0)(h1:DrOk p1)(h2:DrOk p2):zcj 5000 p0 p1 p2=some true:=by
 obtain⟨w0,n0,k0,_,_,e0⟩:=h0.f;obtain⟨w1,n1,k1,_,_,e1⟩:=h1.f;obtain⟨w2,n2,k2,_,_,e2⟩:=h2.f;have a:=zoL k0 n0;have b:=zoL k1 n1;have c:=zoL k2 n2;generalize drF w0 n0 false=A at *;generalize drF w1 n1 false=B at *;generalize drF w2 n2 false=C at *;have ab:=a.mul b (by decide);have bc:=b.mul c (by decide);have i0:∀ x:S_api_Factor,zbY x=some x:=fun _=>rfl
 have i1:=zpz (b.mul a (by decide)) (a.comm b (by decide));have i2:=zpz (a.mul bc (by decide)) (a.assoc b c (by decide) (by decide) (by decide) (by decide));have i3:=zpz (a.mul zdB (by decide)) (a.mul_one (by decide));have i4:=zpz (zdB.mul a (by decide)) (a.one_mul (by decide));have o:zcr=some zor.D:=rfl;have m1:=a.zi1 b (by decide);have m2:=b.zi1 c (by decide);have m3:=ab.zi1 c (by decide);have m4:=b.zi1 a (by decide);have m5:=a.zi1 bc (by decide);have m6:zau A.D zor.D=some ((zgr A zor).D,0):=a.zi1 zdB (by decide);have m7:zau zor.D A.D=some ((zgr zor A).D,0):=zdB.zi1 a (by decide);have i3':zaI (zgr A zor).D 0 A.D=some true:=i3;have i4':zaI (zgr zor A).D 0 A.D=some true:=i4;have z:((0:Int)== 0)=true:=rfl;unfold zcj;simp only[hw,e0,e1,e2,m1,m2,m3,m4,m5,m6,m7,i0,i1,i2,i3',i4',o,z,qad,cond_true]
def zrr(x:Int):List Int→List Int
 | []=>[x]
 | y :: ys=>bif decide (x≤y)then x :: y :: ys else y :: zrr x ys
def zrZ:List Int→List Int
 | []=>[]
 | x :: xs=>zrr x (zrZ xs)
theorem zgK(x:Int):∀ ys,(zrr x ys).Perm (x :: ys)
 | []=>.refl _
 | y :: ys=>by
  unfold zrr;cases decide (x≤y)with
  | true=>exact .refl _
  | false=>exact((zgK x ys).cons y).trans (.swap x y ys)
theorem zjt:∀ xs,(zrZ xs).Perm xs
 | []=>.refl _
 | x :: xs=>(zgK x _).trans ((zjt xs).cons x)
theorem znP(x:Int):∀ {ys:List Int},ys.Pairwise (· ≤ ·)→(zrr x ys).Pairwise (· ≤ ·)
 | [],_=>List.pairwise_singleton _ _
 | y :: ys,h=>by
  obtain⟨h1,h2⟩:=qaO.1 h;unfold zrr;cases hd:decide (x≤y)with
  | true=>
   have:=of_decide_eq_true hd;refine qaO.2 ⟨fun z hz=>?_,h⟩;rcases qaA.1 hz with rfl | hz
   ·exact this
   ·exact Int.le_trans this (h1 z hz)
  | false=>
   have:=of_decide_eq_false hd;refine qaO.2 ⟨fun z hz=>?_,znP x h2⟩;rcases qaA.1 ((zgK x ys).mem_iff.1 hz)with rfl | hz
   ·omega
   exact h1 z hz
theorem zoT:∀ xs,(zrZ xs).Pairwise (· ≤ ·)
 | []=>.nil
 | x :: xs=>znP x (zoT xs)
theorem zpF:zeh=zrZ:=by
 funext xs
 refine List.Perm.eq_of_pairwise (le:=fun a b:Int=>a≤b) (fun a b _ _ h1 h2=>Int.le_antisymm h1 h2) ?_ (zoT xs) ((List.mergeSort_perm xs _).trans (zjt xs).symm);have:=List.pairwise_mergeSort (le:=fun x y:Int=>decide (x≤y)) (fun a b c h1 h2=>by simp at *; omega) (fun a b=>by simp; omega) xs;exact this.imp fun h=>by simpa using h
def zrR(b:Nat)(xs:List Int):Option (List Int):=if xs.length * b≤zap then some (zrZ xs)else none
theorem zpB:zhp=zrR:=by
 funext b xs
 unfold zhp zrR;rw[zpF]
theorem zrH:zcQ=some true:=by
 delta zcQ zau zbP
 rw[zpB];decide +kernel
end Go.Dc
