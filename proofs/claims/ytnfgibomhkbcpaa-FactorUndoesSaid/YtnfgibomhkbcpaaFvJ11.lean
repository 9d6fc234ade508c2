/-
 Plain laws: Keep and Total; FactorKeeps. Conditions: none.
-/
import Derived.Test.YtnfgibomhkbcpaaFvJ10
import Derived.Test.YtnfgibomhkbcpaaFvJ8
set_option linter.unusedSimpArgs false
set_option linter.unusedVariables false
set_option maxRecDepth 100000
namespace Go.Dc
open Go Go.Mx Go.Lx
section
variable {x:S_api_Factor} {p3:Int}
end
section
variable {y4 l1:List Int} {x:S_api_Factor}
end
section
variable {r6 r8:S_api_Factor} {p3:Int} {y4:List Int}
end
def Fc.val(f:Fc)(s:Nat→Nat):Nat:=f.get (dot (f.vs.map s) (zbO f.cs))
theorem zso(f:Fc)(u ds:List Nat):f.at u ds=f.val (at_ u ds):=rfl
def Fit(f:Fc)(s:Nat→Nat):Prop:=∀ v∈f.vs,s v<at_ f.vs f.cs v
theorem zkd{s:Nat→Nat}:∀ {us cs:List Nat},us.length=cs.length→us.Nodup→(∀ c∈cs,1≤c∧c≤8)→(∀ v∈us,s v<at_ us cs v)→zcA cs (us.map s)
 | [],[],_,_,_,_=>trivial
 | [],c :: cs,h,_,_,_=>by simp at h
 | u :: us,[],h,_,_,_=>by simp at h
 | u :: us,c :: cs,hl,hn,hc,h=>by
  obtain⟨h1,h2⟩:=qbz.1 hn;have hu:=h u qao;rw[zep,beq_self_eq_true,cond_true]at hu;refine⟨hu,(hc c qao).2,zkd (by simpa using hl) h2 (fun d hd=>hc d (qal _ hd)) fun v hv=>?_⟩;have:=h v (qal _ hv)
  rwa [zep,show(u == v)=false from beq_false_of_ne (fun e=>h1 (e ▸ hv)),cond_false]at this
theorem Fit.below{f:Fc}(hf:FcOk f){s:Nat→Nat}(h:Fit f s):zcA f.cs (f.vs.map s):=zkd hf.len (zcx hf.inc) hf.zmK h
theorem zqL{f:Fc}(hf:FcOk f){i:Nat}(hi:i<zan f.cs):f.val (at_ f.vs (dig f.cs i))=f.get i:=by
 unfold Fc.val;rw[zsn (zcx hf.inc) (by rw[ziy,hf.len]),zoz hf.zmK hi]
theorem get_map{n:Nat}{g:Nat→Nat}{i:Nat}(h:i<n):((List.range' 0 n).map g).getD i 0=g i:=by
 rw[qaC,qaf (by simpa using h)];simp
theorem zqE{f:Fc}(hf:FcOk f){v k:Nat}(hv:pos f.vs v=some k)(hk:k<f.cs.length):at_ f.vs f.cs v=f.cs[k]:=by
 rw[zlP hv,qaC,qaf hk];rfl
structure Std (f:Fc) (M:Nat):Prop where
 ok:FcOk f
 cs:f.cs=f.vs.map zfp
 var:∀ v∈f.vs,v<5
 le:∀ i,f.get i≤M
theorem zpF:∀ v,v<5→1≤zfp v∧zfp v≤8:=by decide
theorem zpI:[0,1,2,3,4].Pairwise (· < ·):=by decide
theorem zpf{v:Nat}(h:v<5):v∈[0,1,2,3,4]:=by
 have:∀ v,v<5→v∈[0,1,2,3,4]:=by decide
 exact this v h
theorem zjO{vs:List Nat}(hi:vs.Pairwise (· < ·))(hv:∀ v∈vs,v<5):zan (vs.map zfp)≤24∧vs.length≤5:=by
 have hs:=zkS hi zpI fun v h=>zpf (hv v h)
 refine⟨?_,hs.length_le⟩;have:=zi7 (hs.map zfp) (by decide);exact this
theorem zni{vs:List Nat}(hv:∀ v∈vs,v<5):∀ c∈vs.map zfp,1≤c∧c≤8:=by
 intro c hc;obtain⟨v,h,rfl⟩:=qaH.1 hc;exact zpF v (hv v h)
theorem zmP{vs:List Nat}(hi:vs.Pairwise (· < ·))(hv:∀ v∈vs,v<5):zbL (iL (vs.map zfp))=true:=by
 obtain⟨h1,h2⟩:=zjO hi hv;unfold zbL;rw[zaM,qbe,decide_eq_true (by omega),qa6];exact zg3 (zni hv) (by omega)
theorem Std.at{f:Fc}{M:Nat}(h:Std f M){v:Nat}(hv:v∈f.vs):at_ f.vs f.cs v=zfp v:=by rw[h.cs,zlE hv]
theorem Std.prod{f:Fc}{M:Nat}(h:Std f M):zan f.cs≤24:=by rw[h.cs]; exact(zjO h.ok.inc h.var).1
theorem Std.agr{f g:Fc}{M N:Nat}(hf:Std f M)(hg:Std g N):Agr f g:=fun v h1 h2=>by rw[hf.at h1,hg.at h2]
theorem Std.zmK{f:Fc}{M:Nat}(h:Std f M){v k:Nat}(hv:pos f.vs v=some k)(hk:k<f.cs.length):f.cs[k]=zfp v:=by
 obtain⟨h1,e⟩:=zeR hv;rw[← zqE h.ok hv hk,h.at (e ▸ qbn h1)]
theorem Std.ucs{f g:Fc}{M N:Nat}(hf:Std f M)(hg:Std g N):ucs f g=(uni f g).map zfp:=by
 refine List.map_congr_left fun v hv=>?_
 rcases(zey hf.ok hg.ok).1 hv with h | h
 ·rw[ztv h,hf.at h]
 rw[zty (hf.agr hg) h,hg.at h]
theorem Std.uv{f g:Fc}{M N:Nat}(hf:Std f M)(hg:Std g N):∀ v∈uni f g,v<5:=fun v hv=>((zey hf.ok hg.ok).1 hv).elim (hf.var v) (hg.var v)
theorem Std.zad{f g:Fc}{M N:Nat}(hf:Std f M)(hg:Std g N):zbL (iL (Go.Dc.ucs f g))=true:=by
 rw[hf.ucs hg];exact zmP (zf1 f g) (hf.uv hg)
theorem zgc{l:List Nat}{M:Nat}(h:∀ x∈l,x≤M)(k:Nat):l.getD k 0≤M:=by
 by_cases hk:k<l.length
 ·rw[qaC,qaf hk];exact h _ (qbn hk)
 rw[qaC,qbc (by omega)];exact qaS _
theorem Std.zlm{f g:Fc}{M N:Nat}(hf:Std f M)(hg:Std g N)(hB:M * N≤zgx):Go.Dc.zlm f g=true:=
 qbg.2 fun j _=>decide_eq_true (qav (qbm (hf.le _) (hg.le _)) hB)
theorem Std.mul{f g:Fc}{M N:Nat}(hf:Std f M)(hg:Std g N)(hB:M * N≤zgx):Std (zb9 f g) (M * N):=by
 refine⟨zq7 hf.ok hg.ok (hf.zad hg) (hf.zlm hg hB),hf.ucs hg,hf.uv hg,zgc fun x hx=>?_⟩;obtain⟨j,_,rfl⟩:=qaH.1 hx;exact qbm (hf.le _) (hg.le _)
theorem Std.zpt{f g:Fc}{M N:Nat}(hf:Std f M)(hg:Std g N)(hB:M * N≤zgx):za8 f.D g.D=some ((zb9 f g).D,0):=by
 rw[Go.Dc.zpt hf.ok hg.ok,(zft hf.ok hg.ok).2 (hf.agr hg),cond_true];unfold mulR;rw[hf.zad hg,cond_true,hf.zlm hg hB,cond_true]
theorem zqi{w:Nat}(hw:w<256)(n:List Nat):Std (drF w n false) 9:=by
 refine⟨zr7 hw n false,rfl,fun v hv=>?_,zgc fun x hx=>?_⟩
 ·have:=qbI.1 (qbA.1 hv).1;omega
 obtain⟨j,_,rfl⟩:=qaH.1 hx;have:=zkY n j;show zm2 n j * 1≤9;omega
theorem zp5{w:Nat}{n:List Nat}{b:Bool}{v:Nat}:v∈(drF w n b).vs↔v<5∧w.testBit v=true:=by
 show v∈(List.range' 0 5).filter w.testBit↔_;rw[qbA,qbI];constructor
 ·exact fun h=>⟨by omega,h.2⟩
 exact fun h=>⟨⟨qaS _,by omega⟩,h.2⟩
theorem ztf{f g:Fc}{M:Nat}(hf:Std f M)(h:f=g):zbg f.D 0 g.D=some true:=by
 unfold zbg;rw[show((0:Int)== 0)=true from rfl,cond_true,zqX hf.ok.sz,h,decide_eq_true rfl];rfl
section
variable {f g h:Fc} {M N K:Nat}
theorem zsw{vs:List Nat}(hf:FcOk f)(hg:FcOk g)(hi:vs.Pairwise (· < ·))(hm:∀ v,v∈vs↔v∈f.vs∨v∈g.vs):uni f g=vs:=
 znR (zf1 f g) hi fun v=>(zey hf hg).trans (hm v).symm
end
theorem DrOk.f{d:S_haruspexref03_Draft}(h:DrOk d):∃ w n,w<256∧d.which=((w:Nat):Int)∧d.n=iL n∧zaB 5000 ⟨d.which,d.n,false⟩=some (drF w n false).D:=by
 obtain⟨w,hw,e1⟩:=h.which;obtain⟨n,e2⟩:=h.n;exact⟨w,n,hw,e1,e2,by rw[e1,e2]; exact zli hw n false⟩
section
variable {f g:Fc} {M N:Nat}
theorem zoR(hf:FcOk f)(hg:FcOk g)(hs:∀ v∈g.vs,v∈f.vs):uni f g=f.vs:=
 zsw hf hg hf.inc fun v=>⟨.inl,fun c=>c.elim id (hs v)⟩
theorem mul_get(hf:Std f M)(hg:Std g N)(hs:∀ v∈g.vs,v∈f.vs)(hB:M * N≤zgx){i:Nat}(hi:i<zan f.cs):(zb9 f g).vs=f.vs∧(zb9 f g).cs=f.cs∧(zb9 f g).get i=f.get i * g.at f.vs (dig f.cs i):=by
 have hu:uni f g=f.vs:=zoR hf.ok hg.ok hs;have hc:ucs f g=f.cs:=by rw[hf.ucs hg,hu,← hf.cs]
 refine⟨hu,hc,?_⟩;show((List.range' 0 (zan (ucs f g))).map fun j=>f.at (uni f g) (dig (ucs f g) j)* g.at (uni f g) (dig (ucs f g) j)).getD i 0=_;rw[hc,hu,get_map hi,zso f,zqL hf.ok hi]
theorem zdS(hf:Std f M)(hg:Std g N)(hs:∀ v∈g.vs,v∈f.vs):(zb9 f g).vs=f.vs∧(zb9 f g).cs=f.cs:=by
 have hu:uni f g=f.vs:=zoR hf.ok hg.ok hs;exact⟨hu,by show ucs f g=f.cs; rw[hf.ucs hg,hu,← hf.cs]⟩
theorem zn4(hf:FcOk f){i:Nat}(hi:i<zan f.cs):(zeI f g).get i=f.get i / g.at f.vs (dig f.cs i):=by
 show((List.range' 0 (zan f.cs)).map (zrz f g)).getD i 0=_;rw[get_map hi];rfl
theorem zii(hf:Std f M):Std (zeI f g) M:=by
 refine⟨zrk hf.ok,hf.cs,hf.var,zgc fun x hx=>?_⟩;obtain⟨j,_,rfl⟩:=qaH.1 hx;exact qav (qch _ _) (hf.le j)
theorem zmM(hf:Std f M)(hg:Std g N)(hs:∀ v∈g.vs,v∈f.vs)(hB:M * N≤zgx):zrA (zb9 f g) g=true:=by
 obtain⟨e1,e2⟩:=zdS hf hg hs;refine qbg.2 fun j hj=>decide_eq_true ?_
 have hj:j<zan f.cs:=by have:=qbI.1 hj; rw[e2]at this; omega
 rw[e1,e2,(mul_get hf hg hs hB hj).2.2];by_cases h:g.at f.vs (dig f.cs j)=0
 ·exact .inl (by rw[h,qb7])
 exact .inr ⟨h,Nat.mul_mod_left _ _⟩
theorem zpz(hf:Std f M)(hg:Std g N)(hs:∀ v∈g.vs,v∈f.vs)(hB:M * N≤zgx)(hB2:M * N * N≤zgx):zb9 (zeI (zb9 f g) g) g=zb9 f g:=by
 obtain⟨e1,e2⟩:=zdS hf hg hs;have h:=hf.mul hg hB;have d:=zii (g:=g) h;have hs2:∀ v∈g.vs,v∈(zeI (zb9 f g) g).vs:=fun v hv=>by show v∈(zb9 f g).vs; rw[e1]; exact hs v hv
 obtain⟨e3,e4⟩:=zdS d hg hs2;have hm:=d.mul hg hB2;have hw:(zb9 (zeI (zb9 f g) g) g).ws=(zb9 f g).ws:=by
  refine List.ext_getElem (by rw[hm.ok.size,h.ok.size,e4]; rfl) fun i a b=>?_
  have hi:i<zan f.cs:=by rw[h.ok.size,e2]at b; exact b
  have hi2:i<zan (zeI (zb9 f g) g).cs:=by show i<zan (zb9 f g).cs; rw[e2]; exact hi
  have q1:=(mul_get d hg hs2 hB2 hi2).2.2;have q2:(zeI (zb9 f g) g).get i=(zb9 f g).get i / g.at (zb9 f g).vs (dig (zb9 f g).cs i):=zn4 h.ok hi2;have q3:=(mul_get hf hg hs hB hi).2.2;rw[q2,show(zeI (zb9 f g) g).vs=(zb9 f g).vs from rfl,show(zeI (zb9 f g) g).cs=(zb9 f g).cs from rfl,e1,e2,q3]at q1;have q4:(zb9 (zeI (zb9 f g) g) g).get i=(zb9 f g).get i:=by
   rw[q1,q3];by_cases hz:g.at f.vs (dig f.cs i)=0
   ·rw[hz,qb7,qb7]
   rw[Nat.mul_div_cancel _ (by omega)]
  unfold Fc.get at q4;rw[qaC,qaC,qaf a,qaf b]at q4;exact q4
 have:∀ x y:Fc,x.vs=y.vs→x.cs=y.cs→x.ws=y.ws→x=y:=by
  intro x y a b c;cases x; cases y;simp only at a b c;rw[a,b,c]
 exact this _ _ e3 e4 hw
theorem zoU(hf:Std f M)(hg:Std g N)(hs:∀ v∈g.vs,v∈f.vs)(hB:M * N≤zgx):∀(m i n:Nat),i+m=zan f.cs→m<n →
  zaF ((zeI (zb9 f g) g).D,0) ((zb9 f g).D,0) f.D n (i:Int)=some (.go ())
 | _,_,0,_,h=>absurd h (qaV _)
 | 0,i,n+1,h,_=>by
  obtain⟨e1,e2⟩:=zdS hf hg hs;have d:=zii (g:=g) (hf.mul hg hB);unfold zaF;simp only[];rw[show(zeI (zb9 f g) g).D.w=iL (zeI (zb9 f g) g).ws from rfl,zaM,d.ok.size,show(zeI (zb9 f g) g).cs=(zb9 f g).cs from rfl,e2,show i=zan f.cs by omega,zoJ,cond_false]
 | m+1,i,n+1,h,hn=>by
  obtain⟨e1,e2⟩:=zdS hf hg hs;have hh:=hf.mul hg hB;have d:=zii (g:=g) hh;have hi:i<zan f.cs:=by omega
  have hih:i<zan (zb9 f g).cs:=by rw[e2]; exact hi
  have hp:=hf.prod;have q2:(zeI (zb9 f g) g).get i=(zb9 f g).get i / g.at (zb9 f g).vs (dig (zb9 f g).cs i):=zn4 hh.ok hih;have q3:=(mul_get hf hg hs hB hi).2.2;rw[e1,e2,q3]at q2;unfold zaF;simp only[];rw[show(zeI (zb9 f g) g).D.w=iL (zeI (zb9 f g) g).ws from rfl,zaM,d.ok.size,show(zeI (zb9 f g) g).cs=(zb9 f g).cs from rfl,e2,znt hi,cond_true,show zbl (iL (zeI (zb9 f g) g).ws) (i:Int)=some (((zeI (zb9 f g) g).get i:Nat):Int)from zpo d.ok hih,qac,show zbl (zb9 f g).D.w (i:Int)=some (((zb9 f g).get i:Nat):Int)from zpo hh.ok hih,qac,zpo hf.ok hi,zrq,zrq,q2,q3,qac,ziK,zbf (by omega),zoU hf hg hs hB m (i+1) n (by omega) (by omega)];by_cases hz:f.get i * g.at f.vs (dig f.cs i)=0
  ·rw[hz,Nat.zero_div]; rfl
  have hz2:¬ g.at f.vs (dig f.cs i)=0:=fun e=>hz (by rw[e,qb7])
  rw[beq_false_of_ne hz,cond_false,Nat.mul_div_cancel _ (by omega),beq_self_eq_true];rfl
end
theorem zjA(hw:zcT=some true){p0 p1:S_haruspexref03_Draft}(h0:DrOk p0)(h1:DrOk p1):zbZ 5000 p0 p1=some true:=by
 obtain⟨w0,n0,k0,q0,q0',e0⟩:=h0.f;obtain⟨w1,n1,k1,q1,q1',e1⟩:=h1.f;have hor:orI .u8 p0.which p1.which=((w0 ||| w1:Nat):Int):=by rw[q0,q1]; exact orB k0 k1
 have kor:w0 ||| w1<256:=Nat.or_lt_two_pow (n:=8) k0 k1;have a:=zqi kor n0;have b:=zqi k1 n1;have hs:∀ v∈(drF w1 n1 false).vs,v∈(drF (w0 ||| w1) n0 false).vs:=by
  intro v hv;obtain⟨v1,v2⟩:=zp5.1 hv;exact zp5.2 ⟨v1,by rw[Nat.testBit_or,v2,Bool.or_true]⟩
 have e2:zaB 5000 ⟨orI .u8 p0.which p1.which,p0.n,false⟩=some (drF (w0 ||| w1) n0 false).D:=by rw[hor,q0']; exact zli kor n0 false
 generalize drF (w0 ||| w1) n0 false=A at *;generalize drF w1 n1 false=B at *;have ab:=a.mul b (by decide);obtain⟨s1,s2⟩:=zdS a b hs;have d:=zii (g:=B) ab;have hs2:∀ v∈B.vs,v∈(zb9 A B).vs:=fun v hv=>by rw[s1]; exact hs v hv
 have m1:=a.zpt b (by decide);have m2:zaU (zb9 A B).D B.D=some ((zeI (zb9 A B) B).D,0):=by
  rw[ztp ab.ok b.ok,ziJ.2 hs2,(zft ab.ok b.ok).2 (ab.agr b),zmM a b hs (by decide)];rfl
 have m3:=d.zpt b (by decide);have i0:∀ x:S_api_Factor,zcE x=some x:=fun _=>rfl
 have i1:=ztf (d.mul b (by decide)) (zpz a b hs (by decide) (by decide));have z:((0:Int)== 0)=true:=rfl;have l1:(((zeI (zb9 A B) B).D.w.length:Int)==(A.D.w.length:Int))=true:=by
  rw[show(zeI (zb9 A B) B).D.w=iL (zeI (zb9 A B) B).ws from rfl,show A.D.w=iL A.ws from rfl,zaM,zaM,d.ok.size,a.ok.size,show(zeI (zb9 A B) B).cs=(zb9 A B).cs from rfl,s2];exact beq_self_eq_true _
 have l2:(((zb9 A B).D.w.length:Int)==(A.D.w.length:Int))=true:=by
  rw[show(zb9 A B).D.w=iL (zb9 A B).ws from rfl,show A.D.w=iL A.ws from rfl,zaM,zaM,ab.ok.size,a.ok.size,s2];exact beq_self_eq_true _
 have lp:=zoU a b hs (by decide) (zan A.cs) 0 (((zeI (zb9 A B) B).D.w.length:Int) - 0+2).toNat (by omega) (by
  rw[show(zeI (zb9 A B) B).D.w=iL (zeI (zb9 A B) B).ws from rfl,zaM,d.ok.size,show(zeI (zb9 A B) B).cs=(zb9 A B).cs from rfl,s2]; omega)
 have lp2:zaF ((zeI (zb9 A B) B).D,0) ((zb9 A B).D,0) A.D (((zeI (zb9 A B) B).D.w.length:Int) - 0+2).toNat 0=some (.go ()):=lp;unfold zbZ;simp only[hw,e1,e2,m1,m2,m3,i0,i1,z,l1,l2,qac,cond_true,cond_false,qaP];rw[lp2];rfl
def zrF(x:Int):List Int→List Int
 | []=>[x]
 | y :: ys=>bif decide (x≤y)then x :: y :: ys else y :: zrF x ys
def zr9:List Int→List Int
 | []=>[]
 | x :: xs=>zrF x (zr9 xs)
theorem zhc(x:Int):∀ ys,(zrF x ys).Perm (x :: ys)
 | []=>.refl _
 | y :: ys=>by
  unfold zrF;cases decide (x≤y)with
  | true=>exact .refl _
  | false=>exact((zhc x ys).cons y).trans (.swap x y ys)
theorem zjN:∀ xs,(zr9 xs).Perm xs
 | []=>.refl _
 | x :: xs=>(zhc x _).trans ((zjN xs).cons x)
theorem zoE(x:Int):∀ {ys:List Int},ys.Pairwise (· ≤ ·)→(zrF x ys).Pairwise (· ≤ ·)
 | [],_=>List.pairwise_singleton _ _
 | y :: ys,h=>by
  obtain⟨h1,h2⟩:=qaQ.1 h;unfold zrF;cases hd:decide (x≤y)with
  | true=>
   have:=of_decide_eq_true hd;refine qaQ.2 ⟨fun z hz=>?_,h⟩;rcases qaB.1 hz with rfl | hz
   ·exact this
   ·exact Int.le_trans this (h1 z hz)
  | false=>
   have:=of_decide_eq_false hd;refine qaQ.2 ⟨fun z hz=>?_,zoE x h2⟩;rcases qaB.1 ((zhc x ys).mem_iff.1 hz)with rfl | hz
   ·omega
   exact h1 z hz
theorem znX:∀ xs,(zr9 xs).Pairwise (· ≤ ·)
 | []=>.nil
 | x :: xs=>zoE x (znX xs)
theorem zpD:zed=zr9:=by
 funext xs
 refine List.Perm.eq_of_pairwise (le:=fun a b:Int=>a≤b) (fun a b _ _ h1 h2=>Int.le_antisymm h1 h2) ?_ (znX xs) ((List.mergeSort_perm xs _).trans (zjN xs).symm);have:=List.pairwise_mergeSort (le:=fun x y:Int=>decide (x≤y)) (fun a b c h1 h2=>by simp at *; omega) (fun a b=>by simp; omega) xs;exact this.imp fun h=>by simpa using h
def zsA(b:Nat)(xs:List Int):Option (List Int):=if xs.length * b≤zap then some (zr9 xs)else none
theorem zpG:zhv=zsA:=by
 funext b xs
 unfold zhv zsA;rw[zpD]
theorem zsm:zcT=some true:=by
 delta zcT za8 zbQ
 rw[zpG];decide +kernel
end Go.Dc
