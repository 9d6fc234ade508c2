/-
 Plain laws: Divide, by the program and by the reference. Conditions: none.
-/
import Derived.Test.YtnfgibomhkbcpaaFwJ10
import Derived.Test.YtnfgibomhkbcpaaFwJ7
set_option linter.unusedSimpArgs false
set_option linter.unusedVariables false
namespace Go.Dc
open Go Go.Mx Go.Lx
theorem zty(b:Nat):((b:Int)== 0)=(b == 0):=zoH b 0
theorem zr8{a b:Nat}(hb:¬ b=0):zo9 (a:Int) (b:Int)=some ((a % b:Nat):Int):=by
 unfold zo9;rw[zty,beq_false_of_ne hb,cond_false]; rfl
def Fc.get(f:Fc)(j:Nat):Nat:=f.ws.getD j 0
theorem Fc.zqf{f:Fc}(hf:FcOk f)(k:Nat):f.get k≤ze2:=by
 unfold Fc.get;by_cases h:k<f.ws.length
 ·rw[qat,qaf h];exact hf.num _ (qaW h)
 rw[qat,qa6 (by omega)];exact qaQ _
theorem zsw{f:Fc}{i:Nat}(hf:FcOk f)(h:i<zai f.cs):zbl f.D.w (i:Int)=some ((f.get i:Nat):Int):=zdY (by rw[hf.size]; exact h)
theorem zs9(n:Nat):IntKind.u8.wrap (n:Int)=((n % 256:Nat):Int):=by
 simp only[IntKind.wrap,IntKind.bits,IntKind.signed]; simp
theorem zpQ{n:Nat}(h:n<256):IntKind.u8.wrap (n:Int)=(n:Int):=by
 rw[zs9,qbq h]
theorem ztO{a b:Nat}(ha:a<256)(hb:b<256):zpa .u8 (a:Int) (b:Int)=((a &&& b:Nat):Int):=by
 have h:(BitVec.ofInt 8 (a:Int) &&& BitVec.ofInt 8 (b:Int)).toNat=a &&& b:=by
  simp only[BitVec.ofInt_natCast,BitVec.toNat_and,BitVec.toNat_ofNat];rw[qbq ha,qbq hb]
 show IntKind.u8.wrap ((BitVec.ofInt 8 (a:Int) &&& BitVec.ofInt 8 (b:Int)).toNat:Int)=_;rw[h];exact zpQ (Nat.lt_of_le_of_lt Nat.and_le_left ha)
theorem ztK{a v:Nat}(hv:v<8):zm6 .u8 (a:Int) (v:Int)=some ((a >>> v:Nat):Int):=by
 unfold zm6;rw[if_pos (by omega)];congr 1
 have h1:min (v:Int).toNat IntKind.u8.bits=v:=by
  rw[show IntKind.u8.bits=8 from rfl,qaE]; exact qbS (by omega)
 rw[h1,qb0];have h2:((2:Int) ^ v)=((2 ^ v:Nat):Int):=by simp
 rw[h2,Int.fdiv_eq_ediv_of_nonneg _ (qb8 _)];rfl
theorem ztJ{a v:Nat}(ha:a<256)(hv:v<8):∃ q:Int,zm6 .u8 (a:Int) (v:Int)=some q∧(zpa .u8 q 1 == 1)=a.testBit v:=by
 refine⟨_,ztK hv,?_⟩;rw[show(1:Int)=((1:Nat):Int)from rfl,ztO (Nat.lt_of_le_of_lt (by rw[qb0]; exact Nat.div_le_self _ _) ha) (by decide),ztF,zoH];cases a.testBit v<;>rfl
def zfn(v:Nat):Nat:=[2,3,1,2,2].getD v 0
def drV(w:Nat):List Nat:=(List.range' 0 5).filter w.testBit
def drC(w:Nat):List Nat:=(drV w).map zfn
theorem zjm{w:Nat}(hw:w<256){n:List Int}{b:Bool}:∀(m v k:Nat) (x y:List Nat),v+m=5→x.length≤v→y.length≤v→m<k →
  zaJ ⟨(w:Int),n,b⟩ k (v:Int) (iL x) (iL y)=some (iL (x ++ (List.range' v m).filter w.testBit),iL (y ++ ((List.range' v m).filter w.testBit).map zfn))
 | _,_,0,_,_,_,_,_,h=>absurd h (qaR _)
 | 0,v,k+1,x,y,h,_,_,_=>by
  unfold zaJ;rw[show decide ((v:Int)<5)=false from decide_eq_false (by omega),cond_false];simp
 | m+1,v,k+1,x,y,h,hx,hy,hk=>by
  obtain⟨q,h1,h2⟩:=ztJ (a:=w) (v:=v) hw (by omega);unfold zaJ;rw[show decide ((v:Int)<5)=true from decide_eq_true (by omega),cond_true,zpg (by omega),h1,qad,h2,qb2];cases hb:w.testBit v with
  | false=>
   rw[cond_false,qad];simp only[];rw[zbr (by omega),zjm hw m (v+1) k _ _ (by omega) (by omega) (by omega) (by omega),qbo (by rw[hb]; decide)]
  | true=>
   rw[cond_true,zqU (by omega),qad,show zbl ([2,3,1,2,2]:List Int) (v:Int)=some ((zfn v:Nat):Int)from zdY (xs:=[2,3,1,2,2]) (by simp; omega),qad,zqU (by omega),qad,qad];simp only[];rw[zbr (by omega),zjm hw m (v+1) k _ _ (by omega) (by simp; omega) (by simp; omega) (by omega),qbp hb];simp
def zm3(n:List Nat)(j:Nat):Nat:=bif n.length == 0 then 1 else n.getD (j % n.length) 0 % 10
theorem zkL(n:List Nat)(j:Nat):zm3 n j≤9:=by
 unfold zm3;cases(n.length == 0)
 ·rw[cond_false]; omega
 rw[cond_true]; omega
def zrE(b:Bool):Nat:=bif b then 1000000000000000 else 1
theorem zoX{n:List Nat}(j:Nat):((bif (decide (0<((iL n).length:Int)))then((zo9 (j:Int) ((iL n).length:Int)).bind fun q16=>(zbl (iL n) q16).bind fun x18=>some (w64 (x18.tmod 10)))else some 1:Option Int))=some ((zm3 n j:Nat):Int):=by
 unfold zm3;rw[zbf];by_cases h:n.length=0
 ·rw[h,show decide ((0:Int)<((0:Nat):Int))=false from rfl,cond_false,show((0:Nat)== 0)=true from rfl,cond_true]; rfl
 rw[show decide ((0:Int)<(n.length:Int))=true from decide_eq_true (by omega),cond_true,beq_false_of_ne h,cond_false,zr8 h,qad,zdY (qbU _ (by omega)),qad];congr 1
 rw[show((n.getD (j % n.length) 0:Nat):Int).tmod 10=((n.getD (j % n.length) 0 % 10:Nat):Int)from rfl,zcW (by omega)]
theorem zmd{n:List Nat}{c:List Nat}{w:Int}{b b2:Bool}(hc:zcq (iL c)=true)(hp:zai c≤4096):∀(m i k:Nat) (ys:List Nat),i+m=zai c→ys.length=i→m<k →
  zaK (iL c) ⟨w,iL n,b⟩ ((zrE b2:Nat):Int) k (i:Int) (iL ys)=some (iL (ys ++ (List.range' i m).map fun j=>zm3 n j * zrE b2))
 | _,_,0,_,_,_,h=>absurd h (qaR _)
 | 0,i,k+1,ys,h,hy,_=>by
  unfold zaK;rw[zl7 hc,qad,zfP];obtain rfl:i=zai c:=by omega
  rw[zpn,cond_false];simp
 | m+1,i,k+1,ys,h,hy,hk=>by
  have h1:=zkL n i;have h2:zm3 n i * zrE b2≤9000000000000000:=by
   cases b2
   ·show zm3 n i * 1≤_; omega
   show zm3 n i * 1000000000000000≤_; omega
  unfold zaK;rw[zl7 hc,qad,zfP,zpO (by omega),cond_true,zoX,qad,← qa7,zcW (by omega),zqU (by omega),qad,zbr (by omega),zmd hc hp m (i+1) k _ (by omega) (by simp[hy]) (by omega),qb2];simp
def drF(w:Nat)(n:List Nat)(b:Bool):Fc:=⟨drV w,drC w,(List.range' 0 (zai (drC w))).map fun j=>zm3 n j * zrE b⟩
theorem zp6:∀ w,w<256→zcq (iL (drC w))=true∧zai (drC w)≤24:=by decide +kernel
theorem zni{w:Nat}(hw:w<256)(n:List Nat)(b:Bool):zaV 5000 ⟨(w:Int),iL n,b⟩=some (drF w n b).D:=by
 obtain⟨h1,h2⟩:=zp6 w hw;unfold zaV;have e1:=zjm hw (n:=iL n) (b:=b) 5 0 ((5 - 0+2:Int).toNat) [] [] rfl (qai _) (qai _) (by decide);rw[show zaJ ⟨(w:Int),iL n,b⟩ ((5 - 0+2:Int).toNat) 0 [] []=_ from e1,qad];simp only[];have e2:(bif b then some ((1000000000000000:Int),true)else some (1,false))=some (((zrE b:Nat):Int),b):=by cases b<;>rfl
 rw[e2,qad];simp only[];have e3:=zmd (n:=n) (c:=drC w) (w:=(w:Int)) (b:=b) (b2:=b) h1 (by omega) (zai (drC w)) 0 5000 [] (by omega) rfl (by omega);rw[show zaK (iL ([]++ ((List.range' 0 5).filter w.testBit).map zfn)) ⟨(w:Int),iL n,b⟩ ((zrE b:Nat):Int) 5000 0 []=_ from e3];rfl
theorem zsI{w:Nat}(hw:w<256)(n:List Nat)(b:Bool):FcOk (drF w n b):=by
 obtain⟨h1,h2⟩:=zp6 w hw;obtain⟨h3,h4,h5⟩:=zlc h1;refine⟨by simp[drF,drC],h5,h3,h4,by simp[drF],qbZ _ List.pairwise_lt_range',?_,?_⟩
 ·intro v hv;have:=(qbx.1 hv).1;simp only[qbl]at this;omega
 intro x hx;obtain⟨j,_,rfl⟩:=qaK.1 hx;have h1:=zkL n j;show _≤4611686018427387903;cases b
 ·show zm3 n j * 1≤_; omega
 show zm3 n j * 1000000000000000≤_; omega
theorem zm7{xs ys:List Int}(hl:xs.length=ys.length)(hb:xs.length<4611686018427387904):∀ n i:Nat,i≤xs.length→xs.length - i<n→zcp xs ys n (i:Int)=some (bif decide (xs.drop i=ys.drop i)then .go ()else .ret false)
 | 0,_,_,h=>absurd h (qaR _)
 | n+1,i,h1,h2=>by
  unfold zcp;rw[zqn];by_cases hi:i<xs.length
  ·have hy:i<ys.length:=by omega
   have e:(xs.drop i=ys.drop i)↔(xs[i]=ys[i]∧xs.drop (i+1)=ys.drop (i+1)):=by
    rw[qaq hi,qaq hy,List.cons.injEq]
   rw[decide_eq_true hi,cond_true,zbQ hi,qad,zbQ hy,qad,zbr (by omega)];by_cases hx:xs[i]=ys[i]
   ·rw[show(xs[i]== ys[i])=true from beq_iff_eq.2 hx,cond_true,zm7 hl hb n (i+1) hi (by omega),decide_eq_decide.2 (show(xs.drop i=ys.drop i)↔(xs.drop (i+1)=ys.drop (i+1))from e.trans ⟨fun c=>c.2,fun c=>⟨hx,c⟩⟩)]
   rw[show(xs[i]== ys[i])=false from beq_false_of_ne hx,cond_false,decide_eq_false (fun c=>hx (e.1 c).1),cond_false]
  rw[decide_eq_false hi,cond_false,qbr (by omega),qbr (by omega),decide_eq_true rfl,cond_true]
theorem zlk{xs ys:List Int}(hb:xs.length<4611686018427387904):zcR xs ys=some (decide (xs=ys)):=by
 unfold zcR;by_cases hl:xs.length=ys.length
 ·rw[hl,beq_self_eq_true,cond_true,← hl,zda];have:=zm7 hl hb (xs.length+2) 0 (qaQ _) (by omega);rw[show zcp xs ys (xs.length+2) 0=_ from this,qaN,qaN,qad];cases decide (xs=ys)<;> rfl
 rw[show((xs.length:Int)==(ys.length:Int))=false from beq_false_of_ne (by omega),cond_false,decide_eq_false (fun e=>hl (by rw[e]))]
structure SzOk (x:S_api_Factor):Prop where
 vars:x.vars.length<4611686018427387904
 zae:x.zae.length<4611686018427387904
 w:x.w.length<4611686018427387904
theorem zlt{x y:S_api_Factor}:x=y↔x.vars=y.vars∧x.zae=y.zae∧x.w=y.w:=by
 cases x; cases y; simp
theorem zrj{x y:S_api_Factor}(h:SzOk x):zdd x y=some (decide (x=y)):=by
 unfold zdd;rw[zlk h.vars,qad];by_cases h1:x.vars=y.vars
 ·rw[decide_eq_true h1,cond_true,zlk h.zae,qad];by_cases h2:x.zae=y.zae
  ·rw[decide_eq_true h2,cond_true,zlk h.w,qad,qad,decide_eq_decide.2 (show x=y↔x.w=y.w from zlt.trans ⟨fun c=>c.2.2,fun c=>⟨h1,h2,c⟩⟩)]
  rw[decide_eq_false h2,cond_false,qad,decide_eq_false (fun e=>h2 (zlt.1 e).2.1)]
 rw[decide_eq_false h1,cond_false,qad,decide_eq_false (fun e=>h1 (zlt.1 e).1)]
theorem FcOk.sz{f:Fc}(h:FcOk f):SzOk f.D:=by
 have h1:=h.le; have h2:=h.len; have h3:=h.size; have h4:=h.prod;refine⟨?_,?_,?_⟩
 ·show(iL f.vs).length<_; rw[zbf]; omega
 ·show(iL f.cs).length<_; rw[zbf]; omega
 show(iL f.ws).length<_; rw[zbf]; omega
section
variable {r4 r6 r8 r10 r12 r14 r16 r18:S_api_Factor}
end
structure DrOk (d:S_haruspexref03_Draft):Prop where
 which:∃ w:Nat,w<256∧d.which=(w:Int)
 n:∃ ns:List Nat,d.n=iL ns
theorem DrOk.s{d:S_haruspexref03_Draft}(h:DrOk d):∃ w n,w<256∧d=⟨((w:Nat):Int),iL n,d.large⟩∧zaV 5000 d=some (drF w n d.large).D:=by
 obtain⟨w,hw,e1⟩:=h.which;obtain⟨n,e2⟩:=h.n;obtain⟨a,b,c⟩:=d;simp only at e1 e2;subst e1 e2;exact⟨w,n,hw,rfl,zni hw n c⟩
def cof(f:Fc)(us:List Nat):List Nat:=us.map (at_ f.vs f.cs)
structure Sel (f:Fc) (us:List Nat):Prop where
 inc:us.Pairwise (· < ·)
 mem:∀ u∈us,u∈f.vs
theorem zhf:∀ {a b:List Nat},a.Pairwise (· < ·)→b.Pairwise (· < ·)→(∀ x∈a,x∈b)→a.Sublist b
 | [],b,_,_,_=>List.nil_sublist b
 | a :: xs,[],_,_,h=>by have:=h a qaw; simp at this
 | a :: xs,b :: bs,ha,hb,h=>by
  obtain⟨ha1,ha2⟩:=qbb.1 ha;obtain⟨hb1,hb2⟩:=qbb.1 hb;rcases qaM.1 (h a qaw)with e | h1
  ·subst e;refine(zhf ha2 hb2 fun x hx=>?_).cons_cons a;rcases qaM.1 (h x (qal _ hx))with e | h2
   ·have:=ha1 x hx; omega
   exact h2
  refine(zhf ha hb2 fun x hx=>?_).cons b;rcases qaM.1 (h x hx)with e | h2
  ·have h3:=hb1 a h1;rcases qaM.1 hx with e2 | h4
   ·omega
   have:=ha1 x h4; omega
  exact h2
theorem zfu:∀ {a b:List Nat},a.Sublist b→(∀ c∈b,1≤c)→zai a≤zai b
 | _,_,.slnil,_=>qai _
 | a,b :: bs,.cons _ h,hb=>by
  have h1:=zfu h fun c hc=>hb c (qal _ hc)
  have h2:=qbB (hb b qaw) (qai (zai bs));show zai a≤b * zai bs;omega
 | a :: xs,_ :: bs,.cons_cons _ h,hb=>qbB (qai a) (zfu h fun c hc=>hb c (qal _ hc))
theorem zoe{f:Fc}(hf:FcOk f){us:List Nat}(hs:Sel f us):(cof f us).Sublist f.cs:=by
 have h:=(zhf hs.inc hf.inc hs.mem).map (at_ f.vs f.cs)
 rwa [zoE (zb8 hf.inc) hf.len]at h
theorem zdH{f:Fc}(hf:FcOk f){us:List Nat}(hs:Sel f us):Dom us (cof f us):=by
 have h:=zoe hf hs;exact⟨by simp[cof],zb8 hs.inc,fun x hx=>hf.zhH x (h.subset hx),qap h.length_le hf.le,qap (zfu h fun c hc=>(hf.zhH c hc).1) hf.prod⟩
theorem zoR{f:Fc}{us:List Nat}(hs:Sel f us):Sub f.vs f.cs us (cof f us):=
 zqd (by simp[cof]) (zb8 hs.inc) fun u hu=>⟨hs.mem u hu,by unfold cof; rw[zjJ hu]⟩
def ix(f:Fc)(us:List Nat)(i:Nat):Nat:=dot (us.map (at_ f.vs (dig f.cs i))) (zbK (cof f us))
theorem zpS{f:Fc}(hf:FcOk f){us:List Nat}(hs:Sel f us){i:Nat}(h:i<zai f.cs):ix f us i<zai (cof f us):=
 znr (Sub.below hf.len (zf1 hf.zhH h) (zoR hs))
theorem zqb{f:Fc}(hf:FcOk f){us:List Nat}(hs:Sel f us){i:Nat}:dot (dig f.cs i) (f.vs.map (stp us (cof f us)))=ix f us i:=by
 rw[zng (zb8 hf.inc) (by simp[cof]) (zb8 hs.inc)]; rfl
def gop(b:Bool)(x y:Nat):Nat:=bif b then max x y else x+y
def zfy(b:Bool)(f:Fc)(us:List Nat):Nat→Nat→List Nat→Option (List Nat)
 | 0,_,l=>some l
 | m+1,i,l=>bif decide (gop b (l.getD (ix f us i) 0) (f.get i)≤ze2)then zfy b f us m (i+1) (l.set (ix f us i) (gop b (l.getD (ix f us i) 0) (f.get i)))else none
theorem zhp{b:Bool}{f:Fc}{us:List Nat}:∀ {m i:Nat} {l l':List Nat},zfy b f us m i l=some l'→l'.length=l.length
 | 0,_,_,_,h=>by cases h; rfl
 | m+1,i,l,l',h=>by
  unfold zfy at h;cases hd:decide (gop b (l.getD (ix f us i) 0) (f.get i)≤ze2)with
  | false=>rw[hd]at h; cases h
  | true=>rw[hd,cond_true]at h; rw[zhp h,qaV]
theorem zlK{b:Bool}{f:Fc}{us:List Nat}:∀ {m i:Nat} {l l':List Nat},(∀ x∈l,x≤ze2)→zfy b f us m i l=some l'→∀ x∈l',x≤ze2
 | 0,_,_,_,hl,h=>by cases h; exact hl
 | m+1,i,l,l',hl,h=>by
  unfold zfy at h;cases hd:decide (gop b (l.getD (ix f us i) 0) (f.get i)≤ze2)with
  | false=>rw[hd]at h; cases h
  | true=>
   rw[hd,cond_true]at h;refine zlK (fun x hx=>?_) h;rcases qb1 hx with h1 | h1
   ·exact hl x h1
   rw[h1]; exact of_decide_eq_true hd
theorem zff{f:Fc}(hf:FcOk f){us:List Nat}(hs:Sel f us):us.length≤12:=by
 have:=(zhf hs.inc hf.inc hs.mem).length_le;have:=hf.len; have:=hf.le;omega
theorem zoN{b:Bool}{x y:Nat}(hx:x≤ze2)(hy:y≤ze2):(bif b then zsQ (x:Int) (y:Int)else w64 ((x:Int)+(y:Int)))=((gop b x y:Nat):Int):=by
 have h1:x≤4611686018427387903:=hx;have h2:y≤4611686018427387903:=hy;cases b with
 | true=>
  show zsQ (x:Int) (y:Int)=((max x y:Nat):Int);unfold zsQ;split<;>omega
 | false=>
  show w64 ((x:Int)+(y:Int))=((x+y:Nat):Int);rw[zei (by omega) (by omega)]; omega
theorem zod{l:List Nat}(h:∀ x∈l,x≤ze2)(k:Nat):l.getD k 0≤ze2:=by
 by_cases hk:k<l.length
 ·rw[qat,qaf hk];exact h _ (qaW hk)
 rw[qat,qa6 (by omega)];exact qaQ _
theorem zsM{xs:List Nat}{k y:Nat}(h:k<xs.length):zgj (iL xs) (k:Int) (y:Int)=some (iL (xs.set k y)):=by
 rw[zi6 (by rw[zbf]; exact h)];simp[iL]
def gat(b:Bool)(f:Fc)(us:List Nat):Option (List Nat):=zfy b f us (zai f.cs) 0 (List.replicate (zai (cof f us)) 0)
theorem zi2{n:Nat}:∀ x∈List.replicate n 0,x≤ze2:=fun x hx=>by rw[(List.mem_replicate.1 hx).2]; exact qaQ _
theorem zeR(cs:List Nat):∀(i:Nat) (h:i<cs.length),zai (cs.drop i)=cs[i] * zai (cs.drop (i+1)):=by
 intro i h;rw[qaq h]; rfl
theorem zqs{f:Fc}(hf:FcOk f){us:List Nat}(hs:Sel f us):∀(n i a:Nat),i≤us.length→us.length - i<n→a * zai ((cof f us).drop i)≤4096→1≤a →
  zay (iL us) f.T n (a:Int) (i:Int) (iL ((cof f us).take i ++ List.replicate (us.length - i) 0))=some (((a * zai ((cof f us).drop i):Nat):Int),iL (cof f us))
 | 0,_,_,_,h,_,_=>absurd h (qaR _)
 | n+1,i,a,hi,hn,ha,h1=>by
  have hl:=zff hf hs;have hcl:(cof f us).length=us.length:=by simp[cof]
  unfold zay;rw[zbf];rcases qaY i us.length with h3 | h3
  ·have h3c:i<(cof f us).length:=by omega
   have hcc:=(zdH hf hs).zhH (cof f us)[i] (qaW h3c);have hpos:0<zai ((cof f us).drop (i+1)):=zcT fun c hc=>(zdH hf hs).zhH c (qbY hc)
   have e0:=zeR (cof f us) i h3c;have ea:a * zai ((cof f us).drop i)=a * (cof f us)[i] * zai ((cof f us).drop (i+1)):=by rw[e0,qbW]
   have hle:a * (cof f us)[i]≤4096:=qap (qbm _ hpos) (ea ▸ ha);have ih:=zqs hf hs n (i+1) (a * (cof f us)[i]) h3 (by omega) (ea ▸ ha) (qcg (by omega) (by omega));have ht:((cof f us).take i).length=i:=by simp; omega
   have e:List.replicate (us.length - i) 0=0 :: List.replicate (us.length - (i+1)) 0:=by
    rw[show us.length - i=(us.length - (i+1))+1 by omega,qa2]
   rw[List.take_succ_eq_append_getElem h3c,qbs,qbk]at ih;obtain⟨k,hk⟩:=zen (hs.mem us[i] (qaW h3));have ec:at_ f.vs f.cs us[i]=(cof f us)[i]:=by simp[cof]
   rw[zpO h3,cond_true,zds h3,qad,zhc hf,qad,zc2,hk,show f.T.factor=f.D from rfl,zie hf hk,qad,ec,e,zdW ht,qad,zgG ht,qad,← qa7,zcW (by omega),zbr (by omega),ea];exact ih
  obtain rfl:i=us.length:=by omega
  rw[zpn,cond_false,Nat.sub_self,qb5,qa9,qaJ (by omega),qbG (by omega),show zai ([]:List Nat)=1 from rfl,Nat.mul_one]
theorem zfe{g:Nat→Nat}{p:Nat}:∀ {vs:List Nat} {v k:Nat},vs.Nodup→pos vs v=some k→(vs.map g).set k p=vs.map fun u=>bif v == u then p else g u
 | [],_,_,_,h=>by cases h
 | u :: us,v,k,hn,h=>by
  obtain⟨h1,h2⟩:=qbe.1 hn;rw[show pos (u :: us) v=bif u == v then some 0 else(pos us v).map (· + 1)from rfl]at h;cases hb:(u == v)with
  | true=>
   rw[hb,cond_true]at h;cases h;have:u=v:=by simpa using hb
   subst this;rw[qax,qax,List.set_cons_zero,beq_self_eq_true,cond_true];refine congrArg (p :: ·) (qbf fun x hx=>?_);rw[show(u == x)=false from beq_false_of_ne (fun e=>h1 (e ▸ hx)),cond_false]
  | false=>
   rw[hb,cond_false]at h;cases hp:pos us v with
   | none=>rw[hp]at h; cases h
   | some j=>
    rw[hp]at h;cases h;rw[qax,qax,List.set_cons_succ,zfe h2 hp,show(v == u)=false from beq_false_of_ne (fun e=>ne_of_beq_false hb e.symm),cond_false]
theorem zql{f:Fc}(hf:FcOk f){us:List Nat}(hs:Sel f us):∀(k n:Nat),k≤us.length→k<n →
  zat (iL us) f.T (iL (cof f us)) n ((zai ((cof f us).drop k):Nat):Int) ((k:Int) - 1) (iL (f.vs.map (stp (us.drop k) ((cof f us).drop k))))=some (iL (f.vs.map (stp us (cof f us))))
 | _,0,_,h=>absurd h (qaR _)
 | 0,n+1,_,_=>by
  unfold zat;rw[show decide ((0:Int)≤((0:Nat):Int) - 1)=false from rfl,cond_false,qaN,qaN]
 | k+1,n+1,hk,hn=>by
  have hl:=zff hf hs;have hD:=zdH hf hs;have hcl:(cof f us).length=us.length:=by simp[cof]
  have h3:k<us.length:=hk;have h3c:k<(cof f us).length:=by omega
  have ih:=zql hf hs k n (by omega) (by omega);have e0:=zeR (cof f us) k h3c;have hle:zai ((cof f us).drop k)≤4096:=qap (zdX (fun c hc=>(hD.zhH c hc).1) k) hD.prod;obtain⟨j,hj⟩:=zen (hs.mem us[k] (qaW h3));obtain⟨hj2,_⟩:=zeP hj;have em:(f.vs.map (stp (us.drop (k+1)) ((cof f us).drop (k+1)))).set j (zai ((cof f us).drop (k+1)))=f.vs.map (stp (us.drop k) ((cof f us).drop k)):=by
   rw[zfe (zb8 hf.inc) hj,qaq h3,qaq h3c];rfl
  unfold zat;rw[pred_succ,ztu,cond_true,zds h3,qad,zhc hf,qad,zc2,hj,show ixZ (some j)=(j:Int)from rfl,zdY (by simpa using hj2),qad,zsM (by simpa using hj2),qad,zds h3c,qad,← qa7,qbw,← e0,zcW (by omega),zei (by omega) (by omega),em];exact ih
theorem zqj{f:Fc}(hf:FcOk f){us:List Nat}(hs:Sel f us){x:Int}:∀(m i:Nat) (l:List Nat),i+m=zai f.cs→l.length=zai (cof f us)→(∀ x∈l,x≤ze2)→
  ∃ z,zas f.T x (zlw f.cs (f.vs.map (stp us (cof f us))) i m) (iL l)=some (match zfy false f us m i l with | some l'=>.go (iL l')| none=>.brk z)
 | 0,i,l,_,_,_=>⟨[],rfl⟩
 | m+1,i,l,h,hl,hb=>by
  have hi:i<zai f.cs:=by omega
  have hk:=zpS hf hs hi;have hkl:ix f us i<l.length:=by omega
  have g1:=zod hb (ix f us i);have g2:=Fc.zqf hf i;have e:=zoN (b:=false) g1 g2;rw[cond_false]at e;rw[zio,zqb hf hs];have es:zc6 ((l.getD (ix f us i) 0:Nat):Int) ((f.get i:Nat):Int)=some (((gop false (l.getD (ix f us i) 0) (f.get i):Nat):Int),decide (gop false (l.getD (ix f us i) 0) (f.get i)≤ze2)):=by
   unfold zc6;rw[e];refine congrArg (fun b:Bool=>some (((gop false (l.getD (ix f us i) 0) (f.get i):Nat):Int),b)) (decide_eq_decide.2 ⟨fun h=>?_,fun h=>?_⟩)
   ·show _≤4611686018427387903; omega
   have:_≤4611686018427387903:=h; omega
  have e1:∀ ys,zas f.T x (((i:Int),((ix f us i:Nat):Int),iL (dig f.cs i)):: ys) (iL l)=bif decide (gop false (l.getD (ix f us i) 0) (f.get i)≤ze2)then zas f.T x ys (iL (l.set (ix f us i) (gop false (l.getD (ix f us i) 0) (f.get i))))else some (.brk (iL (l.set (ix f us i) (gop false (l.getD (ix f us i) 0) (f.get i))))):=by
   intro ys;show(zbl (iL l) ((ix f us i:Nat):Int)).bind _=_;rw[zdY hkl,qad];simp only[];rw[show zbl f.T.factor.w (i:Int)=some ((f.get i:Nat):Int)from zsw hf hi,qad,es,qad];simp only[];rw[zsM hkl,qad]
  rw[e1];unfold zfy;cases hd:decide (gop false (l.getD (ix f us i) 0) (f.get i)≤ze2)with
  | false=>exact⟨_,rfl⟩
  | true=>
   rw[cond_true,cond_true];refine zqj hf hs m (i+1) _ (by omega) (by rw[qaV]; exact hl) fun x hx=>?_
   rcases qb1 hx with h1 | h1
   ·exact hb x h1
   rw[h1]; exact of_decide_eq_true hd
theorem zol(f:Fc):f.vs.map (stp [] [])=List.replicate f.vs.length 0:=by
 rw[List.eq_replicate_iff];refine⟨by simp,fun x hx=>?_⟩;obtain⟨v,_,rfl⟩:=qaK.1 hx;simp[stp]
theorem zpZ{f:Fc}(hf:FcOk f){us:List Nat}(hs:Sel f us)(v:Nat):stp us (cof f us) v≤4096:=by
 have hD:=zdH hf hs;rw[znd hD.len];cases hp:pos us v with
 | none=>exact qaQ _
 | some k=>
  simp only;by_cases h:k<(zbK (cof f us)).length
  ·rw[qat,qaf h];exact zpX (fun c hc=>(hD.zhH c hc).1) hD.prod _ (qaW h)
  rw[qat,qa6 (by omega)];exact qaQ _
theorem zit{f:Fc}(hf:FcOk f){us:List Nat}(hs:Sel f us):zau f.T (iL us)=some (match gat false f us with | some l=>(⟨iL us,iL (cof f us),iL l⟩,0)| none=>(noF,6)):=by
 have hl:=zff hf hs;have hD:=zdH hf hs;have hp:=hD.prod;have hpf:=hf.prod;have hfl:=hf.le;have hfl2:=hf.len;have hcl:(cof f us).length=us.length:=by simp[cof]
 unfold zau;have h1:=zqs hf hs (us.length+2) 0 1 (qaQ _) (by omega) (by rw[qaN]; omega) (qai _);rw[qbQ,qbi,Nat.sub_zero,zfv,qaN,qbJ]at h1;rw[zbf,zep (by omega),qad,zda,show zay (iL us) f.T (us.length+2) 1 0 (List.replicate us.length 0)=_ from h1,qad];simp only[];rw[zep (by omega),qad,show f.T.factor.vars=iL f.vs from rfl,zbf,zep (by omega),qad,zei (by omega) (by omega),show(((us.length:Int) - 1) - 0+2).toNat=us.length+1 by omega];have h2:=zql hf hs us.length (us.length+1) (qai _) (by omega);rw[qaT,qbG (by omega),zol,zfv,show zai ([]:List Nat)=1 from rfl]at h2;rw[show zat (iL us) f.T (iL (cof f us)) (us.length+1) 1 ((us.length:Int) - 1) (List.replicate f.vs.length 0)=_ from h2,qad,zkA,qad];simp only[];rw[show f.T.factor.zae=iL f.cs from rfl,zqw hf.zhH hf.le hf.prod (by rw[qa1,hf.len]) (fun s hs2=>by obtain⟨v,_,rfl⟩:=qaK.1 hs2; exact zpZ hf hs v),qad];obtain⟨z,h3⟩:=zqj hf hs (x:=((zai (cof f us):Nat):Int)) (zai f.cs) 0 (List.replicate (zai (cof f us)) 0) (by omega) (by simp) zi2;rw[← zfv,h3,qad];unfold gat;cases zfy false f us (zai f.cs) 0 (List.replicate (zai (cof f us)) 0)<;> rfl
theorem zp1{f:Fc}(hf:FcOk f){us:List Nat}(hs:Sel f us):∀(n i a:Nat),i≤us.length→us.length - i<n→a * zai ((cof f us).drop i)≤4096→1≤a →
  zax (iL us) f.T n (a:Int) (i:Int) (iL ((cof f us).take i ++ List.replicate (us.length - i) 0))=some (((a * zai ((cof f us).drop i):Nat):Int),iL (cof f us))
 | 0,_,_,_,h,_,_=>absurd h (qaR _)
 | n+1,i,a,hi,hn,ha,h1=>by
  have hl:=zff hf hs;have hcl:(cof f us).length=us.length:=by simp[cof]
  unfold zax;rw[zbf];rcases qaY i us.length with h3 | h3
  ·have h3c:i<(cof f us).length:=by omega
   have hcc:=(zdH hf hs).zhH (cof f us)[i] (qaW h3c);have hpos:0<zai ((cof f us).drop (i+1)):=zcT fun c hc=>(zdH hf hs).zhH c (qbY hc)
   have e0:=zeR (cof f us) i h3c;have ea:a * zai ((cof f us).drop i)=a * (cof f us)[i] * zai ((cof f us).drop (i+1)):=by rw[e0,qbW]
   have hle:a * (cof f us)[i]≤4096:=qap (qbm _ hpos) (ea ▸ ha);have ih:=zp1 hf hs n (i+1) (a * (cof f us)[i]) h3 (by omega) (ea ▸ ha) (qcg (by omega) (by omega));have ht:((cof f us).take i).length=i:=by simp; omega
   have e:List.replicate (us.length - i) 0=0 :: List.replicate (us.length - (i+1)) 0:=by
    rw[show us.length - i=(us.length - (i+1))+1 by omega,qa2]
   rw[List.take_succ_eq_append_getElem h3c,qbs,qbk]at ih;obtain⟨k,hk⟩:=zen (hs.mem us[i] (qaW h3));have ec:at_ f.vs f.cs us[i]=(cof f us)[i]:=by simp[cof]
   rw[zpO h3,cond_true,zds h3,qad,zhc hf,qad,zc2,hk,show f.T.factor=f.D from rfl,zie hf hk,qad,ec,e,zdW ht,qad,zgG ht,qad,← qa7,zcW (by omega),zbr (by omega),ea];exact ih
  obtain rfl:i=us.length:=by omega
  rw[zpn,cond_false,Nat.sub_self,qb5,qa9,qaJ (by omega),qbG (by omega),show zai ([]:List Nat)=1 from rfl,Nat.mul_one]
theorem zqg{f:Fc}(hf:FcOk f){us:List Nat}(hs:Sel f us):∀(k n:Nat),k≤us.length→k<n →
  zar (iL us) f.T (iL (cof f us)) n ((zai ((cof f us).drop k):Nat):Int) ((k:Int) - 1) (iL (f.vs.map (stp (us.drop k) ((cof f us).drop k))))=some (iL (f.vs.map (stp us (cof f us))))
 | _,0,_,h=>absurd h (qaR _)
 | 0,n+1,_,_=>by
  unfold zar;rw[show decide ((0:Int)≤((0:Nat):Int) - 1)=false from rfl,cond_false,qaN,qaN]
 | k+1,n+1,hk,hn=>by
  have hl:=zff hf hs;have hD:=zdH hf hs;have hcl:(cof f us).length=us.length:=by simp[cof]
  have h3:k<us.length:=hk;have h3c:k<(cof f us).length:=by omega
  have ih:=zqg hf hs k n (by omega) (by omega);have e0:=zeR (cof f us) k h3c;have hle:zai ((cof f us).drop k)≤4096:=qap (zdX (fun c hc=>(hD.zhH c hc).1) k) hD.prod;obtain⟨j,hj⟩:=zen (hs.mem us[k] (qaW h3));obtain⟨hj2,_⟩:=zeP hj;have em:(f.vs.map (stp (us.drop (k+1)) ((cof f us).drop (k+1)))).set j (zai ((cof f us).drop (k+1)))=f.vs.map (stp (us.drop k) ((cof f us).drop k)):=by
   rw[zfe (zb8 hf.inc) hj,qaq h3,qaq h3c];rfl
  unfold zar;rw[pred_succ,ztu,cond_true,zds h3,qad,zhc hf,qad,zc2,hj,show ixZ (some j)=(j:Int)from rfl,zdY (by simpa using hj2),qad,zsM (by simpa using hj2),qad,zds h3c,qad,← qa7,qbw,← e0,zcW (by omega),zei (by omega) (by omega),em];exact ih
theorem zqi{f:Fc}(hf:FcOk f){us:List Nat}(hs:Sel f us){x:Int}:∀(m i:Nat) (l:List Nat),i+m=zai f.cs→l.length=zai (cof f us)→(∀ x∈l,x≤ze2)→
  ∃ z,zaq f.T x (zlw f.cs (f.vs.map (stp us (cof f us))) i m) (iL l)=some (match zfy true f us m i l with | some l'=>.go (iL l')| none=>.brk z)
 | 0,i,l,_,_,_=>⟨[],rfl⟩
 | m+1,i,l,h,hl,hb=>by
  have hi:i<zai f.cs:=by omega
  have hk:=zpS hf hs hi;have hkl:ix f us i<l.length:=by omega
  have g1:=zod hb (ix f us i);have g2:=Fc.zqf hf i;have e:=zoN (b:=true) g1 g2;rw[cond_true]at e;rw[zio,zqb hf hs];have es:zbG ((l.getD (ix f us i) 0:Nat):Int) ((f.get i:Nat):Int)=some (((gop true (l.getD (ix f us i) 0) (f.get i):Nat):Int),decide (gop true (l.getD (ix f us i) 0) (f.get i)≤ze2)):=by
   unfold zbG;have hm:gop true (l.getD (ix f us i) 0) (f.get i)≤ze2:=Nat.max_le.2 ⟨g1,g2⟩;rw[decide_eq_true hm,e]
  have e1:∀ ys,zaq f.T x (((i:Int),((ix f us i:Nat):Int),iL (dig f.cs i)):: ys) (iL l)=bif decide (gop true (l.getD (ix f us i) 0) (f.get i)≤ze2)then zaq f.T x ys (iL (l.set (ix f us i) (gop true (l.getD (ix f us i) 0) (f.get i))))else some (.brk (iL (l.set (ix f us i) (gop true (l.getD (ix f us i) 0) (f.get i))))):=by
   intro ys;show(zbl (iL l) ((ix f us i:Nat):Int)).bind _=_;rw[zdY hkl,qad];simp only[];rw[show zbl f.T.factor.w (i:Int)=some ((f.get i:Nat):Int)from zsw hf hi,qad,es,qad];simp only[];rw[zsM hkl,qad]
  rw[e1];unfold zfy;cases hd:decide (gop true (l.getD (ix f us i) 0) (f.get i)≤ze2)with
  | false=>exact⟨_,rfl⟩
  | true=>
   rw[cond_true,cond_true];refine zqi hf hs m (i+1) _ (by omega) (by rw[qaV]; exact hl) fun x hx=>?_
   rcases qb1 hx with h1 | h1
   ·exact hb x h1
   rw[h1]; exact of_decide_eq_true hd
theorem zqV{f:Fc}(hf:FcOk f){us:List Nat}(hs:Sel f us):zaQ f.T (iL us)=some (match gat true f us with | some l=>(⟨iL us,iL (cof f us),iL l⟩,0)| none=>(noF,6)):=by
 have hl:=zff hf hs;have hD:=zdH hf hs;have hp:=hD.prod;have hpf:=hf.prod;have hfl:=hf.le;have hfl2:=hf.len;have hcl:(cof f us).length=us.length:=by simp[cof]
 unfold zaQ;have h1:=zp1 hf hs (us.length+2) 0 1 (qaQ _) (by omega) (by rw[qaN]; omega) (qai _);rw[qbQ,qbi,Nat.sub_zero,zfv,qaN,qbJ]at h1;rw[zbf,zep (by omega),qad,zda,show zax (iL us) f.T (us.length+2) 1 0 (List.replicate us.length 0)=_ from h1,qad];simp only[];rw[zep (by omega),qad,show f.T.factor.vars=iL f.vs from rfl,zbf,zep (by omega),qad,zei (by omega) (by omega),show(((us.length:Int) - 1) - 0+2).toNat=us.length+1 by omega];have h2:=zqg hf hs us.length (us.length+1) (qai _) (by omega);rw[qaT,qbG (by omega),zol,zfv,show zai ([]:List Nat)=1 from rfl]at h2;rw[show zar (iL us) f.T (iL (cof f us)) (us.length+1) 1 ((us.length:Int) - 1) (List.replicate f.vs.length 0)=_ from h2,qad,zkA,qad];simp only[];rw[show f.T.factor.zae=iL f.cs from rfl,zqw hf.zhH hf.le hf.prod (by rw[qa1,hf.len]) (fun s hs2=>by obtain⟨v,_,rfl⟩:=qaK.1 hs2; exact zpZ hf hs v),qad];obtain⟨z,h3⟩:=zqi hf hs (x:=((zai (cof f us):Nat):Int)) (zai f.cs) 0 (List.replicate (zai (cof f us)) 0) (by omega) (by simp) zi2;rw[← zfv,h3,qad];unfold gat;cases zfy true f us (zai f.cs) 0 (List.replicate (zai (cof f us)) 0)<;> rfl
def rest(f:Fc)(v:Nat):List Nat:=f.vs.filter fun u=>!(u == v)
theorem zeO{f:Fc}(hf:FcOk f)(v:Nat):Sel f (rest f v):=⟨qbZ _ hf.inc,fun u hu=>(qbx.1 hu).1⟩
theorem zls{v:Nat}:∀ {vs:List Nat},v ∉ vs→vs.filter (fun u=>!(u == v))=vs:=fun {vs} h=>List.filter_eq_self.2 fun u hu=>by
 rw[show(u == v)=false from beq_false_of_ne (fun e=>h (e ▸ hu))]; rfl
theorem znY:∀ {vs:List Nat} {v k:Nat},vs.Nodup→pos vs v=some k→vs.take k ++ vs.drop (k+1)=vs.filter fun u=>!(u == v)
 | [],_,_,_,h=>by cases h
 | u :: us,v,k,hn,h=>by
  obtain⟨h1,h2⟩:=qbe.1 hn;rw[show pos (u :: us) v=bif u == v then some 0 else(pos us v).map (· + 1)from rfl]at h;cases hb:(u == v)with
  | true=>
   rw[hb,cond_true]at h;cases h;have:u=v:=by simpa using hb
   subst this;rw[qbo (by simp),zls h1];rfl
  | false=>
   rw[hb,cond_false]at h;cases hp:pos us v with
   | none=>rw[hp]at h; cases h
   | some j=>
    rw[hp]at h;cases h;rw[qbp (by rw[hb]; rfl),← znY h2 hp];rfl
theorem ztI{xs:List Nat}{k:Nat}(h:k<xs.length)(hl:xs.length<1000):zm4 (iL xs) (k:Int) (w64 ((k:Int)+1))=some (iL (xs.take k ++ xs.drop (k+1))):=by
 rw[zbr (by omega)];unfold zm4;rw[if_pos ⟨⟨by omega,by omega,by rw[zbf]; omega⟩,by rw[zbf]; omega⟩,qaE,qaE];simp[iL]
def ztf(o:Option (List Nat))(f:Fc)(us:List Nat):S_api_Factor×Int:=match o with
 | some l=>(⟨iL us,iL (cof f us),iL l⟩,0)
 | none=>(noF,6)
theorem zj0{f:Fc}(hf:FcOk f){v k:Nat}(hp:pos f.vs v=some k):zcP 8 (iL f.vs)=some (iL f.vs)∧zm4 (iL f.vs) (k:Int) (w64 ((k:Int)+1))=some (iL (rest f v)):=by
 have h1:=hf.le;have h2:=hf.len;obtain⟨hk,_⟩:=zeP hp;refine⟨zl5 (by rw[zbf]; omega),?_⟩;rw[ztI hk (by omega),znY (zb8 hf.inc) hp];rfl
theorem zmt{f:Fc}(hf:FcOk f){v k:Nat}(hp:pos f.vs v=some k):zaI f.D (v:Int)=some (ztf (gat false f (rest f v)) f (rest f v)):=by
 obtain⟨h1,h2⟩:=zj0 hf hp;unfold zaI zca;rw[zi9 hf,qad];simp only[];rw[show((0:Int)== 0)=true from rfl,cond_true,zhc hf,qad,zc2,hp,show ixZ (some k)=(k:Int)from rfl,show decide ((k:Int)<0)=false from decide_eq_false (by omega),cond_false,show f.T.factor.vars=iL f.vs from rfl,h1,qad,h2,qad,zit hf (zeO hf v),qad];cases gat false f (rest f v)<;> rfl
theorem zmz{f:Fc}(hf:FcOk f){v k:Nat}(hp:pos f.vs v=some k):zaO f.D (v:Int)=some (ztf (gat true f (rest f v)) f (rest f v)):=by
 obtain⟨h1,h2⟩:=zj0 hf hp;unfold zaO zcb;rw[zi9 hf,qad];simp only[];rw[show((0:Int)== 0)=true from rfl,cond_true,zhc hf,qad,zc2,hp,show ixZ (some k)=(k:Int)from rfl,show decide ((k:Int)<0)=false from decide_eq_false (by omega),cond_false,show f.T.factor.vars=iL f.vs from rfl,h1,qad,h2,qad,zqV hf (zeO hf v),qad];cases gat true f (rest f v)<;> rfl
def gF(f:Fc)(us l:List Nat):Fc:=⟨us,cof f us,l⟩
theorem zrW{f:Fc}(hf:FcOk f){us l:List Nat}(hs:Sel f us){b:Bool}(h:gat b f us=some l):FcOk (gF f us l):=by
 have hD:=zdH hf hs;exact⟨hD.len,hD.le,hD.zhH,hD.prod,(zhp h).trans (by simp[gF]),hs.inc,fun v hv=>hf.var v (hs.mem v hv),zlK zi2 h⟩
section
variable {p1 p2 p4:Int} {x9:S_api_Factor}
end
section
variable {p1 p2 p4:Int} {x y:S_api_Factor}
end
end Go.Dc
