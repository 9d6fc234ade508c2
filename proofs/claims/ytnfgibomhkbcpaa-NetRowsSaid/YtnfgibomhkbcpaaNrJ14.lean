/-
 Plain laws: Divide, by the program and by the reference. Conditions: none.
-/
import Derived.Test.YtnfgibomhkbcpaaNrJ13
import Derived.Test.YtnfgibomhkbcpaaNrJ6
import Derived.Test.YtnfgibomhkbcpaaNrJ9
set_option linter.unusedSimpArgs false
set_option linter.unusedVariables false
namespace Go.Dc
open Go Go.Mx Go.Lx
theorem zzA(b:Nat):((b:Int)== 0)=(b == 0):=zqh b 0
theorem zzj{a b:Nat}(hb:¬ b=0):zpl (a:Int) (b:Int)=some ((a % b:Nat):Int):=by
 unfold zpl;rw[zzA,beq_false_of_ne hb,cond_false]; rfl
theorem zyK{a b:Nat}(hb:¬ b=0)(ha:a≤zg7):zo5 .i64 (a:Int) (b:Int)=some ((a / b:Nat):Int):=by
 have h1:a≤4611686018427387903:=ha;have h2:a / b≤a:=qcL a b;unfold zo5;rw[zzA,beq_false_of_ne hb,cond_false,show((a:Int).tdiv (b:Int))=((a / b:Nat):Int)from rfl];exact congrArg some (zav (n:=a / b) (by omega))
def Fc.get(f:Fc)(j:Nat):Nat:=f.ws.getD j 0
theorem Fc.zuC{f:Fc}(hf:FcOk f)(k:Nat):f.get k≤zg7:=by
 unfold Fc.get;by_cases h:k<f.ws.length
 ·rw[qai,qad h];exact hf.num _ (qat h)
 rw[qai,qa4 (by omega)];exact qaC _
theorem zxj{f:Fc}{i:Nat}(hf:FcOk f)(h:i<zab f.cs):za5 f.D.w (i:Int)=some ((f.get i:Nat):Int):=zep (by rw[hf.size]; exact h)
theorem zy6(n:Nat):IntKind.u8.wrap (n:Int)=((n % 256:Nat):Int):=by
 simp only[IntKind.wrap,IntKind.bits,IntKind.signed]; simp
theorem ztD{n:Nat}(h:n<256):IntKind.u8.wrap (n:Int)=(n:Int):=by
 rw[zy6,qaZ h]
theorem zAE{a b:Nat}(ha:a<256)(hb:b<256):zpX .u8 (a:Int) (b:Int)=((a &&& b:Nat):Int):=by
 have h:(BitVec.ofInt 8 (a:Int) &&& BitVec.ofInt 8 (b:Int)).toNat=a &&& b:=by
  simp only[qch,BitVec.toNat_and,BitVec.toNat_ofNat];rw[qaZ ha,qaZ hb]
 show IntKind.u8.wrap ((BitVec.ofInt 8 (a:Int) &&& BitVec.ofInt 8 (b:Int)).toNat:Int)=_;rw[h];exact ztD (qca Nat.and_le_left ha)
theorem zzM{a v:Nat}(hv:v<8):zmr .u8 (a:Int) (v:Int)=some ((a >>> v:Nat):Int):=by
 unfold zmr;rw[if_pos (by omega)];congr 1
 have h1:min (v:Int).toNat IntKind.u8.bits=v:=by
  rw[show IntKind.u8.bits=8 from rfl,qaD]; exact qbK (by omega)
 rw[h1,qbG];have h2:((2:Int) ^ v)=((2 ^ v:Nat):Int):=by simp
 rw[h2,qcy _ (qbx _)];rfl
theorem zAJ{a v:Nat}(ha:a<256)(hv:v<8):∃ q:Int,zmr .u8 (a:Int) (v:Int)=some q∧(zpX .u8 q 1 == 1)=a.testBit v:=by
 refine⟨_,zzM hv,?_⟩;rw[show(1:Int)=((1:Nat):Int)from rfl,zAE (qca (by rw[qbG]; exact qcL _ _) ha) (by decide),zzv,zqh];cases a.testBit v<;>rfl
def zs2(v:Nat):Nat:=[2,3,1,2,2].getD v 0
def drV(w:Nat):List Nat:=(List.range' 0 5).filter w.testBit
def drC(w:Nat):List Nat:=(drV w).map zs2
theorem zjT{w:Nat}(hw:w<256){n:List Int}{b:Bool}:∀(m v k:Nat) (x y:List Nat),v+m=5→x.length≤v→y.length≤v→m<k →
  zbc ⟨(w:Int),n,b⟩ k (v:Int) (iL x) (iL y)=some (iL (x ++ (List.range' v m).filter w.testBit),iL (y ++ ((List.range' v m).filter w.testBit).map zs2))
 | _,_,0,_,_,_,_,_,h=>absurd h (qas _)
 | 0,v,k+1,x,y,h,_,_,_=>by
  unfold zbc;rw[show decide ((v:Int)<5)=false from decide_eq_false (by omega),cond_false];simp
 | m+1,v,k+1,x,y,h,hx,hy,hk=>by
  obtain⟨q,h1,h2⟩:=zAJ (a:=w) (v:=v) hw (by omega);unfold zbc;rw[show decide ((v:Int)<5)=true from decide_eq_true (by omega),cond_true,zez (by omega),h1,qaa,h2,qcp];cases hb:w.testBit v with
  | false=>
   rw[cond_false,qaa];simp only[];rw[zap (by omega),zjT hw m (v+1) k _ _ (by omega) (by omega) (by omega) (by omega),qcM (by rw[hb]; decide)]
  | true=>
   rw[cond_true,zwi (by omega),qaa,show za5 ([2,3,1,2,2]:List Int) (v:Int)=some ((zs2 v:Nat):Int)from zep (xs:=[2,3,1,2,2]) (by simp; omega),qaa,zwi (by omega),qaa,qaa];simp only[];rw[zap (by omega),zjT hw m (v+1) k _ _ (by omega) (by simp; omega) (by simp; omega) (by omega),qcN hb];simp
def ztX(n:List Nat)(j:Nat):Nat:=bif n.length == 0 then 1 else n.getD (j % n.length) 0 % 10
theorem zvU(n:List Nat)(j:Nat):ztX n j≤9:=by
 unfold ztX;cases(n.length == 0)
 ·rw[cond_false]; omega
 rw[cond_true]; omega
def zwK(b:Bool):Nat:=bif b then 1000000000000000 else 1
theorem zry{n:List Nat}(j:Nat):((bif (decide (0<((iL n).length:Int)))then((zpl (j:Int) ((iL n).length:Int)).bind fun q16=>(za5 (iL n) q16).bind fun x18=>some (w64 (x18.tmod 10)))else some 1:Option Int))=some ((ztX n j:Nat):Int):=by
 unfold ztX;rw[zan];by_cases h:n.length=0
 ·rw[h,show decide ((0:Int)<((0:Nat):Int))=false from rfl,cond_false,show((0:Nat)== 0)=true from rfl,cond_true]; rfl
 rw[show decide ((0:Int)<(n.length:Int))=true from decide_eq_true (by omega),cond_true,beq_false_of_ne h,cond_false,zzj h,qaa,zep (qbf _ (by omega)),qaa];congr 1
 rw[show((n.getD (j % n.length) 0:Nat):Int).tmod 10=((n.getD (j % n.length) 0 % 10:Nat):Int)from rfl,zav (by omega)]
theorem zor{n:List Nat}{c:List Nat}{w:Int}{b b2:Bool}(hc:zdB (iL c)=true)(hp:zab c≤4096):∀(m i k:Nat) (ys:List Nat),i+m=zab c→ys.length=i→m<k →
  zba (iL c) ⟨w,iL n,b⟩ ((zwK b2:Nat):Int) k (i:Int) (iL ys)=some (iL (ys ++ (List.range' i m).map fun j=>ztX n j * zwK b2))
 | _,_,0,_,_,_,h=>absurd h (qas _)
 | 0,i,k+1,ys,h,hy,_=>by
  unfold zba;rw[zoP hc,qaa,zf9];obtain rfl:i=zab c:=by omega
  rw[zuU,cond_false];simp
 | m+1,i,k+1,ys,h,hy,hk=>by
  have h1:=zvU n i;have h2:ztX n i * zwK b2≤9000000000000000:=by
   cases b2
   ·show ztX n i * 1≤_; omega
   show ztX n i * 1000000000000000≤_; omega
  unfold zba;rw[zoP hc,qaa,zf9,zuF (by omega),cond_true,zry,qaa,← qaW,zav (by omega),zwi (by omega),qaa,zap (by omega),zor hc hp m (i+1) k _ (by omega) (by simp[hy]) (by omega),qcp];simp
def drF(w:Nat)(n:List Nat)(b:Bool):Fc:=⟨drV w,drC w,(List.range' 0 (zab (drC w))).map fun j=>ztX n j * zwK b⟩
theorem zxc:∀ w,w<256→zdB (iL (drC w))=true∧zab (drC w)≤24:=by decide +kernel
theorem zvk{w:Nat}(hw:w<256)(n:List Nat)(b:Bool):zcZ 5000 ⟨(w:Int),iL n,b⟩=some (drF w n b).D:=by
 obtain⟨h1,h2⟩:=zxc w hw;unfold zcZ;have e1:=zjT hw (n:=iL n) (b:=b) 5 0 ((5 - 0+2:Int).toNat) [] [] rfl (qam _) (qam _) (by decide);rw[show zbc ⟨(w:Int),iL n,b⟩ ((5 - 0+2:Int).toNat) 0 [] []=_ from e1,qaa];simp only[];have e2:(bif b then some ((1000000000000000:Int),true)else some (1,false))=some (((zwK b:Nat):Int),b):=by cases b<;>rfl
 rw[e2,qaa];simp only[];have e3:=zor (n:=n) (c:=drC w) (w:=(w:Int)) (b:=b) (b2:=b) h1 (by omega) (zab (drC w)) 0 5000 [] (by omega) rfl (by omega);rw[show zba (iL ([]++ ((List.range' 0 5).filter w.testBit).map zs2)) ⟨(w:Int),iL n,b⟩ ((zwK b:Nat):Int) 5000 0 []=_ from e3];rfl
section
variable {r4 r6 r8 r10 r12 r14 r16 r18:S_api_Factor}
end
structure DrOk (d:S_haruspexref03_Draft):Prop where
 which:∃ w:Nat,w<256∧d.which=(w:Int)
 n:∃ ns:List Nat,d.n=iL ns
theorem DrOk.s{d:S_haruspexref03_Draft}(h:DrOk d):∃ w n,w<256∧d=⟨((w:Nat):Int),iL n,d.large⟩∧zcZ 5000 d=some (drF w n d.large).D:=by
 obtain⟨w,hw,e1⟩:=h.which;obtain⟨n,e2⟩:=h.n;obtain⟨a,b,c⟩:=d;simp only at e1 e2;subst e1 e2;exact⟨w,n,hw,rfl,zvk hw n c⟩
def cof(f:Fc)(us:List Nat):List Nat:=us.map (at_ f.vs f.cs)
structure Sel (f:Fc) (us:List Nat):Prop where
 inc:us.Pairwise (· < ·)
 mem:∀ u∈us,u∈f.vs
theorem zjJ:∀ {a b:List Nat},a.Pairwise (· < ·)→b.Pairwise (· < ·)→(∀ x∈a,x∈b)→a.Sublist b
 | [],b,_,_,_=>List.nil_sublist b
 | a :: xs,[],_,_,h=>by have:=h a qar; simp at this
 | a :: xs,b :: bs,ha,hb,h=>by
  obtain⟨ha1,ha2⟩:=qbw.1 ha;obtain⟨hb1,hb2⟩:=qbw.1 hb;rcases qaP.1 (h a qar)with e | h1
  ·subst e;refine(zjJ ha2 hb2 fun x hx=>?_).cons_cons a;rcases qaP.1 (h x (qak _ hx))with e | h2
   ·have:=ha1 x hx; omega
   exact h2
  refine(zjJ ha hb2 fun x hx=>?_).cons b;rcases qaP.1 (h x hx)with e | h2
  ·have h3:=hb1 a h1;rcases qaP.1 hx with e2 | h4
   ·omega
   have:=ha1 x h4; omega
  exact h2
theorem zjA:∀ {a b:List Nat},a.Sublist b→(∀ c∈b,1≤c)→zab a≤zab b
 | _,_,.slnil,_=>qam _
 | a,b :: bs,.cons _ h,hb=>by
  have h1:=zjA h fun c hc=>hb c (qak _ hc)
  have h2:=qbz (hb b qar) (qam (zab bs));show zab a≤b * zab bs;omega
 | a :: xs,_ :: bs,.cons_cons _ h,hb=>qbz (qam a) (zjA h fun c hc=>hb c (qak _ hc))
theorem zwm{f:Fc}(hf:FcOk f){us:List Nat}(hs:Sel f us):(cof f us).Sublist f.cs:=by
 have h:=(zjJ hs.inc hf.inc hs.mem).map (at_ f.vs f.cs)
 rwa [zou (zbr hf.inc) hf.len]at h
theorem zfH{f:Fc}(hf:FcOk f){us:List Nat}(hs:Sel f us):Dom us (cof f us):=by
 have h:=zwm hf hs;exact⟨by simp[cof],zbr hs.inc,fun x hx=>hf.card x (h.subset hx),qao h.length_le hf.le,qao (zjA h fun c hc=>(hf.card c hc).1) hf.prod⟩
theorem zu2{f:Fc}{us:List Nat}(hs:Sel f us):zvO f.vs f.cs us (cof f us):=
 zum (by simp[cof]) (zbr hs.inc) fun u hu=>⟨hs.mem u hu,by unfold cof; rw[ziN hu]⟩
def ix(f:Fc)(us:List Nat)(i:Nat):Nat:=dot (us.map (at_ f.vs (dig f.cs i))) (zax (cof f us))
theorem zw7{f:Fc}(hf:FcOk f){us:List Nat}(hs:Sel f us){i:Nat}(h:i<zab f.cs):ix f us i<zab (cof f us):=
 zlE (zvO.below hf.len (zeZ hf.card h) (zu2 hs))
theorem zw1{f:Fc}(hf:FcOk f){us:List Nat}(hs:Sel f us){i:Nat}:dot (dig f.cs i) (f.vs.map (stp us (cof f us)))=ix f us i:=by
 rw[zrI (zbr hf.inc) (by simp[cof]) (zbr hs.inc)]; rfl
def gop(b:Bool)(x y:Nat):Nat:=bif b then max x y else x+y
def zhN(b:Bool)(f:Fc)(us:List Nat):Nat→Nat→List Nat→Option (List Nat)
 | 0,_,l=>some l
 | m+1,i,l=>bif decide (gop b (l.getD (ix f us i) 0) (f.get i)≤zg7)then zhN b f us m (i+1) (l.set (ix f us i) (gop b (l.getD (ix f us i) 0) (f.get i)))else none
theorem zlU{b:Bool}{f:Fc}{us:List Nat}:∀ {m i:Nat} {l l':List Nat},zhN b f us m i l=some l'→l'.length=l.length
 | 0,_,_,_,h=>by cases h; rfl
 | m+1,i,l,l',h=>by
  unfold zhN at h;cases hd:decide (gop b (l.getD (ix f us i) 0) (f.get i)≤zg7)with
  | false=>rw[hd]at h; cases h
  | true=>rw[hd,cond_true]at h; rw[zlU h,qaI]
theorem zn5{b:Bool}{f:Fc}{us:List Nat}:∀ {m i:Nat} {l l':List Nat},(∀ x∈l,x≤zg7)→zhN b f us m i l=some l'→∀ x∈l',x≤zg7
 | 0,_,_,_,hl,h=>by cases h; exact hl
 | m+1,i,l,l',hl,h=>by
  unfold zhN at h;cases hd:decide (gop b (l.getD (ix f us i) 0) (f.get i)≤zg7)with
  | false=>rw[hd]at h; cases h
  | true=>
   rw[hd,cond_true]at h;refine zn5 (fun x hx=>?_) h;rcases qcd hx with h1 | h1
   ·exact hl x h1
   rw[h1]; exact of_decide_eq_true hd
theorem zm4{f:Fc}(hf:FcOk f){us:List Nat}(hs:Sel f us):us.length≤12:=by
 have:=(zjJ hs.inc hf.inc hs.mem).length_le;have:=hf.len; have:=hf.le;omega
theorem zwo{b:Bool}{x y:Nat}(hx:x≤zg7)(hy:y≤zg7):(bif b then zcY (x:Int) (y:Int)else w64 ((x:Int)+(y:Int)))=((gop b x y:Nat):Int):=by
 have h1:x≤4611686018427387903:=hx;have h2:y≤4611686018427387903:=hy;cases b with
 | true=>
  show zcY (x:Int) (y:Int)=((max x y:Nat):Int);unfold zcY;split<;>omega
 | false=>
  show w64 ((x:Int)+(y:Int))=((x+y:Nat):Int);rw[zf4 (by omega) (by omega)]; omega
theorem zvv{l:List Nat}(h:∀ x∈l,x≤zg7)(k:Nat):l.getD k 0≤zg7:=by
 by_cases hk:k<l.length
 ·rw[qai,qad hk];exact h _ (qat hk)
 rw[qai,qa4 (by omega)];exact qaC _
theorem zzB{xs:List Nat}{k y:Nat}(h:k<xs.length):zeP (iL xs) (k:Int) (y:Int)=some (iL (xs.set k y)):=by
 rw[zes (by rw[zan]; exact h)];simp[iL]
def gat(b:Bool)(f:Fc)(us:List Nat):Option (List Nat):=zhN b f us (zab f.cs) 0 (List.replicate (zab (cof f us)) 0)
theorem znV{n:Nat}:∀ x∈List.replicate n 0,x≤zg7:=fun x hx=>by rw[(qcI.1 hx).2]; exact qaC _
theorem ziG(cs:List Nat):∀(i:Nat) (h:i<cs.length),zab (cs.drop i)=cs[i] * zab (cs.drop (i+1)):=by
 intro i h;rw[qav h]; rfl
theorem zuE{f:Fc}(hf:FcOk f){us:List Nat}(hs:Sel f us):∀(n i a:Nat),i≤us.length→us.length - i<n→a * zab ((cof f us).drop i)≤4096→1≤a →
  zay (iL us) f.T n (a:Int) (i:Int) (iL ((cof f us).take i ++ List.replicate (us.length - i) 0))=some (((a * zab ((cof f us).drop i):Nat):Int),iL (cof f us))
 | 0,_,_,_,h,_,_=>absurd h (qas _)
 | n+1,i,a,hi,hn,ha,h1=>by
  have hl:=zm4 hf hs;have hcl:(cof f us).length=us.length:=by simp[cof]
  unfold zay;rw[zan];rcases qa0 i us.length with h3 | h3
  ·have h3c:i<(cof f us).length:=by omega
   have hcc:=(zfH hf hs).card (cof f us)[i] (qat h3c);have hpos:0<zab ((cof f us).drop (i+1)):=zbK fun c hc=>(zfH hf hs).card c (qcg hc)
   have e0:=ziG (cof f us) i h3c;have ea:a * zab ((cof f us).drop i)=a * (cof f us)[i] * zab ((cof f us).drop (i+1)):=by rw[e0,qbi]
   have hle:a * (cof f us)[i]≤4096:=qao (qaX _ hpos) (ea ▸ ha);have ih:=zuE hf hs n (i+1) (a * (cof f us)[i]) h3 (by omega) (ea ▸ ha) (qcS (by omega) (by omega));have ht:((cof f us).take i).length=i:=by simp; omega
   have e:List.replicate (us.length - i) 0=0 :: List.replicate (us.length - (i+1)) 0:=by
    rw[show us.length - i=(us.length - (i+1))+1 by omega,qaU]
   rw[qcf h3c,qa6,qby]at ih;obtain⟨k,hk⟩:=zjH (hs.mem us[i] (qat h3));have ec:at_ f.vs f.cs us[i]=(cof f us)[i]:=by simp[cof]
   rw[zuF h3,cond_true,za7 h3,qaa,zlz hf,qaa,zdW,hk,show f.T.factor=f.D from rfl,zpt hf hk,qaa,ec,e,zds ht,qaa,zgi ht,qaa,← qaW,zav (by omega),zap (by omega),ea];exact ih
  obtain rfl:i=us.length:=by omega
  rw[zuU,cond_false,qcX,qcl,qa2,qaK (by omega),qb4 (by omega),show zab ([]:List Nat)=1 from rfl,qcU]
theorem zib{g:Nat→Nat}{p:Nat}:∀ {vs:List Nat} {v k:Nat},vs.Nodup→pos vs v=some k→(vs.map g).set k p=vs.map fun u=>bif v == u then p else g u
 | [],_,_,_,h=>by cases h
 | u :: us,v,k,hn,h=>by
  obtain⟨h1,h2⟩:=qbr.1 hn;rw[show pos (u :: us) v=bif u == v then some 0 else(pos us v).map (· + 1)from rfl]at h;cases hb:(u == v)with
  | true=>
   rw[hb,cond_true]at h;cases h;have:u=v:=by simpa using hb
   subst this;rw[qaG,qaG,qb8,beq_self_eq_true,cond_true];refine congrArg (p :: ·) (qbp fun x hx=>?_);rw[show(u == x)=false from beq_false_of_ne (fun e=>h1 (e ▸ hx)),cond_false]
  | false=>
   rw[hb,cond_false]at h;cases hp:pos us v with
   | none=>rw[hp]at h; cases h
   | some j=>
    rw[hp]at h;cases h;rw[qaG,qaG,qcu,zib h2 hp,show(v == u)=false from beq_false_of_ne (fun e=>ne_of_beq_false hb e.symm),cond_false]
theorem zuX{f:Fc}(hf:FcOk f){us:List Nat}(hs:Sel f us):∀(k n:Nat),k≤us.length→k<n →
  zat (iL us) f.T (iL (cof f us)) n ((zab ((cof f us).drop k):Nat):Int) ((k:Int) - 1) (iL (f.vs.map (stp (us.drop k) ((cof f us).drop k))))=some (iL (f.vs.map (stp us (cof f us))))
 | _,0,_,h=>absurd h (qas _)
 | 0,n+1,_,_=>by
  unfold zat;rw[show decide ((0:Int)≤((0:Nat):Int) - 1)=false from rfl,cond_false,qa8,qa8]
 | k+1,n+1,hk,hn=>by
  have hl:=zm4 hf hs;have hD:=zfH hf hs;have hcl:(cof f us).length=us.length:=by simp[cof]
  have h3:k<us.length:=hk;have h3c:k<(cof f us).length:=by omega
  have ih:=zuX hf hs k n (by omega) (by omega);have e0:=ziG (cof f us) k h3c;have hle:zab ((cof f us).drop k)≤4096:=qao (zgx (fun c hc=>(hD.card c hc).1) k) hD.prod;obtain⟨j,hj⟩:=zjH (hs.mem us[k] (qat h3));obtain⟨hj2,_⟩:=zeo hj;have em:(f.vs.map (stp (us.drop (k+1)) ((cof f us).drop (k+1)))).set j (zab ((cof f us).drop (k+1)))=f.vs.map (stp (us.drop k) ((cof f us).drop k)):=by
   rw[zib (zbr hf.inc) hj,qav h3,qav h3c];rfl
  unfold zat;rw[pred_succ,zzY,cond_true,za7 h3,qaa,zlz hf,qaa,zdW,hj,show ixZ (some j)=(j:Int)from rfl,zep (by simpa using hj2),qaa,zzB (by simpa using hj2),qaa,za7 h3c,qaa,← qaW,qaQ,← e0,zav (by omega),zf4 (by omega) (by omega),em];exact ih
theorem zup{f:Fc}(hf:FcOk f){us:List Nat}(hs:Sel f us){x:Int}:∀(m i:Nat) (l:List Nat),i+m=zab f.cs→l.length=zab (cof f us)→(∀ x∈l,x≤zg7)→
  ∃ z,zau f.T x (zk9 f.cs (f.vs.map (stp us (cof f us))) i m) (iL l)=some (match zhN false f us m i l with | some l'=>.go (iL l')| none=>.brk z)
 | 0,i,l,_,_,_=>⟨[],rfl⟩
 | m+1,i,l,h,hl,hb=>by
  have hi:i<zab f.cs:=by omega
  have hk:=zw7 hf hs hi;have hkl:ix f us i<l.length:=by omega
  have g1:=zvv hb (ix f us i);have g2:=Fc.zuC hf i;have e:=zwo (b:=false) g1 g2;rw[cond_false]at e;rw[zi6,zw1 hf hs];have es:zdh ((l.getD (ix f us i) 0:Nat):Int) ((f.get i:Nat):Int)=some (((gop false (l.getD (ix f us i) 0) (f.get i):Nat):Int),decide (gop false (l.getD (ix f us i) 0) (f.get i)≤zg7)):=by
   unfold zdh;rw[e];refine congrArg (fun b:Bool=>some (((gop false (l.getD (ix f us i) 0) (f.get i):Nat):Int),b)) (decide_eq_decide.2 ⟨fun h=>?_,fun h=>?_⟩)
   ·show _≤4611686018427387903; omega
   have:_≤4611686018427387903:=h; omega
  have e1:∀ ys,zau f.T x (((i:Int),((ix f us i:Nat):Int),iL (dig f.cs i)):: ys) (iL l)=bif decide (gop false (l.getD (ix f us i) 0) (f.get i)≤zg7)then zau f.T x ys (iL (l.set (ix f us i) (gop false (l.getD (ix f us i) 0) (f.get i))))else some (.brk (iL (l.set (ix f us i) (gop false (l.getD (ix f us i) 0) (f.get i))))):=by
   intro ys;show(za5 (iL l) ((ix f us i:Nat):Int)).bind _=_;rw[zep hkl,qaa];simp only[];rw[show za5 f.T.factor.w (i:Int)=some ((f.get i:Nat):Int)from zxj hf hi,qaa,es,qaa];simp only[];rw[zzB hkl,qaa]
  rw[e1];unfold zhN;cases hd:decide (gop false (l.getD (ix f us i) 0) (f.get i)≤zg7)with
  | false=>exact⟨_,rfl⟩
  | true=>
   rw[cond_true,cond_true];refine zup hf hs m (i+1) _ (by omega) (by rw[qaI]; exact hl) fun x hx=>?_
   rcases qcd hx with h1 | h1
   ·exact hb x h1
   rw[h1]; exact of_decide_eq_true hd
theorem zwk(f:Fc):f.vs.map (stp [] [])=List.replicate f.vs.length 0:=by
 rw[List.eq_replicate_iff];refine⟨by simp,fun x hx=>?_⟩;obtain⟨v,_,rfl⟩:=qaJ.1 hx;simp[stp]
theorem zxZ{f:Fc}(hf:FcOk f){us:List Nat}(hs:Sel f us)(v:Nat):stp us (cof f us) v≤4096:=by
 have hD:=zfH hf hs;rw[zj4 hD.len];cases hp:pos us v with
 | none=>exact qaC _
 | some k=>
  simp only;by_cases h:k<(zax (cof f us)).length
  ·rw[qai,qad h];exact zoo (fun c hc=>(hD.card c hc).1) hD.prod _ (qat h)
  rw[qai,qa4 (by omega)];exact qaC _
theorem ztc{f:Fc}(hf:FcOk f){us:List Nat}(hs:Sel f us):zaY f.T (iL us)=some (match gat false f us with | some l=>(⟨iL us,iL (cof f us),iL l⟩,0)| none=>(noF,6)):=by
 have hl:=zm4 hf hs;have hD:=zfH hf hs;have hp:=hD.prod;have hpf:=hf.prod;have hfl:=hf.le;have hfl2:=hf.len;have hcl:(cof f us).length=us.length:=by simp[cof]
 unfold zaY;have h1:=zuE hf hs (us.length+2) 0 1 (qaC _) (by omega) (by rw[qa8]; omega) (qam _);rw[qb0,qa9,qcw,zgl,qa8,qbb]at h1;rw[zan,zc6 (by omega),qaa,zaX,show zay (iL us) f.T (us.length+2) 1 0 (List.replicate us.length 0)=_ from h1,qaa];simp only[];rw[zc6 (by omega),qaa,show f.T.factor.vars=iL f.vs from rfl,zan,zc6 (by omega),qaa,zf4 (by omega) (by omega),show(((us.length:Int) - 1) - 0+2).toNat=us.length+1 by omega];have h2:=zuX hf hs us.length (us.length+1) (qam _) (by omega);rw[qbs,qb4 (by omega),zwk,zgl,show zab ([]:List Nat)=1 from rfl]at h2;rw[show zat (iL us) f.T (iL (cof f us)) (us.length+1) 1 ((us.length:Int) - 1) (List.replicate f.vs.length 0)=_ from h2,qaa,zk4,qaa];simp only[];rw[show f.T.factor.cards=iL f.cs from rfl,zuk hf.card hf.le hf.prod (by rw[qaE,hf.len]) (fun s hs2=>by obtain⟨v,_,rfl⟩:=qaJ.1 hs2; exact zxZ hf hs v),qaa];obtain⟨z,h3⟩:=zup hf hs (x:=((zab (cof f us):Nat):Int)) (zab f.cs) 0 (List.replicate (zab (cof f us)) 0) (by omega) (by simp) znV;rw[← zgl,h3,qaa];unfold gat;cases zhN false f us (zab f.cs) 0 (List.replicate (zab (cof f us)) 0)<;> rfl
def rest(f:Fc)(v:Nat):List Nat:=f.vs.filter fun u=>!(u == v)
theorem zgG{f:Fc}(hf:FcOk f)(v:Nat):Sel f (rest f v):=⟨qbu _ hf.inc,fun u hu=>(qbj.1 hu).1⟩
theorem zmS{v:Nat}:∀ {vs:List Nat},v ∉ vs→vs.filter (fun u=>!(u == v))=vs:=fun {vs} h=>List.filter_eq_self.2 fun u hu=>by
 rw[show(u == v)=false from beq_false_of_ne (fun e=>h (e ▸ hu))]; rfl
theorem zm2:∀ {vs:List Nat} {v k:Nat},vs.Nodup→pos vs v=some k→vs.take k ++ vs.drop (k+1)=vs.filter fun u=>!(u == v)
 | [],_,_,_,h=>by cases h
 | u :: us,v,k,hn,h=>by
  obtain⟨h1,h2⟩:=qbr.1 hn;rw[show pos (u :: us) v=bif u == v then some 0 else(pos us v).map (· + 1)from rfl]at h;cases hb:(u == v)with
  | true=>
   rw[hb,cond_true]at h;cases h;have:u=v:=by simpa using hb
   subst this;rw[qcM (by simp),zmS h1];rfl
  | false=>
   rw[hb,cond_false]at h;cases hp:pos us v with
   | none=>rw[hp]at h; cases h
   | some j=>
    rw[hp]at h;cases h;rw[qcN (by rw[hb]; rfl),← zm2 h2 hp];rfl
theorem zzz{xs:List Nat}{k:Nat}(h:k<xs.length)(hl:xs.length<1000):zqN (iL xs) (k:Int) (w64 ((k:Int)+1))=some (iL (xs.take k ++ xs.drop (k+1))):=by
 rw[zap (by omega)];unfold zqN;rw[if_pos ⟨⟨by omega,by omega,by rw[zan]; omega⟩,by rw[zan]; omega⟩,qaD,qaD];simp[iL]
def zz2(o:Option (List Nat))(f:Fc)(us:List Nat):S_api_Factor×Int:=match o with
 | some l=>(⟨iL us,iL (cof f us),iL l⟩,0)
 | none=>(noF,6)
theorem zl1{f:Fc}(hf:FcOk f){v k:Nat}(hp:pos f.vs v=some k):zdq 8 (iL f.vs)=some (iL f.vs)∧zqN (iL f.vs) (k:Int) (w64 ((k:Int)+1))=some (iL (rest f v)):=by
 have h1:=hf.le;have h2:=hf.len;obtain⟨hk,_⟩:=zeo hp;refine⟨zgB (by rw[zan]; omega),?_⟩;rw[zzz hk (by omega),zm2 (zbr hf.inc) hp];rfl
theorem zzn{f:Fc}(hf:FcOk f){v k:Nat}(hp:pos f.vs v=some k):zbL f.D (v:Int)=some (zz2 (gat false f (rest f v)) f (rest f v)):=by
 obtain⟨h1,h2⟩:=zl1 hf hp;unfold zbL zci;rw[zn2 hf,qaa];simp only[];rw[show((0:Int)== 0)=true from rfl,cond_true,zlz hf,qaa,zdW,hp,show ixZ (some k)=(k:Int)from rfl,show decide ((k:Int)<0)=false from decide_eq_false (by omega),cond_false,show f.T.factor.vars=iL f.vs from rfl,h1,qaa,h2,qaa,ztc hf (zgG hf v),qaa];cases gat false f (rest f v)<;> rfl
def gF(f:Fc)(us l:List Nat):Fc:=⟨us,cof f us,l⟩
theorem zza{f:Fc}(hf:FcOk f){us l:List Nat}(hs:Sel f us){b:Bool}(h:gat b f us=some l):FcOk (gF f us l):=by
 have hD:=zfH hf hs;exact⟨hD.len,hD.le,hD.card,hD.prod,(zlU h).trans (by simp[gF]),hs.inc,fun v hv=>hf.var v (hs.mem v hv),zn5 znV h⟩
def zgJ:List Nat→Nat→Nat→Nat→Nat
 | [],_,_,i=>i
 | _ :: cs,0,p,i=>p * zab cs+i
 | _ :: cs,k+1,p,i=>(i / zab (cs.eraseIdx k))* zab cs+zgJ cs k p (i % zab (cs.eraseIdx k))
theorem zd9{cs:List Nat}(h:∀ c∈cs,1≤c∧c≤8)(k:Nat):∀ c∈cs.eraseIdx k,1≤c∧c≤8:=fun c hc=>h c (List.mem_of_mem_eraseIdx hc)
theorem zjM:∀ {cs:List Nat} {k p i:Nat},(∀ c∈cs,1≤c∧c≤8)→(hk:k<cs.length)→p<cs[k]→i<zab (cs.eraseIdx k)→zgJ cs k p i<zab cs
 | [],k,_,_,_,hk,_,_=>by simp at hk
 | c :: cs,0,p,i,_,_,hp,hi=>by
  have h1:(p+1)* zab cs≤c * zab cs:=qaq _ hp;have h2:i<zab cs:=hi;show p * zab cs+i<c * zab cs;rw[qaH]at h1;omega
 | c :: cs,k+1,p,i,hc,hk,hp,hi=>by
  have hc2:=fun d hd=>hc d (qak c hd)
  have hi2:i<c * zab (cs.eraseIdx k):=hi;have hq:0<zab (cs.eraseIdx k):=zbK (zd9 hc2 k);have h1:=zjM hc2 (by simpa using hk) hp (qbf i hq);have h2:i / zab (cs.eraseIdx k)<c:=qbC (by rwa [qaQ]);have h3:(i / zab (cs.eraseIdx k)+1)* zab cs≤c * zab cs:=qaq _ h2;show i / zab (cs.eraseIdx k)* zab cs+zgJ cs k p (i % zab (cs.eraseIdx k))<c * zab cs;rw[qaH]at h3;omega
theorem dm1{a b P:Nat}(h:b<P):(a * P+b) / P=a:=by
 rw[qbQ,qcb _ _ (by omega),qbO h,qaO]
theorem dm2{a b P:Nat}(h:b<P):(a * P+b) % P=b:=by
 rw[qbQ,qbo,qaZ h]
theorem zjr:∀ {cs:List Nat} {k p i:Nat},(∀ c∈cs,1≤c∧c≤8)→(hk:k<cs.length)→p<cs[k]→i<zab (cs.eraseIdx k)→(dig cs (zgJ cs k p i)).getD k 0=p∧(dig cs (zgJ cs k p i)).eraseIdx k=dig (cs.eraseIdx k) i
 | [],k,_,_,_,hk,_,_=>by simp at hk
 | c :: cs,0,p,i,_,_,hp,hi=>by
  have hi2:i<zab cs:=hi;rw[show dig (c :: cs) (zgJ (c :: cs) 0 p i)=(p * zab cs+i) / zab cs :: dig cs ((p * zab cs+i) % zab cs)from rfl,dm1 hi2,dm2 hi2];exact⟨rfl,rfl⟩
 | c :: cs,k+1,p,i,hc,hk,hp,hi=>by
  have hc2:=fun d hd=>hc d (qak c hd)
  have hq:0<zab (cs.eraseIdx k):=zbK (zd9 hc2 k);have h1:=zjM hc2 (by simpa using hk) hp (qbf i hq);obtain⟨h2,h3⟩:=zjr hc2 (by simpa using hk) hp (qbf i hq);rw[show dig (c :: cs) (zgJ (c :: cs) (k+1) p i)=(i / zab (cs.eraseIdx k)* zab cs+zgJ cs k p (i % zab (cs.eraseIdx k))) / zab cs :: dig cs ((i / zab (cs.eraseIdx k)* zab cs+zgJ cs k p (i % zab (cs.eraseIdx k))) % zab cs)from rfl,dm1 h1,dm2 h1];refine⟨by rw[List.getD_cons_succ]; exact h2,?_⟩;rw[qcO,h3];rfl
theorem zoZ:∀ {cs:List Nat} {k p j:Nat},(∀ c∈cs,1≤c∧c≤8)→(hk:k<cs.length)→j<zab cs→(dig cs j).getD k 0=p→∃ i,i<zab (cs.eraseIdx k)∧zgJ cs k p i=j
 | [],k,_,_,_,hk,_,_=>by simp at hk
 | c :: cs,0,p,j,hc,_,hj,hd=>by
  have hp:0<zab cs:=zbK fun d hd=>hc d (qak c hd)
  have e:j / zab cs=p:=hd;refine⟨j % zab cs,qbf _ hp,?_⟩;show p * zab cs+j % zab cs=j;rw[← e,qaQ,qbV]
 | c :: cs,k+1,p,j,hc,hk,hj,hd=>by
  have hc2:=fun d hd=>hc d (qak c hd)
  have hp:0<zab cs:=zbK hc2;have hj2:j<c * zab cs:=hj;have e:(dig cs (j % zab cs)).getD k 0=p:=by rw[← hd]; rfl
  obtain⟨i,h1,h2⟩:=zoZ hc2 (by simpa using hk) (qbf _ hp) e;have ha:j / zab cs<c:=qbC (by rwa [qaQ]);refine⟨j / zab cs * zab (cs.eraseIdx k)+i,?_,?_⟩
  ·show _<c * zab (cs.eraseIdx k);have h3:(j / zab cs+1)* zab (cs.eraseIdx k)≤c * zab (cs.eraseIdx k):=qaq _ ha;rw[qaH]at h3;omega
  show(j / zab cs * zab (cs.eraseIdx k)+i) / zab (cs.eraseIdx k)* zab cs+zgJ cs k p ((j / zab cs * zab (cs.eraseIdx k)+i) % zab (cs.eraseIdx k))=j;rw[dm1 h1,dm2 h1,h2,qaQ,qbV]
theorem zoV:∀ {cs:List Nat} {k p i:Nat},(∀ c∈cs,1≤c∧c≤8)→(hk:k<cs.length)→i<zab (cs.eraseIdx k)→dot (dig (cs.eraseIdx k) i) ((zax cs).eraseIdx k)+p * (zax cs).getD k 0=zgJ cs k p i
 | [],k,_,_,_,hk,_=>by simp at hk
 | c :: cs,0,p,i,hc,_,hi=>by
  have h:dot (dig cs i) (zax cs)=i:=zgT (fun d hd=>hc d (qak c hd)) hi;show dot (dig cs i) (zax cs)+p * zab cs=p * zab cs+i;omega
 | c :: cs,k+1,p,i,hc,hk,hi=>by
  have hc2:=fun d hd=>hc d (qak c hd)
  have hq:0<zab (cs.eraseIdx k):=zbK (zd9 hc2 k);have ih:=zoV (p:=p) hc2 (show k<cs.length by simpa using hk) (qbf i hq);rw[qcO,show zax (c :: cs)=zab cs :: zax cs from rfl,qcO,List.getD_cons_succ];show i / zab (cs.eraseIdx k)* zab cs+dot (dig (cs.eraseIdx k) (i % zab (cs.eraseIdx k))) ((zax cs).eraseIdx k)+p * (zax cs).getD k 0=i / zab (cs.eraseIdx k)* zab cs+zgJ cs k p (i % zab (cs.eraseIdx k));omega
theorem zvm{us cs:List Nat}(hn:us.Nodup)(hl:us.length=cs.length):us.map (stp us cs)=zax cs:=by
 refine qbP (by rw[qaE,zfp,hl]) fun i h1 h2=>?_
 have hi:i<us.length:=by simpa using h1
 have hp:∀ {xs:List Nat} {i:Nat} (hn:xs.Nodup) (h:i<xs.length),pos xs xs[i]=some i:=by
  intro xs;induction xs with
  | nil=>intro i _ h; simp at h
  | cons x xs ih=>
   intro i hn h;obtain⟨h1,h2⟩:=qbr.1 hn;cases i with
   | zero=>rw[show(x :: xs)[0]=x from rfl,show pos (x :: xs) x=bif x == x then some 0 else(pos xs x).map (· + 1)from rfl,beq_self_eq_true,cond_true]
   | succ i=>
    have hi:i<xs.length:=by simpa using h
    rw[show(x :: xs)[i+1]=xs[i]from rfl,show pos (x :: xs) xs[i]=bif x == xs[i]then some 0 else(pos xs xs[i]).map (· + 1)from rfl,show(x == xs[i])=false from beq_false_of_ne (fun e=>h1 (e ▸ qat hi)),cond_false,ih h2 hi];rfl
 rw[qc1,zj4 hl,hp hn hi];simp only;rw[qai,qad h2];rfl
theorem erase_eq{α:Type}(xs:List α)(k:Nat):xs.take k ++ xs.drop (k+1)=xs.eraseIdx k:=(List.eraseIdx_eq_take_drop_succ xs k).symm
theorem ze9{α β:Type}(g:α→β)(xs:List α)(k:Nat):(xs.eraseIdx k).map g=(xs.map g).eraseIdx k:=by
 rw[← erase_eq,← erase_eq,qbF,List.map_take,List.map_drop]
theorem zh6{f:Fc}(hf:FcOk f){v k:Nat}(hp:pos f.vs v=some k):rest f v=f.vs.eraseIdx k:=by
 rw[← erase_eq,zm2 (zbr hf.inc) hp]; rfl
theorem zhl{f:Fc}(hf:FcOk f){v k:Nat}(hp:pos f.vs v=some k):cof f (rest f v)=f.cs.eraseIdx k:=by
 unfold cof;rw[zh6 hf hp,ze9,zou (zbr hf.inc) hf.len]
theorem ziF:∀ {cs:List Nat} {k:Nat} (h:k<cs.length),zab cs=cs[k] * zab (cs.eraseIdx k)
 | [],_,h=>by simp at h
 | c :: cs,0,_=>rfl
 | c :: cs,k+1,h=>by
  have hk:k<cs.length:=by simpa using h
  have ih:=ziF hk;show c * zab cs=cs[k] * (c * zab (cs.eraseIdx k));rw[ih,Nat.mul_left_comm]
def fixF(f:Fc)(v k p:Nat):Fc:=⟨rest f v,f.cs.eraseIdx k,(List.range' 0 (zab (f.cs.eraseIdx k))).map fun j=>f.get (zgJ f.cs k p j)⟩
theorem zuJ{f:Fc}(hf:FcOk f){k p:Nat}{q:Int}(hk:k<f.cs.length)(hp:p<f.cs[k]):∀(m i:Nat) (ys:List Nat),i+m=zab (f.cs.eraseIdx k)→ys.length=i →
  zbU (f.T,0) (k:Int) (p:Int) q (zk9 (f.cs.eraseIdx k) ((zax f.cs).eraseIdx k) i m) (iL (ys ++ List.replicate m 0))=some (iL (ys ++ (List.range' i m).map fun j=>f.get (zgJ f.cs k p j)))
 | 0,i,ys,_,_=>by simp[zk9,zbU]
 | m+1,i,ys,h,hy=>by
  have hi:i<zab (f.cs.eraseIdx k):=by omega
  have hpf:=hf.prod;have h1:=zjM hf.card hk hp hi;have h2:=zoV (p:=p) hf.card hk hi;have hks:k<(zax f.cs).length:=by rw[zfp]; exact hk
  rw[zi6];show(za5 (iL (zax f.cs)) (k:Int)).bind _=_;rw[zep hks,qaa];simp only[];rw[← qaW,zav (by omega),← qci,h2,zav (by omega),show za5 (f.T,(0:Int)).1.factor.w ((zgJ f.cs k p i:Nat):Int)=some ((f.get (zgJ f.cs k p i):Nat):Int)from zxj hf h1,qaa];rw[qaU,zds hy,qaa,zgi hy,qaa,show ys ++ f.get (zgJ f.cs k p i):: List.replicate m 0=(ys ++ [f.get (zgJ f.cs k p i)])++ List.replicate m 0 by simp,zuJ hf hk hp m (i+1) _ (by omega) (by simp[hy]),qcp,qaG,qa6,qby]
theorem zy5{f:Fc}(hf:FcOk f){v k p:Nat}(hv:pos f.vs v=some k)(hk:k<f.cs.length)(hp:p<f.cs[k]):zcK f.D (v:Int) (p:Int)=some ((fixF f v k p).D,0):=by
 have hl:=hf.le;have hpf:=hf.prod;have hck:=hf.card f.cs[k] (qat hk);have e0:=ziF hk;have hE:zab (f.cs.eraseIdx k)≤zab f.cs:=by rw[e0]; exact qcs _ (by omega)
 obtain⟨h1,h2⟩:=zl1 hf hv;have hn:=zbr hf.inc;have hrl:(rest f v).length≤100:=by
  have:=(qcY (fun u=>!(u == v)) f.vs); have:=hf.len; unfold rest; omega
 have hel:(f.cs.eraseIdx k).length≤12:=qao (List.eraseIdx_sublist _ _).length_le hl;unfold zcK;rw[zn2 hf,qaa];simp only[]
 rw[show((0:Int)== 0)=true from rfl,cond_true,zlz hf,qaa,zdW,hv,show ixZ (some k)=(k:Int)from rfl,show decide ((k:Int)<0)=false from decide_eq_false (by omega),cond_false,show decide ((p:Int)<0)=false from decide_eq_false (by omega),cond_false,show f.T.factor.cards=iL f.cs from rfl,za7 hk,qaa,show decide (((f.cs[k]:Nat):Int)≤(p:Int))=false from decide_eq_false (by omega),qaa,cond_false,show f.T.factor.vars=iL f.vs from rfl,h1,qaa,h2,qaa,zgB (by rw[zan]; omega),qaa,zzz hk (by omega),erase_eq,qaa,qaa,show f.T.factor.w=iL f.ws from rfl,zan,hf.size,zyK (by omega) (by show _≤4611686018427387903; omega),qaa,
  show zab f.cs / f.cs[k]=zab (f.cs.eraseIdx k) by rw[e0,Nat.mul_div_cancel_left _ (by omega)],zc6 (by omega),qaa,zv1 hf hrl,qaa,zk4,qaa]
 simp only[];have es:(rest f v).map (stp f.vs f.cs)=(zax f.cs).eraseIdx k:=by rw[zh6 hf hv,ze9,zvm hn hf.len]
 rw[es,zuk (zd9 hf.card k) hel (by omega) (by rw[List.length_eraseIdx,List.length_eraseIdx,zfp]) (fun s hs=>zoo (fun c hc=>(hf.card c hc).1) hf.prod s (List.mem_of_mem_eraseIdx hs)),qaa];have e2:=zuJ hf (q:=((zab (f.cs.eraseIdx k):Nat):Int)) hk hp (zab (f.cs.eraseIdx k)) 0 [] (by omega) rfl;rw[qa9]at e2;rw[← zgl,e2,qaa];rfl
theorem zv3{f:Fc}(hf:FcOk f){v k:Nat}(hv:pos f.vs v=some k)(hk:k<f.cs.length)(p:Nat):FcOk (fixF f v k p):=by
 have hs:=zgG hf v;have hD:=zfH hf hs;rw[zhl hf hv]at hD;refine⟨hD.len,hD.le,hD.card,hD.prod,by simp[fixF],hs.inc,fun u hu=>hf.var u (hs.mem u hu),fun w hw=>?_⟩;obtain⟨j,_,rfl⟩:=qaJ.1 hw;exact Fc.zuC hf _
section
variable {p1 p2 p4:Int} {x9:S_api_Factor}
end
section
variable {p1 p2 p4:Int} {x y:S_api_Factor}
end
end Go.Dc
