/-
 Plain laws: Divide, by the program and by the reference. Conditions: none.
-/
import Derived.Test.YtnfgibomhkbcpaaNtJ13
import Derived.Test.YtnfgibomhkbcpaaNtJ8
import Derived.Test.YtnfgibomhkbcpaaNtJ6
set_option linter.unusedSimpArgs false
set_option linter.unusedVariables false
namespace Go.Dc
open Go Go.Mx Go.Lx
theorem zBP(b:Nat):((b:Int)== 0)=(b == 0):=znN b 0
theorem zz8{a b:Nat}(hb:¬ b=0):znC (a:Int) (b:Int)=some ((a % b:Nat):Int):=by
 unfold znC;rw[zBP,beq_false_of_ne hb,cond_false]; rfl
def Fc.get(f:Fc)(j:Nat):Nat:=f.ws.getD j 0
theorem zz9(n:Nat):IntKind.u8.wrap (n:Int)=((n % 256:Nat):Int):=by
 simp only[IntKind.wrap,IntKind.bits,IntKind.signed]; simp
theorem zue{n:Nat}(h:n<256):IntKind.u8.wrap (n:Int)=(n:Int):=by
 rw[zz9,qa0 h]
theorem zBb{a b:Nat}(ha:a<256)(hb:b<256):zkO .u8 (a:Int) (b:Int)=((a &&& b:Nat):Int):=by
 have h:(BitVec.ofInt 8 (a:Int) &&& BitVec.ofInt 8 (b:Int)).toNat=a &&& b:=by
  simp only[qcf,BitVec.toNat_and,BitVec.toNat_ofNat];rw[qa0 ha,qa0 hb]
 show IntKind.u8.wrap ((BitVec.ofInt 8 (a:Int) &&& BitVec.ofInt 8 (b:Int)).toNat:Int)=_;rw[h];exact zue (qca Nat.and_le_left ha)
theorem zB8{a v:Nat}(hv:v<8):ziT .u8 (a:Int) (v:Int)=some ((a >>> v:Nat):Int):=by
 unfold ziT;rw[if_pos (by omega)];congr 1
 have h1:min (v:Int).toNat IntKind.u8.bits=v:=by
  rw[show IntKind.u8.bits=8 from rfl,qaH]; exact qbN (by omega)
 rw[h1,qbx];have h2:((2:Int) ^ v)=((2 ^ v:Nat):Int):=by simp
 rw[h2,qcC _ (qby _)];rfl
theorem zBL{a v:Nat}(ha:a<256)(hv:v<8):∃ q:Int,ziT .u8 (a:Int) (v:Int)=some q∧(zkO .u8 q 1 == 1)=a.testBit v:=by
 refine⟨_,zB8 hv,?_⟩;rw[show(1:Int)=((1:Nat):Int)from rfl,zBb (qca (by rw[qbx]; exact qc8 _ _) ha) (by decide),zAK,znN];cases a.testBit v<;>rfl
def zgx(v:Nat):Nat:=[2,3,1,2,2].getD v 0
def drV(w:Nat):List Nat:=(List.range' 0 5).filter w.testBit
def drC(w:Nat):List Nat:=(drV w).map zgx
theorem zku{w:Nat}(hw:w<256){n:List Int}{b:Bool}:∀(m v k:Nat) (x y:List Nat),v+m=5→x.length≤v→y.length≤v→m<k →
  za9 ⟨(w:Int),n,b⟩ k (v:Int) (iL x) (iL y)=some (iL (x ++ (List.range' v m).filter w.testBit),iL (y ++ ((List.range' v m).filter w.testBit).map zgx))
 | _,_,0,_,_,_,_,_,h=>absurd h (qar _)
 | 0,v,k+1,x,y,h,_,_,_=>by
  unfold za9;rw[show decide ((v:Int)<5)=false from decide_eq_false (by omega),cond_false];simp
 | m+1,v,k+1,x,y,h,hx,hy,hk=>by
  obtain⟨q,h1,h2⟩:=zBL (a:=w) (v:=v) hw (by omega);unfold za9;rw[show decide ((v:Int)<5)=true from decide_eq_true (by omega),cond_true,zb1 (by omega),h1,qaa,h2,qcp];cases hb:w.testBit v with
  | false=>
   rw[cond_false,qaa];simp only[];rw[zam (by omega),zku hw m (v+1) k _ _ (by omega) (by omega) (by omega) (by omega),List.filter_cons_of_neg (by rw[hb]; decide)]
  | true=>
   rw[cond_true,zwm (by omega),qaa,show zaZ ([2,3,1,2,2]:List Int) (v:Int)=some ((zgx v:Nat):Int)from zeG (xs:=[2,3,1,2,2]) (by simp; omega),qaa,zwm (by omega),qaa,qaa];simp only[];rw[zam (by omega),zku hw m (v+1) k _ _ (by omega) (by simp; omega) (by simp; omega) (by omega),List.filter_cons_of_pos hb];simp
def zt9(n:List Nat)(j:Nat):Nat:=bif n.length == 0 then 1 else n.getD (j % n.length) 0 % 10
theorem zwd(n:List Nat)(j:Nat):zt9 n j≤9:=by
 unfold zt9;cases(n.length == 0)
 ·rw[cond_false]; omega
 rw[cond_true]; omega
def zxQ(b:Bool):Nat:=bif b then 1000000000000000 else 1
theorem zsr{n:List Nat}(j:Nat):((bif (decide (0<((iL n).length:Int)))then((znC (j:Int) ((iL n).length:Int)).bind fun q16=>(zaZ (iL n) q16).bind fun x18=>some (w64 (x18.tmod 10)))else some 1:Option Int))=some ((zt9 n j:Nat):Int):=by
 unfold zt9;rw[zan];by_cases h:n.length=0
 ·rw[h,show decide ((0:Int)<((0:Nat):Int))=false from rfl,cond_false,show((0:Nat)== 0)=true from rfl,cond_true]; rfl
 rw[show decide ((0:Int)<(n.length:Int))=true from decide_eq_true (by omega),cond_true,beq_false_of_ne h,cond_false,zz8 h,qaa,zeG (qbw _ (by omega)),qaa];congr 1
 rw[show((n.getD (j % n.length) 0:Nat):Int).tmod 10=((n.getD (j % n.length) 0 % 10:Nat):Int)from rfl,zaq (by omega)]
theorem zoZ{n:List Nat}{c:List Nat}{w:Int}{b b2:Bool}(hc:zbw (iL c)=true)(hp:zac c≤4096):∀(m i k:Nat) (ys:List Nat),i+m=zac c→ys.length=i→m<k →
  zba (iL c) ⟨w,iL n,b⟩ ((zxQ b2:Nat):Int) k (i:Int) (iL ys)=some (iL (ys ++ (List.range' i m).map fun j=>zt9 n j * zxQ b2))
 | _,_,0,_,_,_,h=>absurd h (qar _)
 | 0,i,k+1,ys,h,hy,_=>by
  unfold zba;rw[zol hc,qaa,zen];obtain rfl:i=zac c:=by omega
  rw[ztP,cond_false];simp
 | m+1,i,k+1,ys,h,hy,hk=>by
  have h1:=zwd n i;have h2:zt9 n i * zxQ b2≤9000000000000000:=by
   cases b2
   ·show zt9 n i * 1≤_; omega
   show zt9 n i * 1000000000000000≤_; omega
  unfold zba;rw[zol hc,qaa,zen,zup (by omega),cond_true,zsr,qaa,← qaG,zaq (by omega),zwm (by omega),qaa,zam (by omega),zoZ hc hp m (i+1) k _ (by omega) (by simp[hy]) (by omega),qcp];simp
def drF(w:Nat)(n:List Nat)(b:Bool):Fc:=⟨drV w,drC w,(List.range' 0 (zac (drC w))).map fun j=>zt9 n j * zxQ b⟩
theorem zyx:∀ w,w<256→zbw (iL (drC w))=true∧zac (drC w)≤24:=by decide +kernel
theorem zwn{w:Nat}(hw:w<256)(n:List Nat)(b:Bool):zc1 5000 ⟨(w:Int),iL n,b⟩=some (drF w n b).D:=by
 obtain⟨h1,h2⟩:=zyx w hw;unfold zc1;have e1:=zku hw (n:=iL n) (b:=b) 5 0 ((5 - 0+2:Int).toNat) [] [] rfl (qal _) (qal _) (by decide);rw[show za9 ⟨(w:Int),iL n,b⟩ ((5 - 0+2:Int).toNat) 0 [] []=_ from e1,qaa];simp only[];have e2:(bif b then some ((1000000000000000:Int),true)else some (1,false))=some (((zxQ b:Nat):Int),b):=by cases b<;>rfl
 rw[e2,qaa];simp only[];have e3:=zoZ (n:=n) (c:=drC w) (w:=(w:Int)) (b:=b) (b2:=b) h1 (by omega) (zac (drC w)) 0 5000 [] (by omega) rfl (by omega);rw[show zba (iL ([]++ ((List.range' 0 5).filter w.testBit).map zgx)) ⟨(w:Int),iL n,b⟩ ((zxQ b:Nat):Int) 5000 0 []=_ from e3];rfl
theorem zxk{f g:Fc}(hf:FcOk f)(hg:FcOk g)(hc:zbw (iL (ucs f g))=true)(hk:znv f g=true):FcOk (ztI f g):=by
 have hD:=znr hc;refine⟨hD.len,hD.le,hD.zaE,hD.prod,by simp[ztI],zhk f g,zvD,?_⟩;intro x hx;obtain⟨j,hj,rfl⟩:=qaF.1 hx;exact of_decide_eq_true (qbL.1 hk j hj)
section
variable {r4 r6 r8 r10 r12 r14 r16 r18:S_api_Factor}
end
structure DrOk (d:S_haruspexref03_Draft):Prop where
 which:∃ w:Nat,w<256∧d.which=(w:Int)
 n:∃ ns:List Nat,d.n=iL ns
theorem DrOk.s{d:S_haruspexref03_Draft}(h:DrOk d):∃ w n,w<256∧d=⟨((w:Nat):Int),iL n,d.large⟩∧zc1 5000 d=some (drF w n d.large).D:=by
 obtain⟨w,hw,e1⟩:=h.which;obtain⟨n,e2⟩:=h.n;obtain⟨a,b,c⟩:=d;simp only at e1 e2;subst e1 e2;exact⟨w,n,hw,rfl,zwn hw n c⟩
theorem zng:∀ {a b:List Nat},a.Pairwise (· < ·)→b.Pairwise (· < ·)→(∀ x∈a,x∈b)→a.Sublist b
 | [],b,_,_,_=>List.nil_sublist b
 | a :: xs,[],_,_,h=>by have:=h a qan; simp at this
 | a :: xs,b :: bs,ha,hb,h=>by
  obtain⟨ha1,ha2⟩:=qbg.1 ha;obtain⟨hb1,hb2⟩:=qbg.1 hb;rcases qaK.1 (h a qan)with e | h1
  ·subst e;refine(zng ha2 hb2 fun x hx=>?_).cons_cons a;rcases qaK.1 (h x (qaj _ hx))with e | h2
   ·have:=ha1 x hx; omega
   exact h2
  refine(zng ha hb2 fun x hx=>?_).cons b;rcases qaK.1 (h x hx)with e | h2
  ·have h3:=hb1 a h1;rcases qaK.1 hx with e2 | h4
   ·omega
   have:=ha1 x h4; omega
  exact h2
theorem zlh:∀ {a b:List Nat},a.Sublist b→(∀ c∈b,1≤c)→zac a≤zac b
 | _,_,.slnil,_=>qal _
 | a,b :: bs,.cons _ h,hb=>by
  have h1:=zlh h fun c hc=>hb c (qaj _ hc)
  have h2:=qbc (hb b qan) (qal (zac bs));show zac a≤b * zac bs;omega
 | a :: xs,_ :: bs,.cons_cons _ h,hb=>qbc (qal a) (zlh h fun c hc=>hb c (qaj _ hc))
section
variable {p1 p2 p4:Int} {x9:S_api_Factor}
end
section
variable {p1 p2 p4:Int} {x y:S_api_Factor}
end
end Go.Dc
