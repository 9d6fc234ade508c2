/-
 Plain laws: Divide, by the program and by the reference. Conditions: none.
-/
import Derived.Test.YtnfgibomhkbcpaaNfJ14
import Derived.Test.YtnfgibomhkbcpaaNfJ7
import Derived.Test.YtnfgibomhkbcpaaNfQt
import Derived.Test.YtnfgibomhkbcpaaNfJ11
set_option linter.unusedSimpArgs false
set_option linter.unusedVariables false
namespace Go.Dc
open Go Go.Mx Go.Lx
theorem zA9(b:Nat):((b:Int)== 0)=(b == 0):=zm4 b 0
theorem zyM{a b:Nat}(hb:¬ b=0):zoO (a:Int) (b:Int)=some ((a % b:Nat):Int):=by
 unfold zoO;rw[zA9,beq_false_of_ne hb,cond_false]; rfl
theorem zyN(n:Nat):IntKind.u8.wrap (n:Int)=((n % 256:Nat):Int):=by
 simp only[IntKind.wrap,IntKind.bits,IntKind.signed]; simp
theorem ztf{n:Nat}(h:n<256):IntKind.u8.wrap (n:Int)=(n:Int):=by
 rw[zyN,qa7 h]
theorem zz2{a b:Nat}(ha:a<256)(hb:b<256):zo1 .u8 (a:Int) (b:Int)=((a &&& b:Nat):Int):=by
 have h:(BitVec.ofInt 8 (a:Int) &&& BitVec.ofInt 8 (b:Int)).toNat=a &&& b:=by
  simp only[qci,BitVec.toNat_and,BitVec.toNat_ofNat];rw[qa7 ha,qa7 hb]
 show IntKind.u8.wrap ((BitVec.ofInt 8 (a:Int) &&& BitVec.ofInt 8 (b:Int)).toNat:Int)=_;rw[h];exact ztf (qbC Nat.and_le_left ha)
theorem zzY{a v:Nat}(hv:v<8):zla .u8 (a:Int) (v:Int)=some ((a >>> v:Nat):Int):=by
 unfold zla;rw[if_pos (by omega)];congr 1
 have h1:min (v:Int).toNat IntKind.u8.bits=v:=by
  rw[show IntKind.u8.bits=8 from rfl,qaF]; exact qbE (by omega)
 rw[h1,qbG];have h2:((2:Int) ^ v)=((2 ^ v:Nat):Int):=by simp
 rw[h2,qcE _ (qbs _)];rfl
theorem zA7{a v:Nat}(ha:a<256)(hv:v<8):∃ q:Int,zla .u8 (a:Int) (v:Int)=some q∧(zo1 .u8 q 1 == 1)=a.testBit v:=by
 refine⟨_,zzY hv,?_⟩;rw[show(1:Int)=((1:Nat):Int)from rfl,zz2 (qbC (by rw[qbG]; exact qc8 _ _) ha) (by decide),zzD,zm4];cases a.testBit v<;>rfl
def ztt(v:Nat):Nat:=[2,3,1,2,2].getD v 0
def drV(w:Nat):List Nat:=(List.range' 0 5).filter w.testBit
def drC(w:Nat):List Nat:=(drV w).map ztt
theorem zkh{w:Nat}(hw:w<256){n:List Int}{b:Bool}:∀(m v k:Nat) (x y:List Nat),v+m=5→x.length≤v→y.length≤v→m<k →
  za9 ⟨(w:Int),n,b⟩ k (v:Int) (iL x) (iL y)=some (iL (x ++ (List.range' v m).filter w.testBit),iL (y ++ ((List.range' v m).filter w.testBit).map ztt))
 | _,_,0,_,_,_,_,_,h=>absurd h (qam _)
 | 0,v,k+1,x,y,h,_,_,_=>by
  unfold za9;rw[show decide ((v:Int)<5)=false from decide_eq_false (by omega),cond_false];simp
 | m+1,v,k+1,x,y,h,hx,hy,hk=>by
  obtain⟨q,h1,h2⟩:=zA7 (a:=w) (v:=v) hw (by omega);unfold za9;rw[show decide ((v:Int)<5)=true from decide_eq_true (by omega),cond_true,zd3 (by omega),h1,qaa,h2,qc3];cases hb:w.testBit v with
  | false=>
   rw[cond_false,qaa];simp only[];rw[zao (by omega),zkh hw m (v+1) k _ _ (by omega) (by omega) (by omega) (by omega),List.filter_cons_of_neg (by rw[hb]; decide)]
  | true=>
   rw[cond_true,zvC (by omega),qaa,show zaP ([2,3,1,2,2]:List Int) (v:Int)=some ((ztt v:Nat):Int)from zj8 (xs:=[2,3,1,2,2]) (by simp; omega),qaa,zvC (by omega),qaa,qaa];simp only[];rw[zao (by omega),zkh hw m (v+1) k _ _ (by omega) (by simp; omega) (by simp; omega) (by omega),List.filter_cons_of_pos hb];simp
def ztc(n:List Nat)(j:Nat):Nat:=bif n.length == 0 then 1 else n.getD (j % n.length) 0 % 10
theorem zvF(n:List Nat)(j:Nat):ztc n j≤9:=by
 unfold ztc;cases(n.length == 0)
 ·rw[cond_false]; omega
 rw[cond_true]; omega
def zwd(b:Bool):Nat:=bif b then 1000000000000000 else 1
theorem zrN{n:List Nat}(j:Nat):((bif (decide (0<((iL n).length:Int)))then((zoO (j:Int) ((iL n).length:Int)).bind fun q16=>(zaP (iL n) q16).bind fun x18=>some (w64 (x18.tmod 10)))else some 1:Option Int))=some ((ztc n j:Nat):Int):=by
 unfold ztc;rw[zaq];by_cases h:n.length=0
 ·rw[h,show decide ((0:Int)<((0:Nat):Int))=false from rfl,cond_false,show((0:Nat)== 0)=true from rfl,cond_true]; rfl
 rw[show decide ((0:Int)<(n.length:Int))=true from decide_eq_true (by omega),cond_true,beq_false_of_ne h,cond_false,zyM h,qaa,zj8 (qbm _ (by omega)),qaa];congr 1
 rw[show((n.getD (j % n.length) 0:Nat):Int).tmod 10=((n.getD (j % n.length) 0 % 10:Nat):Int)from rfl,zaA (by omega)]
theorem znP{n:List Nat}{c:List Nat}{w:Int}{b b2:Bool}(hc:zji (iL c)=true)(hp:zai c≤4096):∀(m i k:Nat) (ys:List Nat),i+m=zai c→ys.length=i→m<k →
  zbb (iL c) ⟨w,iL n,b⟩ ((zwd b2:Nat):Int) k (i:Int) (iL ys)=some (iL (ys ++ (List.range' i m).map fun j=>ztc n j * zwd b2))
 | _,_,0,_,_,_,h=>absurd h (qam _)
 | 0,i,k+1,ys,h,hy,_=>by
  unfold zbb;rw[zn9 hc,qaa,zkV];obtain rfl:i=zai c:=by omega
  rw[zzU,cond_false];simp
 | m+1,i,k+1,ys,h,hy,hk=>by
  have h1:=zvF n i;have h2:ztc n i * zwd b2≤9000000000000000:=by
   cases b2
   ·show ztc n i * 1≤_; omega
   show ztc n i * 1000000000000000≤_; omega
  unfold zbb;rw[zn9 hc,qaa,zkV,zzE (by omega),cond_true,zrN,qaa,← qa4,zaA (by omega),zvC (by omega),qaa,zao (by omega),znP hc hp m (i+1) k _ (by omega) (by simp[hy]) (by omega),qc3];simp
def drF(w:Nat)(n:List Nat)(b:Bool):Fc:=⟨drV w,drC w,(List.range' 0 (zai (drC w))).map fun j=>ztc n j * zwd b⟩
theorem zwj:∀ w,w<256→zji (iL (drC w))=true∧zai (drC w)≤24:=by decide +kernel
theorem zv2{w:Nat}(hw:w<256)(n:List Nat)(b:Bool):zc3 5000 ⟨(w:Int),iL n,b⟩=some (drF w n b).D:=by
 obtain⟨h1,h2⟩:=zwj w hw;unfold zc3;have e1:=zkh hw (n:=iL n) (b:=b) 5 0 ((5 - 0+2:Int).toNat) [] [] rfl (qaj _) (qaj _) (by decide);rw[show za9 ⟨(w:Int),iL n,b⟩ ((5 - 0+2:Int).toNat) 0 [] []=_ from e1,qaa];simp only[];have e2:(bif b then some ((1000000000000000:Int),true)else some (1,false))=some (((zwd b:Nat):Int),b):=by cases b<;>rfl
 rw[e2,qaa];simp only[];have e3:=znP (n:=n) (c:=drC w) (w:=(w:Int)) (b:=b) (b2:=b) h1 (by omega) (zai (drC w)) 0 5000 [] (by omega) rfl (by omega);rw[show zbb (iL ([]++ ((List.range' 0 5).filter w.testBit).map ztt)) ⟨(w:Int),iL n,b⟩ ((zwd b:Nat):Int) 5000 0 []=_ from e3];rfl
theorem zrV{xs ys:List Int}(hl:xs.length=ys.length)(hb:xs.length<4611686018427387904):∀ n i:Nat,i≤xs.length→xs.length - i<n→zcK xs ys n (i:Int)=some (bif decide (xs.drop i=ys.drop i)then .go ()else .ret false)
 | 0,_,_,h=>absurd h (qam _)
 | n+1,i,h1,h2=>by
  unfold zcK;rw[zar];by_cases hi:i<xs.length
  ·have hy:i<ys.length:=by omega
   have e:(xs.drop i=ys.drop i)↔(xs[i]=ys[i]∧xs.drop (i+1)=ys.drop (i+1)):=by
    rw[qao hi,qao hy,qcn]
   rw[decide_eq_true hi,cond_true,zaJ hi,qaa,zaJ hy,qaa,zao (by omega)];by_cases hx:xs[i]=ys[i]
   ·rw[show(xs[i]== ys[i])=true from beq_iff_eq.2 hx,cond_true,zrV hl hb n (i+1) hi (by omega),decide_eq_decide.2 (show(xs.drop i=ys.drop i)↔(xs.drop (i+1)=ys.drop (i+1))from e.trans ⟨fun c=>c.2,fun c=>⟨hx,c⟩⟩)]
   rw[show(xs[i]== ys[i])=false from beq_false_of_ne hx,cond_false,decide_eq_false (fun c=>hx (e.1 c).1),cond_false]
  rw[decide_eq_false hi,cond_false,qaM (by omega),qaM (by omega),decide_eq_true rfl,cond_true]
theorem zl7{xs ys:List Int}(hb:xs.length<4611686018427387904):zdh xs ys=some (decide (xs=ys)):=by
 unfold zdh;by_cases hl:xs.length=ys.length
 ·rw[hl,beq_self_eq_true,cond_true,← hl,zax];have:=zrV hl hb (xs.length+2) 0 (qay _) (by omega);rw[show zcK xs ys (xs.length+2) 0=_ from this,qaS,qaS,qaa];cases decide (xs=ys)<;> rfl
 rw[show((xs.length:Int)==(ys.length:Int))=false from beq_false_of_ne (by omega),cond_false,decide_eq_false (fun e=>hl (by rw[e]))]
structure SzOk (x:S_api_Factor):Prop where
 vars:x.vars.length<4611686018427387904
 cards:x.cards.length<4611686018427387904
 w:x.w.length<4611686018427387904
theorem zmc{x y:S_api_Factor}:x=y↔x.vars=y.vars∧x.cards=y.cards∧x.w=y.w:=by
 cases x; cases y; simp
theorem zvK{x y:S_api_Factor}(h:SzOk x):zeu x y=some (decide (x=y)):=by
 unfold zeu;rw[zl7 h.vars,qaa];by_cases h1:x.vars=y.vars
 ·rw[decide_eq_true h1,cond_true,zl7 h.cards,qaa];by_cases h2:x.cards=y.cards
  ·rw[decide_eq_true h2,cond_true,zl7 h.w,qaa,qaa,decide_eq_decide.2 (show x=y↔x.w=y.w from zmc.trans ⟨fun c=>c.2.2,fun c=>⟨h1,h2,c⟩⟩)]
  rw[decide_eq_false h2,cond_false,qaa,decide_eq_false (fun e=>h2 (zmc.1 e).2.1)]
 rw[decide_eq_false h1,cond_false,qaa,decide_eq_false (fun e=>h1 (zmc.1 e).1)]
theorem FcOk.sz{f:Fc}(h:FcOk f):SzOk f.D:=by
 have h1:=h.le; have h2:=h.len; have h3:=h.size; have h4:=h.prod;refine⟨?_,?_,?_⟩
 ·show(iL f.vs).length<_; rw[zaq]; omega
 ·show(iL f.cs).length<_; rw[zaq]; omega
 show(iL f.ws).length<_; rw[zaq]; omega
section
variable {r4 r6 r8 r10 r12 r14 r16 r18:S_api_Factor}
end
structure DrOk (d:S_haruspexref03_Draft):Prop where
 which:∃ w:Nat,w<256∧d.which=(w:Int)
 n:∃ ns:List Nat,d.n=iL ns
theorem DrOk.s{d:S_haruspexref03_Draft}(h:DrOk d):∃ w n,w<256∧d=⟨((w:Nat):Int),iL n,d.large⟩∧zc3 5000 d=some (drF w n d.large).D:=by
 obtain⟨w,hw,e1⟩:=h.which;obtain⟨n,e2⟩:=h.n;obtain⟨a,b,c⟩:=d;simp only at e1 e2;subst e1 e2;exact⟨w,n,hw,rfl,zv2 hw n c⟩
section
variable {p1 p2 p4:Int} {x9:S_api_Factor}
end
section
variable {p1 p2 p4:Int} {x y:S_api_Factor}
end
end Go.Dc
