/-
 Plain laws: Divide, by the program and by the reference. Conditions: none.
-/
import Derived.Test.YtnfgibomhkbcpaaFgJ8
import Derived.Test.YtnfgibomhkbcpaaFgJ6
set_option linter.unusedSimpArgs false
set_option linter.unusedVariables false
namespace Go.Dc
open Go Go.Mx Go.Lx
theorem ztn(b:Nat):((b:Int)== 0)=(b == 0):=zkJ b 0
theorem zsN{a b:Nat}(hb:¬ b=0):zpq (a:Int) (b:Int)=some ((a % b:Nat):Int):=by
 unfold zpq;rw[ztn,beq_false_of_ne hb,cond_false]; rfl
def Fc.get(f:Fc)(j:Nat):Nat:=f.ws.getD j 0
theorem zsZ(n:Nat):IntKind.u8.wrap (n:Int)=((n % 256:Nat):Int):=by
 simp only[IntKind.wrap,IntKind.bits,IntKind.signed]; simp
theorem zpa{n:Nat}(h:n<256):IntKind.u8.wrap (n:Int)=(n:Int):=by
 rw[zsZ,qa2 h]
theorem ztj{a b:Nat}(ha:a<256)(hb:b<256):zmQ .u8 (a:Int) (b:Int)=((a &&& b:Nat):Int):=by
 have h:(BitVec.ofInt 8 (a:Int) &&& BitVec.ofInt 8 (b:Int)).toNat=a &&& b:=by
  simp only[BitVec.ofInt_natCast,BitVec.toNat_and,BitVec.toNat_ofNat];rw[qa2 ha,qa2 hb]
 show IntKind.u8.wrap ((BitVec.ofInt 8 (a:Int) &&& BitVec.ofInt 8 (b:Int)).toNat:Int)=_;rw[h];exact zpa (qb2 Nat.and_le_left ha)
theorem ztw{a v:Nat}(hv:v<8):zlo .u8 (a:Int) (v:Int)=some ((a >>> v:Nat):Int):=by
 unfold zlo;rw[if_pos (by omega)];congr 1
 have h1:min (v:Int).toNat IntKind.u8.bits=v:=by
  rw[show IntKind.u8.bits=8 from rfl,qaI]; exact qbG (by omega)
 rw[h1,qbq];have h2:((2:Int) ^ v)=((2 ^ v:Nat):Int):=by simp
 rw[h2,Int.fdiv_eq_ediv_of_nonneg _ (qbQ _)];rfl
theorem ztv{a v:Nat}(ha:a<256)(hv:v<8):∃ q:Int,zlo .u8 (a:Int) (v:Int)=some q∧(zmQ .u8 q 1 == 1)=a.testBit v:=by
 refine⟨_,ztw hv,?_⟩;rw[show(1:Int)=((1:Nat):Int)from rfl,ztj (qb2 (by rw[qbq]; exact Nat.div_le_self _ _) ha) (by decide),ztg,zkJ];cases a.testBit v<;>rfl
def ze7(v:Nat):Nat:=[2,3,1,2,2].getD v 0
def drV(w:Nat):List Nat:=(List.range' 0 5).filter w.testBit
def drC(w:Nat):List Nat:=(drV w).map ze7
theorem zit{w:Nat}(hw:w<256){n:List Int}{b:Bool}:∀(m v k:Nat) (x y:List Nat),v+m=5→x.length≤v→y.length≤v→m<k →
  zaF ⟨(w:Int),n,b⟩ k (v:Int) (iL x) (iL y)=some (iL (x ++ (List.range' v m).filter w.testBit),iL (y ++ ((List.range' v m).filter w.testBit).map ze7))
 | _,_,0,_,_,_,_,_,h=>absurd h (qaX _)
 | 0,v,k+1,x,y,h,_,_,_=>by
  unfold zaF;rw[show decide ((v:Int)<5)=false from decide_eq_false (by omega),cond_false];simp
 | m+1,v,k+1,x,y,h,hx,hy,hk=>by
  obtain⟨q,h1,h2⟩:=ztv (a:=w) (v:=v) hw (by omega);unfold zaF;rw[show decide ((v:Int)<5)=true from decide_eq_true (by omega),cond_true,zcV (by omega),h1,qad,h2,qbM];cases hb:w.testBit v with
  | false=>
   rw[cond_false,qad];simp only[];rw[zbo (by omega),zit hw m (v+1) k _ _ (by omega) (by omega) (by omega) (by omega),List.filter_cons_of_neg (by rw[hb]; decide)]
  | true=>
   rw[cond_true,zqM (by omega),qad,show zbr ([2,3,1,2,2]:List Int) (v:Int)=some ((ze7 v:Nat):Int)from ze5 (xs:=[2,3,1,2,2]) (by simp; omega),qad,zqM (by omega),qad,qad];simp only[];rw[zbo (by omega),zit hw m (v+1) k _ _ (by omega) (by simp; omega) (by simp; omega) (by omega),List.filter_cons_of_pos hb];simp
def zmV(n:List Nat)(j:Nat):Nat:=bif n.length == 0 then 1 else n.getD (j % n.length) 0 % 10
theorem zk9(n:List Nat)(j:Nat):zmV n j≤9:=by
 unfold zmV;cases(n.length == 0)
 ·rw[cond_false]; omega
 rw[cond_true]; omega
def zrq(b:Bool):Nat:=bif b then 1000000000000000 else 1
theorem zoe{n:List Nat}(j:Nat):((bif (decide (0<((iL n).length:Int)))then((zpq (j:Int) ((iL n).length:Int)).bind fun q16=>(zbr (iL n) q16).bind fun x18=>some (w64 (x18.tmod 10)))else some 1:Option Int))=some ((zmV n j:Nat):Int):=by
 unfold zmV;rw[zbj];by_cases h:n.length=0
 ·rw[h,show decide ((0:Int)<((0:Nat):Int))=false from rfl,cond_false,show((0:Nat)== 0)=true from rfl,cond_true]; rfl
 rw[show decide ((0:Int)<(n.length:Int))=true from decide_eq_true (by omega),cond_true,beq_false_of_ne h,cond_false,zsN h,qad,ze5 (qbX _ (by omega)),qad];congr 1
 rw[show((n.getD (j % n.length) 0:Nat):Int).tmod 10=((n.getD (j % n.length) 0 % 10:Nat):Int)from rfl,zd2 (by omega)]
theorem zlr{n:List Nat}{c:List Nat}{w:Int}{b b2:Bool}(hc:zbw (iL c)=true)(hp:zao c≤4096):∀(m i k:Nat) (ys:List Nat),i+m=zao c→ys.length=i→m<k →
  zaE (iL c) ⟨w,iL n,b⟩ ((zrq b2:Nat):Int) k (i:Int) (iL ys)=some (iL (ys ++ (List.range' i m).map fun j=>zmV n j * zrq b2))
 | _,_,0,_,_,_,h=>absurd h (qaX _)
 | 0,i,k+1,ys,h,hy,_=>by
  unfold zaE;rw[zlm hc,qad,zen];obtain rfl:i=zao c:=by omega
  rw[zpn,cond_false];simp
 | m+1,i,k+1,ys,h,hy,hk=>by
  have h1:=zk9 n i;have h2:zmV n i * zrq b2≤9000000000000000:=by
   cases b2
   ·show zmV n i * 1≤_; omega
   show zmV n i * 1000000000000000≤_; omega
  unfold zaE;rw[zlm hc,qad,zen,zpo (by omega),cond_true,zoe,qad,← qa4,zd2 (by omega),zqM (by omega),qad,zbo (by omega),zlr hc hp m (i+1) k _ (by omega) (by simp[hy]) (by omega),qbM];simp
def drF(w:Nat)(n:List Nat)(b:Bool):Fc:=⟨drV w,drC w,(List.range' 0 (zao (drC w))).map fun j=>zmV n j * zrq b⟩
theorem zpS:∀ w,w<256→zbw (iL (drC w))=true∧zao (drC w)≤24:=by decide +kernel
theorem znd{w:Nat}(hw:w<256)(n:List Nat)(b:Bool):zaC 5000 ⟨(w:Int),iL n,b⟩=some (drF w n b).D:=by
 obtain⟨h1,h2⟩:=zpS w hw;unfold zaC;have e1:=zit hw (n:=iL n) (b:=b) 5 0 ((5 - 0+2:Int).toNat) [] [] rfl (qaj _) (qaj _) (by decide);rw[show zaF ⟨(w:Int),iL n,b⟩ ((5 - 0+2:Int).toNat) 0 [] []=_ from e1,qad];simp only[];have e2:(bif b then some ((1000000000000000:Int),true)else some (1,false))=some (((zrq b:Nat):Int),b):=by cases b<;>rfl
 rw[e2,qad];simp only[];have e3:=zlr (n:=n) (c:=drC w) (w:=(w:Int)) (b:=b) (b2:=b) h1 (by omega) (zao (drC w)) 0 5000 [] (by omega) rfl (by omega);rw[show zaE (iL ([]++ ((List.range' 0 5).filter w.testBit).map ze7)) ⟨(w:Int),iL n,b⟩ ((zrq b:Nat):Int) 5000 0 []=_ from e3];rfl
theorem zrO{w:Nat}(hw:w<256)(n:List Nat)(b:Bool):FcOk (drF w n b):=by
 obtain⟨h1,h2⟩:=zpS w hw;obtain⟨h3,h4,h5⟩:=zg3 h1;refine⟨by simp[drF,drC],h5,h3,h4,by simp[drF],qca _ List.pairwise_lt_range',?_,?_⟩
 ·intro v hv;have:=(qbH.1 hv).1;simp only[qb5]at this;omega
 intro x hx;obtain⟨j,_,rfl⟩:=qaK.1 hx;have h1:=zk9 n j;show _≤4611686018427387903;cases b
 ·show zmV n j * 1≤_; omega
 show zmV n j * 1000000000000000≤_; omega
theorem zm8{xs ys:List Int}(hl:xs.length=ys.length)(hb:xs.length<4611686018427387904):∀ n i:Nat,i≤xs.length→xs.length - i<n→zcn xs ys n (i:Int)=some (bif decide (xs.drop i=ys.drop i)then .go ()else .ret false)
 | 0,_,_,h=>absurd h (qaX _)
 | n+1,i,h1,h2=>by
  unfold zcn;rw[zsg];by_cases hi:i<xs.length
  ·have hy:i<ys.length:=by omega
   have e:(xs.drop i=ys.drop i)↔(xs[i]=ys[i]∧xs.drop (i+1)=ys.drop (i+1)):=by
    rw[qaz hi,qaz hy,List.cons.injEq]
   rw[decide_eq_true hi,cond_true,zcF hi,qad,zcF hy,qad,zbo (by omega)];by_cases hx:xs[i]=ys[i]
   ·rw[show(xs[i]== ys[i])=true from beq_iff_eq.2 hx,cond_true,zm8 hl hb n (i+1) hi (by omega),decide_eq_decide.2 (show(xs.drop i=ys.drop i)↔(xs.drop (i+1)=ys.drop (i+1))from e.trans ⟨fun c=>c.2,fun c=>⟨hx,c⟩⟩)]
   rw[show(xs[i]== ys[i])=false from beq_false_of_ne hx,cond_false,decide_eq_false (fun c=>hx (e.1 c).1),cond_false]
  rw[decide_eq_false hi,cond_false,qbA (by omega),qbA (by omega),decide_eq_true rfl,cond_true]
theorem zld{xs ys:List Int}(hb:xs.length<4611686018427387904):zcT xs ys=some (decide (xs=ys)):=by
 unfold zcT;by_cases hl:xs.length=ys.length
 ·rw[hl,beq_self_eq_true,cond_true,← hl,zc7];have:=zm8 hl hb (xs.length+2) 0 (qaV _) (by omega);rw[show zcn xs ys (xs.length+2) 0=_ from this,qbe,qbe,qad];cases decide (xs=ys)<;> rfl
 rw[show((xs.length:Int)==(ys.length:Int))=false from beq_false_of_ne (by omega),cond_false,decide_eq_false (fun e=>hl (by rw[e]))]
structure SzOk (x:S_api_Factor):Prop where
 vars:x.vars.length<4611686018427387904
 zad:x.zad.length<4611686018427387904
 w:x.w.length<4611686018427387904
theorem zkI{x y:S_api_Factor}:x=y↔x.vars=y.vars∧x.zad=y.zad∧x.w=y.w:=by
 cases x; cases y; simp
theorem zra{x y:S_api_Factor}(h:SzOk x):zdd x y=some (decide (x=y)):=by
 unfold zdd;rw[zld h.vars,qad];by_cases h1:x.vars=y.vars
 ·rw[decide_eq_true h1,cond_true,zld h.zad,qad];by_cases h2:x.zad=y.zad
  ·rw[decide_eq_true h2,cond_true,zld h.w,qad,qad,decide_eq_decide.2 (show x=y↔x.w=y.w from zkI.trans ⟨fun c=>c.2.2,fun c=>⟨h1,h2,c⟩⟩)]
  rw[decide_eq_false h2,cond_false,qad,decide_eq_false (fun e=>h2 (zkI.1 e).2.1)]
 rw[decide_eq_false h1,cond_false,qad,decide_eq_false (fun e=>h1 (zkI.1 e).1)]
theorem FcOk.sz{f:Fc}(h:FcOk f):SzOk f.D:=by
 have h1:=h.le; have h2:=h.len; have h3:=h.size; have h4:=h.prod;refine⟨?_,?_,?_⟩
 ·show(iL f.vs).length<_; rw[zbj]; omega
 ·show(iL f.cs).length<_; rw[zbj]; omega
 show(iL f.ws).length<_; rw[zbj]; omega
theorem zqT{f g:Fc}(hf:FcOk f)(hg:FcOk g)(hc:zbw (iL (ucs f g))=true)(hk:zkG f g=true):FcOk (zgr f g):=by
 have hD:=zk2 hc;refine⟨hD.len,hD.le,hD.zmU,hD.prod,by simp[zgr],zek f g,zpW,?_⟩;intro x hx;obtain⟨j,hj,rfl⟩:=qaK.1 hx;exact of_decide_eq_true (qbk.1 hk j hj)
section
variable {r4 r6 r8 r10 r12 r14 r16 r18:S_api_Factor}
end
structure DrOk (d:S_haruspexref03_Draft):Prop where
 which:∃ w:Nat,w<256∧d.which=(w:Int)
 n:∃ ns:List Nat,d.n=iL ns
theorem DrOk.s{d:S_haruspexref03_Draft}(h:DrOk d):∃ w n,w<256∧d=⟨((w:Nat):Int),iL n,d.large⟩∧zaC 5000 d=some (drF w n d.large).D:=by
 obtain⟨w,hw,e1⟩:=h.which;obtain⟨n,e2⟩:=h.n;obtain⟨a,b,c⟩:=d;simp only at e1 e2;subst e1 e2;exact⟨w,n,hw,rfl,znd hw n c⟩
theorem zk1:∀ {a b:List Nat},a.Pairwise (· < ·)→b.Pairwise (· < ·)→(∀ x∈a,x∈b)→a.Sublist b
 | [],b,_,_,_=>List.nil_sublist b
 | a :: xs,[],_,_,h=>by have:=h a qao; simp at this
 | a :: xs,b :: bs,ha,hb,h=>by
  obtain⟨ha1,ha2⟩:=qaO.1 ha;obtain⟨hb1,hb2⟩:=qaO.1 hb;rcases qaA.1 (h a qao)with e | h1
  ·subst e;refine(zk1 ha2 hb2 fun x hx=>?_).cons_cons a;rcases qaA.1 (h x (qal _ hx))with e | h2
   ·have:=ha1 x hx; omega
   exact h2
  refine(zk1 ha hb2 fun x hx=>?_).cons b;rcases qaA.1 (h x hx)with e | h2
  ·have h3:=hb1 a h1;rcases qaA.1 hx with e2 | h4
   ·omega
   have:=ha1 x h4; omega
  exact h2
theorem ziJ:∀ {a b:List Nat},a.Sublist b→(∀ c∈b,1≤c)→zao a≤zao b
 | _,_,.slnil,_=>qaj _
 | a,b :: bs,.cons _ h,hb=>by
  have h1:=ziJ h fun c hc=>hb c (qal _ hc)
  have h2:=qbj (hb b qao) (qaj (zao bs));show zao a≤b * zao bs;omega
 | a :: xs,_ :: bs,.cons_cons _ h,hb=>qbj (qaj a) (ziJ h fun c hc=>hb c (qal _ hc))
section
variable {p1 p2 p4:Int} {x9:S_api_Factor}
end
section
variable {p1 p2 p4:Int} {x y:S_api_Factor}
end
end Go.Dc
