/-
 Plain laws: Divide, by the program and by the reference. Conditions: none.
-/
import Derived.Test.YtnfgibomhkbcpaaFuJ9
import Derived.Test.YtnfgibomhkbcpaaFuJ7
set_option linter.unusedSimpArgs false
set_option linter.unusedVariables false
namespace Go.Dc
open Go Go.Mx Go.Lx
theorem zuD(b:Nat):((b:Int)== 0)=(b == 0):=zlP b 0
theorem zt9{a b:Nat}(hb:¬ b=0):zqa (a:Int) (b:Int)=some ((a % b:Nat):Int):=by
 unfold zqa;rw[zuD,beq_false_of_ne hb,cond_false]; rfl
theorem zul{a b:Nat}(hb:¬ b=0)(ha:a≤zdj):zrh .i64 (a:Int) (b:Int)=some ((a / b:Nat):Int):=by
 have h1:a≤4611686018427387903:=ha;have h2:a / b≤a:=Nat.div_le_self a b;unfold zrh;rw[zuD,beq_false_of_ne hb,cond_false,show((a:Int).tdiv (b:Int))=((a / b:Nat):Int)from rfl];exact congrArg some (zce (n:=a / b) (by omega))
def Fc.get(f:Fc)(j:Nat):Nat:=f.ws.getD j 0
theorem Fc.zoL{f:Fc}(hf:FcOk f)(k:Nat):f.get k≤zdj:=by
 unfold Fc.get;by_cases h:k<f.ws.length
 ·rw[qam,qaf h];exact hf.num _ (qaF h)
 rw[qam,qa7 (by omega)];exact qaM _
theorem zrs{f:Fc}{i:Nat}(hf:FcOk f)(h:i<zae f.cs):zbq f.D.w (i:Int)=some ((f.get i:Nat):Int):=zcU (by rw[hf.size]; exact h)
theorem zuq(n:Nat):IntKind.u8.wrap (n:Int)=((n % 256:Nat):Int):=by
 simp only[IntKind.wrap,IntKind.bits,IntKind.signed]; simp
theorem zgS{n:Nat}(h:n<256):IntKind.u8.wrap (n:Int)=(n:Int):=by
 rw[zuq,qaY h]
theorem zuU{a b:Nat}(ha:a<256)(hb:b<256):znL .u8 (a:Int) (b:Int)=((a &&& b:Nat):Int):=by
 have h:(BitVec.ofInt 8 (a:Int) &&& BitVec.ofInt 8 (b:Int)).toNat=a &&& b:=by
  simp only[qbT,BitVec.toNat_and,BitVec.toNat_ofNat];rw[qaY ha,qaY hb]
 show IntKind.u8.wrap ((BitVec.ofInt 8 (a:Int) &&& BitVec.ofInt 8 (b:Int)).toNat:Int)=_;rw[h];exact zgS (qcf Nat.and_le_left ha)
theorem orB{a b:Nat}(ha:a<256)(hb:b<256):orI .u8 (a:Int) (b:Int)=((a ||| b:Nat):Int):=by
 have h:(BitVec.ofInt 8 (a:Int)||| BitVec.ofInt 8 (b:Int)).toNat=a ||| b:=by
  simp only[qbT,BitVec.toNat_or,BitVec.toNat_ofNat];rw[qaY ha,qaY hb]
 show IntKind.u8.wrap ((BitVec.ofInt 8 (a:Int)||| BitVec.ofInt 8 (b:Int)).toNat:Int)=_;rw[h];exact zgS (Nat.or_lt_two_pow (n:=8) ha hb)
def zlf(a b:Nat):Nat:=(BitVec.ofNat 8 a &&& ~~~ BitVec.ofNat 8 b).toNat
theorem zmc(a b:Nat):zlf a b<256:=(BitVec.ofNat 8 a &&& ~~~ BitVec.ofNat 8 b).isLt
theorem zuK(a b:Nat):zum .u8 (a:Int) (b:Int)=((zlf a b:Nat):Int):=by
 show IntKind.u8.wrap ((BitVec.ofInt 8 (a:Int) &&& ~~~ BitVec.ofInt 8 (b:Int)).toNat:Int)=_;rw[qbT,qbT];exact zgS (zmc a b)
theorem zoz{a b i:Nat}(ha:a<256)(hb:b<256):(zlf a b).testBit i=(a.testBit i && !b.testBit i):=by
 unfold zlf;rw[BitVec.testBit_toNat,BitVec.getLsbD_and,BitVec.getLsbD_not,BitVec.getLsbD_ofNat,BitVec.getLsbD_ofNat];by_cases hi:i<8
 ·simp[hi]
 have:a.testBit i=false:=Nat.testBit_lt_two_pow (qbu ha (Nat.pow_le_pow_right (n:=2) (by decide) (show 8≤i by omega)));simp[hi,this]
theorem zuc{v:Nat}(hv:v<8):ztu .u8 1 (v:Int)=some ((2 ^ v:Nat):Int):=by
 unfold ztu;rw[if_pos (by omega)];congr 1
 have h1:min (v:Int).toNat IntKind.u8.bits=v:=by
  rw[show IntKind.u8.bits=8 from rfl,qaE]; exact qbJ (by omega)
 rw[h1,Int.one_mul];have h2:((2:Int) ^ v)=((2 ^ v:Nat):Int):=by simp
 rw[h2];exact zgS (Nat.pow_lt_pow_right (by decide) hv)
theorem zuT{a v:Nat}(hv:v<8):zml .u8 (a:Int) (v:Int)=some ((a >>> v:Nat):Int):=by
 unfold zml;rw[if_pos (by omega)];congr 1
 have h1:min (v:Int).toNat IntKind.u8.bits=v:=by
  rw[show IntKind.u8.bits=8 from rfl,qaE]; exact qbJ (by omega)
 rw[h1,qby];have h2:((2:Int) ^ v)=((2 ^ v:Nat):Int):=by simp
 rw[h2,Int.fdiv_eq_ediv_of_nonneg _ (qbQ _)];rfl
theorem zu0{a v:Nat}(ha:a<256)(hv:v<8):∃ q:Int,zml .u8 (a:Int) (v:Int)=some q∧(znL .u8 q 1 == 1)=a.testBit v:=by
 refine⟨_,zuT hv,?_⟩;rw[show(1:Int)=((1:Nat):Int)from rfl,zuU (qcf (by rw[qby]; exact Nat.div_le_self _ _) ha) (by decide),zuR,zlP];cases a.testBit v<;>rfl
def zdA(v:Nat):Nat:=[2,3,1,2,2].getD v 0
def drV(w:Nat):List Nat:=(List.range' 0 5).filter w.testBit
def drC(w:Nat):List Nat:=(drV w).map zdA
theorem zjE{w:Nat}(hw:w<256){n:List Int}{b:Bool}:∀(m v k:Nat) (x y:List Nat),v+m=5→x.length≤v→y.length≤v→m<k →
  zaM ⟨(w:Int),n,b⟩ k (v:Int) (iL x) (iL y)=some (iL (x ++ (List.range' v m).filter w.testBit),iL (y ++ ((List.range' v m).filter w.testBit).map zdA))
 | _,_,0,_,_,_,_,_,h=>absurd h (qaS _)
 | 0,v,k+1,x,y,h,_,_,_=>by
  unfold zaM;rw[show decide ((v:Int)<5)=false from decide_eq_false (by omega),cond_false];simp
 | m+1,v,k+1,x,y,h,hx,hy,hk=>by
  obtain⟨q,h1,h2⟩:=zu0 (a:=w) (v:=v) hw (by omega);unfold zaM;rw[show decide ((v:Int)<5)=true from decide_eq_true (by omega),cond_true,zc6 (by omega),h1,qaa,h2,qbC];cases hb:w.testBit v with
  | false=>
   rw[cond_false,qaa];simp only[];rw[zbe (by omega),zjE hw m (v+1) k _ _ (by omega) (by omega) (by omega) (by omega),qcg (by rw[hb]; decide)]
  | true=>
   rw[cond_true,zsa (by omega),qaa,show zbq ([2,3,1,2,2]:List Int) (v:Int)=some ((zdA v:Nat):Int)from zcU (xs:=[2,3,1,2,2]) (by simp; omega),qaa,zsa (by omega),qaa,qaa];simp only[];rw[zbe (by omega),zjE hw m (v+1) k _ _ (by omega) (by simp; omega) (by simp; omega) (by omega),qch hb];simp
def znK(n:List Nat)(j:Nat):Nat:=bif n.length == 0 then 1 else n.getD (j % n.length) 0 % 10
theorem zli(n:List Nat)(j:Nat):znK n j≤9:=by
 unfold znK;cases(n.length == 0)
 ·rw[cond_false]; omega
 rw[cond_true]; omega
def zsK(b:Bool):Nat:=bif b then 1000000000000000 else 1
theorem zpB{n:List Nat}(j:Nat):((bif (decide (0<((iL n).length:Int)))then((zqa (j:Int) ((iL n).length:Int)).bind fun q16=>(zbq (iL n) q16).bind fun x18=>some (w64 (x18.tmod 10)))else some 1:Option Int))=some ((znK n j:Nat):Int):=by
 unfold znK;rw[zaQ];by_cases h:n.length=0
 ·rw[h,show decide ((0:Int)<((0:Nat):Int))=false from rfl,cond_false,show((0:Nat)== 0)=true from rfl,cond_true]; rfl
 rw[show decide ((0:Int)<(n.length:Int))=true from decide_eq_true (by omega),cond_true,beq_false_of_ne h,cond_false,zt9 h,qaa,zcU (qbw _ (by omega)),qaa];congr 1
 rw[show((n.getD (j % n.length) 0:Nat):Int).tmod 10=((n.getD (j % n.length) 0 % 10:Nat):Int)from rfl,zce (by omega)]
theorem zm2{n:List Nat}{c:List Nat}{w:Int}{b b2:Bool}(hc:zbJ (iL c)=true)(hp:zae c≤4096):∀(m i k:Nat) (ys:List Nat),i+m=zae c→ys.length=i→m<k →
  zaL (iL c) ⟨w,iL n,b⟩ ((zsK b2:Nat):Int) k (i:Int) (iL ys)=some (iL (ys ++ (List.range' i m).map fun j=>znK n j * zsK b2))
 | _,_,0,_,_,_,h=>absurd h (qaS _)
 | 0,i,k+1,ys,h,hy,_=>by
  unfold zaL;rw[zmr hc,qaa,zey];obtain rfl:i=zae c:=by omega
  rw[zpJ,cond_false];simp
 | m+1,i,k+1,ys,h,hy,hk=>by
  have h1:=zli n i;have h2:znK n i * zsK b2≤9000000000000000:=by
   cases b2
   ·show znK n i * 1≤_; omega
   show znK n i * 1000000000000000≤_; omega
  unfold zaL;rw[zmr hc,qaa,zey,zpk (by omega),cond_true,zpB,qaa,← qaR,zce (by omega),zsa (by omega),qaa,zbe (by omega),zm2 hc hp m (i+1) k _ (by omega) (by simp[hy]) (by omega),qbC];simp
def drF(w:Nat)(n:List Nat)(b:Bool):Fc:=⟨drV w,drC w,(List.range' 0 (zae (drC w))).map fun j=>znK n j * zsK b⟩
theorem zqX:∀ w,w<256→zbJ (iL (drC w))=true∧zae (drC w)≤24:=by decide +kernel
theorem zjh{w:Nat}(hw:w<256)(n:List Nat)(b:Bool):zaD 5000 ⟨(w:Int),iL n,b⟩=some (drF w n b).D:=by
 obtain⟨h1,h2⟩:=zqX w hw;unfold zaD;have e1:=zjE hw (n:=iL n) (b:=b) 5 0 ((5 - 0+2:Int).toNat) [] [] rfl (qai _) (qai _) (by decide);rw[show zaM ⟨(w:Int),iL n,b⟩ ((5 - 0+2:Int).toNat) 0 [] []=_ from e1,qaa];simp only[];have e2:(bif b then some ((1000000000000000:Int),true)else some (1,false))=some (((zsK b:Nat):Int),b):=by cases b<;>rfl
 rw[e2,qaa];simp only[];have e3:=zm2 (n:=n) (c:=drC w) (w:=(w:Int)) (b:=b) (b2:=b) h1 (by omega) (zae (drC w)) 0 5000 [] (by omega) rfl (by omega);rw[show zaL (iL ([]++ ((List.range' 0 5).filter w.testBit).map zdA)) ⟨(w:Int),iL n,b⟩ ((zsK b:Nat):Int) 5000 0 []=_ from e3];rfl
theorem ztc{w:Nat}(hw:w<256)(n:List Nat)(b:Bool):FcOk (drF w n b):=by
 obtain⟨h1,h2⟩:=zqX w hw;obtain⟨h3,h4,h5⟩:=zg2 h1;refine⟨by simp[drF,drC],h5,h3,h4,by simp[drF],qbE _ qbY,?_,?_⟩
 ·intro v hv;have:=(qaW.1 hv).1;simp only[qbx]at this;omega
 intro x hx;obtain⟨j,_,rfl⟩:=qaC.1 hx;have h1:=zli n j;show _≤4611686018427387903;cases b
 ·show znK n j * 1≤_; omega
 show znK n j * 1000000000000000≤_; omega
theorem zoi{xs ys:List Int}(hl:xs.length=ys.length)(hb:xs.length<4611686018427387904):∀ n i:Nat,i≤xs.length→xs.length - i<n→zcA xs ys n (i:Int)=some (bif decide (xs.drop i=ys.drop i)then .go ()else .ret false)
 | 0,_,_,h=>absurd h (qaS _)
 | n+1,i,h1,h2=>by
  unfold zcA;rw[ztA];by_cases hi:i<xs.length
  ·have hy:i<ys.length:=by omega
   have e:(xs.drop i=ys.drop i)↔(xs[i]=ys[i]∧xs.drop (i+1)=ys.drop (i+1)):=by
    rw[qav hi,qav hy,List.cons.injEq]
   rw[decide_eq_true hi,cond_true,zcO hi,qaa,zcO hy,qaa,zbe (by omega)];by_cases hx:xs[i]=ys[i]
   ·rw[show(xs[i]== ys[i])=true from beq_iff_eq.2 hx,cond_true,zoi hl hb n (i+1) hi (by omega),decide_eq_decide.2 (show(xs.drop i=ys.drop i)↔(xs.drop (i+1)=ys.drop (i+1))from e.trans ⟨fun c=>c.2,fun c=>⟨hx,c⟩⟩)]
   rw[show(xs[i]== ys[i])=false from beq_false_of_ne hx,cond_false,decide_eq_false (fun c=>hx (e.1 c).1),cond_false]
  rw[decide_eq_false hi,cond_false,qbM (by omega),qbM (by omega),decide_eq_true rfl,cond_true]
theorem zll{xs ys:List Int}(hb:xs.length<4611686018427387904):zcV xs ys=some (decide (xs=ys)):=by
 unfold zcV;by_cases hl:xs.length=ys.length
 ·rw[hl,beq_self_eq_true,cond_true,← hl,zcL];have:=zoi hl hb (xs.length+2) 0 (qaM _) (by omega);rw[show zcA xs ys (xs.length+2) 0=_ from this,qaQ,qaQ,qaa];cases decide (xs=ys)<;> rfl
 rw[show((xs.length:Int)==(ys.length:Int))=false from beq_false_of_ne (by omega),cond_false,decide_eq_false (fun e=>hl (by rw[e]))]
structure SzOk (x:S_api_Factor):Prop where
 vars:x.vars.length<4611686018427387904
 zad:x.zad.length<4611686018427387904
 w:x.w.length<4611686018427387904
theorem zlQ{x y:S_api_Factor}:x=y↔x.vars=y.vars∧x.zad=y.zad∧x.w=y.w:=by
 cases x; cases y; simp
theorem zrQ{x y:S_api_Factor}(h:SzOk x):zdp x y=some (decide (x=y)):=by
 unfold zdp;rw[zll h.vars,qaa];by_cases h1:x.vars=y.vars
 ·rw[decide_eq_true h1,cond_true,zll h.zad,qaa];by_cases h2:x.zad=y.zad
  ·rw[decide_eq_true h2,cond_true,zll h.w,qaa,qaa,decide_eq_decide.2 (show x=y↔x.w=y.w from zlQ.trans ⟨fun c=>c.2.2,fun c=>⟨h1,h2,c⟩⟩)]
  rw[decide_eq_false h2,cond_false,qaa,decide_eq_false (fun e=>h2 (zlQ.1 e).2.1)]
 rw[decide_eq_false h1,cond_false,qaa,decide_eq_false (fun e=>h1 (zlQ.1 e).1)]
theorem FcOk.sz{f:Fc}(h:FcOk f):SzOk f.D:=by
 have h1:=h.le; have h2:=h.len; have h3:=h.size; have h4:=h.prod;refine⟨?_,?_,?_⟩
 ·show(iL f.vs).length<_; rw[zaQ]; omega
 ·show(iL f.cs).length<_; rw[zaQ]; omega
 show(iL f.ws).length<_; rw[zaQ]; omega
theorem zrB{f g:Fc}(hf:FcOk f)(hg:FcOk g)(hc:zbJ (iL (ucs f g))=true)(hk:zlt f g=true):FcOk (zg1 f g):=by
 have hD:=zl6 hc;refine⟨hD.len,hD.le,hD.zdN,hD.prod,by simp[zg1],zfl f g,zqM,?_⟩;intro x hx;obtain⟨j,hj,rfl⟩:=qaC.1 hx;exact of_decide_eq_true (qbs.1 hk j hj)
section
variable {r4 r6 r8 r10 r12 r14 r16 r18:S_api_Factor}
end
structure DrOk (d:S_haruspexref03_Draft):Prop where
 which:∃ w:Nat,w<256∧d.which=(w:Int)
 n:∃ ns:List Nat,d.n=iL ns
theorem DrOk.s{d:S_haruspexref03_Draft}(h:DrOk d):∃ w n,w<256∧d=⟨((w:Nat):Int),iL n,d.large⟩∧zaD 5000 d=some (drF w n d.large).D:=by
 obtain⟨w,hw,e1⟩:=h.which;obtain⟨n,e2⟩:=h.n;obtain⟨a,b,c⟩:=d;simp only at e1 e2;subst e1 e2;exact⟨w,n,hw,rfl,zjh hw n c⟩
def cof(f:Fc)(us:List Nat):List Nat:=us.map (at_ f.vs f.cs)
structure Sel (f:Fc) (us:List Nat):Prop where
 inc:us.Pairwise (· < ·)
 mem:∀ u∈us,u∈f.vs
theorem zg6:∀ {a b:List Nat},a.Pairwise (· < ·)→b.Pairwise (· < ·)→(∀ x∈a,x∈b)→a.Sublist b
 | [],b,_,_,_=>List.nil_sublist b
 | a :: xs,[],_,_,h=>by have:=h a qap; simp at this
 | a :: xs,b :: bs,ha,hb,h=>by
  obtain⟨ha1,ha2⟩:=qaX.1 ha;obtain⟨hb1,hb2⟩:=qaX.1 hb;rcases qaD.1 (h a qap)with e | h1
  ·subst e;refine(zg6 ha2 hb2 fun x hx=>?_).cons_cons a;rcases qaD.1 (h x (qak _ hx))with e | h2
   ·have:=ha1 x hx; omega
   exact h2
  refine(zg6 ha hb2 fun x hx=>?_).cons b;rcases qaD.1 (h x hx)with e | h2
  ·have h3:=hb1 a h1;rcases qaD.1 hx with e2 | h4
   ·omega
   have:=ha1 x h4; omega
  exact h2
theorem zgZ:∀ {a b:List Nat},a.Sublist b→(∀ c∈b,1≤c)→zae a≤zae b
 | _,_,.slnil,_=>qai _
 | a,b :: bs,.cons _ h,hb=>by
  have h1:=zgZ h fun c hc=>hb c (qak _ hc)
  have h2:=qbr (hb b qap) (qai (zae bs));show zae a≤b * zae bs;omega
 | a :: xs,_ :: bs,.cons_cons _ h,hb=>qbr (qai a) (zgZ h fun c hc=>hb c (qak _ hc))
theorem zrt{f:Fc}(hf:FcOk f){us:List Nat}(hs:Sel f us):(cof f us).Sublist f.cs:=by
 have h:=(zg6 hs.inc hf.inc hs.mem).map (at_ f.vs f.cs)
 rwa [zmV (zaP hf.inc) hf.len]at h
theorem zdu{f:Fc}(hf:FcOk f){us:List Nat}(hs:Sel f us):Dom us (cof f us):=by
 have h:=zrt hf hs;exact⟨by simp[cof],zaP hs.inc,fun x hx=>hf.zdN x (h.subset hx),qat h.length_le hf.le,qat (zgZ h fun c hc=>(hf.zdN c hc).1) hf.prod⟩
theorem zrL{f:Fc}{us:List Nat}(hs:Sel f us):Sub f.vs f.cs us (cof f us):=
 zmO (by simp[cof]) (zaP hs.inc) fun u hu=>⟨hs.mem u hu,by unfold cof; rw[zhi hu]⟩
def ix(f:Fc)(us:List Nat)(i:Nat):Nat:=dot (us.map (at_ f.vs (dig f.cs i))) (zaC (cof f us))
theorem zsp{f:Fc}(hf:FcOk f){us:List Nat}(hs:Sel f us){i:Nat}(h:i<zae f.cs):ix f us i<zae (cof f us):=
 ziB (Sub.below hf.len (zdB hf.zdN h) (zrL hs))
theorem zrn{f:Fc}(hf:FcOk f){us:List Nat}(hs:Sel f us){i:Nat}:dot (dig f.cs i) (f.vs.map (stp us (cof f us)))=ix f us i:=by
 rw[zlG (zaP hf.inc) (by simp[cof]) (zaP hs.inc)]; rfl
def gop(b:Bool)(x y:Nat):Nat:=bif b then max x y else x+y
def zfI(b:Bool)(f:Fc)(us:List Nat):Nat→Nat→List Nat→Option (List Nat)
 | 0,_,l=>some l
 | m+1,i,l=>bif decide (gop b (l.getD (ix f us i) 0) (f.get i)≤zdj)then zfI b f us m (i+1) (l.set (ix f us i) (gop b (l.getD (ix f us i) 0) (f.get i)))else none
theorem zkK{b:Bool}{f:Fc}{us:List Nat}:∀ {m i:Nat} {l l':List Nat},zfI b f us m i l=some l'→l'.length=l.length
 | 0,_,_,_,h=>by cases h; rfl
 | m+1,i,l,l',h=>by
  unfold zfI at h;cases hd:decide (gop b (l.getD (ix f us i) 0) (f.get i)≤zdj)with
  | false=>rw[hd]at h; cases h
  | true=>rw[hd,cond_true]at h; rw[zkK h,qa1]
theorem zmw{b:Bool}{f:Fc}{us:List Nat}:∀ {m i:Nat} {l l':List Nat},(∀ x∈l,x≤zdj)→zfI b f us m i l=some l'→∀ x∈l',x≤zdj
 | 0,_,_,_,hl,h=>by cases h; exact hl
 | m+1,i,l,l',hl,h=>by
  unfold zfI at h;cases hd:decide (gop b (l.getD (ix f us i) 0) (f.get i)≤zdj)with
  | false=>rw[hd]at h; cases h
  | true=>
   rw[hd,cond_true]at h;refine zmw (fun x hx=>?_) h;rcases qb8 hx with h1 | h1
   ·exact hl x h1
   rw[h1]; exact of_decide_eq_true hd
theorem zgr{f:Fc}(hf:FcOk f){us:List Nat}(hs:Sel f us):us.length≤12:=by
 have:=(zg6 hs.inc hf.inc hs.mem).length_le;have:=hf.len; have:=hf.le;omega
theorem zo3{b:Bool}{x y:Nat}(hx:x≤zdj)(hy:y≤zdj):(bif b then ztO (x:Int) (y:Int)else w64 ((x:Int)+(y:Int)))=((gop b x y:Nat):Int):=by
 have h1:x≤4611686018427387903:=hx;have h2:y≤4611686018427387903:=hy;cases b with
 | true=>
  show ztO (x:Int) (y:Int)=((max x y:Nat):Int);unfold ztO;split<;>omega
 | false=>
  show w64 ((x:Int)+(y:Int))=((x+y:Nat):Int);rw[zf0 (by omega) (by omega)]; omega
theorem zpD{l:List Nat}(h:∀ x∈l,x≤zdj)(k:Nat):l.getD k 0≤zdj:=by
 by_cases hk:k<l.length
 ·rw[qam,qaf hk];exact h _ (qaF hk)
 rw[qam,qa7 (by omega)];exact qaM _
theorem ztS{xs:List Nat}{k y:Nat}(h:k<xs.length):zgA (iL xs) (k:Int) (y:Int)=some (iL (xs.set k y)):=by
 rw[zi4 (by rw[zaQ]; exact h)];simp[iL]
def gat(b:Bool)(f:Fc)(us:List Nat):Option (List Nat):=zfI b f us (zae f.cs) 0 (List.replicate (zae (cof f us)) 0)
theorem zjx{n:Nat}:∀ x∈List.replicate n 0,x≤zdj:=fun x hx=>by rw[(List.mem_replicate.1 hx).2]; exact qaM _
theorem ze5(cs:List Nat):∀(i:Nat) (h:i<cs.length),zae (cs.drop i)=cs[i] * zae (cs.drop (i+1)):=by
 intro i h;rw[qav h]; rfl
theorem zrr{f:Fc}(hf:FcOk f){us:List Nat}(hs:Sel f us):∀(n i a:Nat),i≤us.length→us.length - i<n→a * zae ((cof f us).drop i)≤4096→1≤a →
  zaw (iL us) f.T n (a:Int) (i:Int) (iL ((cof f us).take i ++ List.replicate (us.length - i) 0))=some (((a * zae ((cof f us).drop i):Nat):Int),iL (cof f us))
 | 0,_,_,_,h,_,_=>absurd h (qaS _)
 | n+1,i,a,hi,hn,ha,h1=>by
  have hl:=zgr hf hs;have hcl:(cof f us).length=us.length:=by simp[cof]
  unfold zaw;rw[zaQ];rcases qa5 i us.length with h3 | h3
  ·have h3c:i<(cof f us).length:=by omega
   have hcc:=(zdu hf hs).zdN (cof f us)[i] (qaF h3c);have hpos:0<zae ((cof f us).drop (i+1)):=zbr fun c hc=>(zdu hf hs).zdN c (qb6 hc)
   have e0:=ze5 (cof f us) i h3c;have ea:a * zae ((cof f us).drop i)=a * (cof f us)[i] * zae ((cof f us).drop (i+1)):=by rw[e0,qbF]
   have hle:a * (cof f us)[i]≤4096:=qat (qbt _ hpos) (ea ▸ ha);have ih:=zrr hf hs n (i+1) (a * (cof f us)[i]) h3 (by omega) (ea ▸ ha) (qcu (by omega) (by omega));have ht:((cof f us).take i).length=i:=by simp; omega
   have e:List.replicate (us.length - i) 0=0 :: List.replicate (us.length - (i+1)) 0:=by
    rw[show us.length - i=(us.length - (i+1))+1 by omega,qaP]
   rw[qbv h3c,qbe,qa3]at ih;obtain⟨k,hk⟩:=zfu (hs.mem us[i] (qaF h3));have ec:at_ f.vs f.cs us[i]=(cof f us)[i]:=by simp[cof]
   rw[zpk h3,cond_true,zc1 h3,qaa,zeI hf,qaa,zb4,hk,show f.T.factor=f.D from rfl,ze7 hf hk,qaa,ec,e,zcm ht,qaa,zc7 ht,qaa,← qaR,zce (by omega),zbe (by omega),ea];exact ih
  obtain rfl:i=us.length:=by omega
  rw[zpJ,cond_false,Nat.sub_self,qbL,qba,qaG (by omega),qbN (by omega),show zae ([]:List Nat)=1 from rfl,Nat.mul_one]
theorem zfp{g:Nat→Nat}{p:Nat}:∀ {vs:List Nat} {v k:Nat},vs.Nodup→pos vs v=some k→(vs.map g).set k p=vs.map fun u=>bif v == u then p else g u
 | [],_,_,_,h=>by cases h
 | u :: us,v,k,hn,h=>by
  obtain⟨h1,h2⟩:=qbq.1 hn;rw[show pos (u :: us) v=bif u == v then some 0 else(pos us v).map (· + 1)from rfl]at h;cases hb:(u == v)with
  | true=>
   rw[hb,cond_true]at h;cases h;have:u=v:=by simpa using hb
   subst this;rw[qay,qay,List.set_cons_zero,beq_self_eq_true,cond_true];refine congrArg (p :: ·) (qbk fun x hx=>?_);rw[show(u == x)=false from beq_false_of_ne (fun e=>h1 (e ▸ hx)),cond_false]
  | false=>
   rw[hb,cond_false]at h;cases hp:pos us v with
   | none=>rw[hp]at h; cases h
   | some j=>
    rw[hp]at h;cases h;rw[qay,qay,List.set_cons_succ,zfp h2 hp,show(v == u)=false from beq_false_of_ne (fun e=>ne_of_beq_false hb e.symm),cond_false]
theorem zrq{f:Fc}(hf:FcOk f){us:List Nat}(hs:Sel f us):∀(k n:Nat),k≤us.length→k<n →
  zat (iL us) f.T (iL (cof f us)) n ((zae ((cof f us).drop k):Nat):Int) ((k:Int) - 1) (iL (f.vs.map (stp (us.drop k) ((cof f us).drop k))))=some (iL (f.vs.map (stp us (cof f us))))
 | _,0,_,h=>absurd h (qaS _)
 | 0,n+1,_,_=>by
  unfold zat;rw[show decide ((0:Int)≤((0:Nat):Int) - 1)=false from rfl,cond_false,qaQ,qaQ]
 | k+1,n+1,hk,hn=>by
  have hl:=zgr hf hs;have hD:=zdu hf hs;have hcl:(cof f us).length=us.length:=by simp[cof]
  have h3:k<us.length:=hk;have h3c:k<(cof f us).length:=by omega
  have ih:=zrq hf hs k n (by omega) (by omega);have e0:=ze5 (cof f us) k h3c;have hle:zae ((cof f us).drop k)≤4096:=qat (zed (fun c hc=>(hD.zdN c hc).1) k) hD.prod;obtain⟨j,hj⟩:=zfu (hs.mem us[k] (qaF h3));obtain⟨hj2,_⟩:=zb6 hj;have em:(f.vs.map (stp (us.drop (k+1)) ((cof f us).drop (k+1)))).set j (zae ((cof f us).drop (k+1)))=f.vs.map (stp (us.drop k) ((cof f us).drop k)):=by
   rw[zfp (zaP hf.inc) hj,qav h3,qav h3c];rfl
  unfold zat;rw[pred_succ,zuG,cond_true,zc1 h3,qaa,zeI hf,qaa,zb4,hj,show ixZ (some j)=(j:Int)from rfl,zcU (by simpa using hj2),qaa,ztS (by simpa using hj2),qaa,zc1 h3c,qaa,← qaR,qbh,← e0,zce (by omega),zf0 (by omega) (by omega),em];exact ih
theorem zrl{f:Fc}(hf:FcOk f){us:List Nat}(hs:Sel f us){x:Int}:∀(m i:Nat) (l:List Nat),i+m=zae f.cs→l.length=zae (cof f us)→(∀ x∈l,x≤zdj)→
  ∃ z,zaq f.T x (zfM f.cs (f.vs.map (stp us (cof f us))) i m) (iL l)=some (match zfI false f us m i l with | some l'=>.go (iL l')| none=>.brk z)
 | 0,i,l,_,_,_=>⟨[],rfl⟩
 | m+1,i,l,h,hl,hb=>by
  have hi:i<zae f.cs:=by omega
  have hk:=zsp hf hs hi;have hkl:ix f us i<l.length:=by omega
  have g1:=zpD hb (ix f us i);have g2:=Fc.zoL hf i;have e:=zo3 (b:=false) g1 g2;rw[cond_false]at e;rw[zd4,zrn hf hs];have es:zda ((l.getD (ix f us i) 0:Nat):Int) ((f.get i:Nat):Int)=some (((gop false (l.getD (ix f us i) 0) (f.get i):Nat):Int),decide (gop false (l.getD (ix f us i) 0) (f.get i)≤zdj)):=by
   unfold zda;rw[e];refine congrArg (fun b:Bool=>some (((gop false (l.getD (ix f us i) 0) (f.get i):Nat):Int),b)) (decide_eq_decide.2 ⟨fun h=>?_,fun h=>?_⟩)
   ·show _≤4611686018427387903; omega
   have:_≤4611686018427387903:=h; omega
  have e1:∀ ys,zaq f.T x (((i:Int),((ix f us i:Nat):Int),iL (dig f.cs i)):: ys) (iL l)=bif decide (gop false (l.getD (ix f us i) 0) (f.get i)≤zdj)then zaq f.T x ys (iL (l.set (ix f us i) (gop false (l.getD (ix f us i) 0) (f.get i))))else some (.brk (iL (l.set (ix f us i) (gop false (l.getD (ix f us i) 0) (f.get i))))):=by
   intro ys;show(zbq (iL l) ((ix f us i:Nat):Int)).bind _=_;rw[zcU hkl,qaa];simp only[];rw[show zbq f.T.factor.w (i:Int)=some ((f.get i:Nat):Int)from zrs hf hi,qaa,es,qaa];simp only[];rw[ztS hkl,qaa]
  rw[e1];unfold zfI;cases hd:decide (gop false (l.getD (ix f us i) 0) (f.get i)≤zdj)with
  | false=>exact⟨_,rfl⟩
  | true=>
   rw[cond_true,cond_true];refine zrl hf hs m (i+1) _ (by omega) (by rw[qa1]; exact hl) fun x hx=>?_
   rcases qb8 hx with h1 | h1
   ·exact hb x h1
   rw[h1]; exact of_decide_eq_true hd
theorem zn2(f:Fc):f.vs.map (stp [] [])=List.replicate f.vs.length 0:=by
 rw[List.eq_replicate_iff];refine⟨by simp,fun x hx=>?_⟩;obtain⟨v,_,rfl⟩:=qaC.1 hx;simp[stp]
theorem zre{f:Fc}(hf:FcOk f){us:List Nat}(hs:Sel f us)(v:Nat):stp us (cof f us) v≤4096:=by
 have hD:=zdu hf hs;rw[zg4 hD.len];cases hp:pos us v with
 | none=>exact qaM _
 | some k=>
  simp only;by_cases h:k<(zaC (cof f us)).length
  ·rw[qam,qaf h];exact zi3 (fun c hc=>(hD.zdN c hc).1) hD.prod _ (qaF h)
  rw[qam,qa7 (by omega)];exact qaM _
theorem zp4{f:Fc}(hf:FcOk f){us:List Nat}(hs:Sel f us):zaB f.T (iL us)=some (match gat false f us with | some l=>(⟨iL us,iL (cof f us),iL l⟩,0)| none=>(noF,6)):=by
 have hl:=zgr hf hs;have hD:=zdu hf hs;have hp:=hD.prod;have hpf:=hf.prod;have hfl:=hf.le;have hfl2:=hf.len;have hcl:(cof f us).length=us.length:=by simp[cof]
 unfold zaB;have h1:=zrr hf hs (us.length+2) 0 1 (qaM _) (by omega) (by rw[qaQ]; omega) (qai _);rw[qbG,qa9,qcv,zdZ,qaQ,qbW]at h1;rw[zaQ,zdk (by omega),qaa,zcL,show zaw (iL us) f.T (us.length+2) 1 0 (List.replicate us.length 0)=_ from h1,qaa];simp only[];rw[zdk (by omega),qaa,show f.T.factor.vars=iL f.vs from rfl,zaQ,zdk (by omega),qaa,zf0 (by omega) (by omega),show(((us.length:Int) - 1) - 0+2).toNat=us.length+1 by omega];have h2:=zrq hf hs us.length (us.length+1) (qai _) (by omega);rw[qaZ,qbN (by omega),zn2,zdZ,show zae ([]:List Nat)=1 from rfl]at h2;rw[show zat (iL us) f.T (iL (cof f us)) (us.length+1) 1 ((us.length:Int) - 1) (List.replicate f.vs.length 0)=_ from h2,qaa,zeO,qaa];simp only[];rw[show f.T.factor.zad=iL f.cs from rfl,zmk hf.zdN hf.le hf.prod (by rw[qa4,hf.len]) (fun s hs2=>by obtain⟨v,_,rfl⟩:=qaC.1 hs2; exact zre hf hs v),qaa];obtain⟨z,h3⟩:=zrl hf hs (x:=((zae (cof f us):Nat):Int)) (zae f.cs) 0 (List.replicate (zae (cof f us)) 0) (by omega) (by simp) zjx;rw[← zdZ,h3,qaa];unfold gat;cases zfI false f us (zae f.cs) 0 (List.replicate (zae (cof f us)) 0)<;> rfl
theorem zqT{f:Fc}(hf:FcOk f){us:List Nat}(hs:Sel f us):∀(n i a:Nat),i≤us.length→us.length - i<n→a * zae ((cof f us).drop i)≤4096→1≤a →
  zav (iL us) f.T n (a:Int) (i:Int) (iL ((cof f us).take i ++ List.replicate (us.length - i) 0))=some (((a * zae ((cof f us).drop i):Nat):Int),iL (cof f us))
 | 0,_,_,_,h,_,_=>absurd h (qaS _)
 | n+1,i,a,hi,hn,ha,h1=>by
  have hl:=zgr hf hs;have hcl:(cof f us).length=us.length:=by simp[cof]
  unfold zav;rw[zaQ];rcases qa5 i us.length with h3 | h3
  ·have h3c:i<(cof f us).length:=by omega
   have hcc:=(zdu hf hs).zdN (cof f us)[i] (qaF h3c);have hpos:0<zae ((cof f us).drop (i+1)):=zbr fun c hc=>(zdu hf hs).zdN c (qb6 hc)
   have e0:=ze5 (cof f us) i h3c;have ea:a * zae ((cof f us).drop i)=a * (cof f us)[i] * zae ((cof f us).drop (i+1)):=by rw[e0,qbF]
   have hle:a * (cof f us)[i]≤4096:=qat (qbt _ hpos) (ea ▸ ha);have ih:=zqT hf hs n (i+1) (a * (cof f us)[i]) h3 (by omega) (ea ▸ ha) (qcu (by omega) (by omega));have ht:((cof f us).take i).length=i:=by simp; omega
   have e:List.replicate (us.length - i) 0=0 :: List.replicate (us.length - (i+1)) 0:=by
    rw[show us.length - i=(us.length - (i+1))+1 by omega,qaP]
   rw[qbv h3c,qbe,qa3]at ih;obtain⟨k,hk⟩:=zfu (hs.mem us[i] (qaF h3));have ec:at_ f.vs f.cs us[i]=(cof f us)[i]:=by simp[cof]
   rw[zpk h3,cond_true,zc1 h3,qaa,zeI hf,qaa,zb4,hk,show f.T.factor=f.D from rfl,ze7 hf hk,qaa,ec,e,zcm ht,qaa,zc7 ht,qaa,← qaR,zce (by omega),zbe (by omega),ea];exact ih
  obtain rfl:i=us.length:=by omega
  rw[zpJ,cond_false,Nat.sub_self,qbL,qba,qaG (by omega),qbN (by omega),show zae ([]:List Nat)=1 from rfl,Nat.mul_one]
theorem zqL{f:Fc}(hf:FcOk f){us:List Nat}(hs:Sel f us):∀(k n:Nat),k≤us.length→k<n →
  zas (iL us) f.T (iL (cof f us)) n ((zae ((cof f us).drop k):Nat):Int) ((k:Int) - 1) (iL (f.vs.map (stp (us.drop k) ((cof f us).drop k))))=some (iL (f.vs.map (stp us (cof f us))))
 | _,0,_,h=>absurd h (qaS _)
 | 0,n+1,_,_=>by
  unfold zas;rw[show decide ((0:Int)≤((0:Nat):Int) - 1)=false from rfl,cond_false,qaQ,qaQ]
 | k+1,n+1,hk,hn=>by
  have hl:=zgr hf hs;have hD:=zdu hf hs;have hcl:(cof f us).length=us.length:=by simp[cof]
  have h3:k<us.length:=hk;have h3c:k<(cof f us).length:=by omega
  have ih:=zqL hf hs k n (by omega) (by omega);have e0:=ze5 (cof f us) k h3c;have hle:zae ((cof f us).drop k)≤4096:=qat (zed (fun c hc=>(hD.zdN c hc).1) k) hD.prod;obtain⟨j,hj⟩:=zfu (hs.mem us[k] (qaF h3));obtain⟨hj2,_⟩:=zb6 hj;have em:(f.vs.map (stp (us.drop (k+1)) ((cof f us).drop (k+1)))).set j (zae ((cof f us).drop (k+1)))=f.vs.map (stp (us.drop k) ((cof f us).drop k)):=by
   rw[zfp (zaP hf.inc) hj,qav h3,qav h3c];rfl
  unfold zas;rw[pred_succ,zuG,cond_true,zc1 h3,qaa,zeI hf,qaa,zb4,hj,show ixZ (some j)=(j:Int)from rfl,zcU (by simpa using hj2),qaa,ztS (by simpa using hj2),qaa,zc1 h3c,qaa,← qaR,qbh,← e0,zce (by omega),zf0 (by omega) (by omega),em];exact ih
theorem zrm{f:Fc}(hf:FcOk f){us:List Nat}(hs:Sel f us){x:Int}:∀(m i:Nat) (l:List Nat),i+m=zae f.cs→l.length=zae (cof f us)→(∀ x∈l,x≤zdj)→
  ∃ z,zar f.T x (zfM f.cs (f.vs.map (stp us (cof f us))) i m) (iL l)=some (match zfI true f us m i l with | some l'=>.go (iL l')| none=>.brk z)
 | 0,i,l,_,_,_=>⟨[],rfl⟩
 | m+1,i,l,h,hl,hb=>by
  have hi:i<zae f.cs:=by omega
  have hk:=zsp hf hs hi;have hkl:ix f us i<l.length:=by omega
  have g1:=zpD hb (ix f us i);have g2:=Fc.zoL hf i;have e:=zo3 (b:=true) g1 g2;rw[cond_true]at e;rw[zd4,zrn hf hs];have es:zbE ((l.getD (ix f us i) 0:Nat):Int) ((f.get i:Nat):Int)=some (((gop true (l.getD (ix f us i) 0) (f.get i):Nat):Int),decide (gop true (l.getD (ix f us i) 0) (f.get i)≤zdj)):=by
   unfold zbE;have hm:gop true (l.getD (ix f us i) 0) (f.get i)≤zdj:=Nat.max_le.2 ⟨g1,g2⟩;rw[decide_eq_true hm,e]
  have e1:∀ ys,zar f.T x (((i:Int),((ix f us i:Nat):Int),iL (dig f.cs i)):: ys) (iL l)=bif decide (gop true (l.getD (ix f us i) 0) (f.get i)≤zdj)then zar f.T x ys (iL (l.set (ix f us i) (gop true (l.getD (ix f us i) 0) (f.get i))))else some (.brk (iL (l.set (ix f us i) (gop true (l.getD (ix f us i) 0) (f.get i))))):=by
   intro ys;show(zbq (iL l) ((ix f us i:Nat):Int)).bind _=_;rw[zcU hkl,qaa];simp only[];rw[show zbq f.T.factor.w (i:Int)=some ((f.get i:Nat):Int)from zrs hf hi,qaa,es,qaa];simp only[];rw[ztS hkl,qaa]
  rw[e1];unfold zfI;cases hd:decide (gop true (l.getD (ix f us i) 0) (f.get i)≤zdj)with
  | false=>exact⟨_,rfl⟩
  | true=>
   rw[cond_true,cond_true];refine zrm hf hs m (i+1) _ (by omega) (by rw[qa1]; exact hl) fun x hx=>?_
   rcases qb8 hx with h1 | h1
   ·exact hb x h1
   rw[h1]; exact of_decide_eq_true hd
theorem zr9{f:Fc}(hf:FcOk f){us:List Nat}(hs:Sel f us):zaU f.T (iL us)=some (match gat true f us with | some l=>(⟨iL us,iL (cof f us),iL l⟩,0)| none=>(noF,6)):=by
 have hl:=zgr hf hs;have hD:=zdu hf hs;have hp:=hD.prod;have hpf:=hf.prod;have hfl:=hf.le;have hfl2:=hf.len;have hcl:(cof f us).length=us.length:=by simp[cof]
 unfold zaU;have h1:=zqT hf hs (us.length+2) 0 1 (qaM _) (by omega) (by rw[qaQ]; omega) (qai _);rw[qbG,qa9,qcv,zdZ,qaQ,qbW]at h1;rw[zaQ,zdk (by omega),qaa,zcL,show zav (iL us) f.T (us.length+2) 1 0 (List.replicate us.length 0)=_ from h1,qaa];simp only[];rw[zdk (by omega),qaa,show f.T.factor.vars=iL f.vs from rfl,zaQ,zdk (by omega),qaa,zf0 (by omega) (by omega),show(((us.length:Int) - 1) - 0+2).toNat=us.length+1 by omega];have h2:=zqL hf hs us.length (us.length+1) (qai _) (by omega);rw[qaZ,qbN (by omega),zn2,zdZ,show zae ([]:List Nat)=1 from rfl]at h2;rw[show zas (iL us) f.T (iL (cof f us)) (us.length+1) 1 ((us.length:Int) - 1) (List.replicate f.vs.length 0)=_ from h2,qaa,zeO,qaa];simp only[];rw[show f.T.factor.zad=iL f.cs from rfl,zmk hf.zdN hf.le hf.prod (by rw[qa4,hf.len]) (fun s hs2=>by obtain⟨v,_,rfl⟩:=qaC.1 hs2; exact zre hf hs v),qaa];obtain⟨z,h3⟩:=zrm hf hs (x:=((zae (cof f us):Nat):Int)) (zae f.cs) 0 (List.replicate (zae (cof f us)) 0) (by omega) (by simp) zjx;rw[← zdZ,h3,qaa];unfold gat;cases zfI true f us (zae f.cs) 0 (List.replicate (zae (cof f us)) 0)<;> rfl
def rest(f:Fc)(v:Nat):List Nat:=f.vs.filter fun u=>!(u == v)
theorem zdL{f:Fc}(hf:FcOk f)(v:Nat):Sel f (rest f v):=⟨qbE _ hf.inc,fun u hu=>(qaW.1 hu).1⟩
theorem zlu{v:Nat}:∀ {vs:List Nat},v ∉ vs→vs.filter (fun u=>!(u == v))=vs:=fun {vs} h=>List.filter_eq_self.2 fun u hu=>by
 rw[show(u == v)=false from beq_false_of_ne (fun e=>h (e ▸ hu))]; rfl
theorem zlA:∀ {vs:List Nat} {v k:Nat},vs.Nodup→pos vs v=some k→vs.take k ++ vs.drop (k+1)=vs.filter fun u=>!(u == v)
 | [],_,_,_,h=>by cases h
 | u :: us,v,k,hn,h=>by
  obtain⟨h1,h2⟩:=qbq.1 hn;rw[show pos (u :: us) v=bif u == v then some 0 else(pos us v).map (· + 1)from rfl]at h;cases hb:(u == v)with
  | true=>
   rw[hb,cond_true]at h;cases h;have:u=v:=by simpa using hb
   subst this;rw[qcg (by simp),zlu h1];rfl
  | false=>
   rw[hb,cond_false]at h;cases hp:pos us v with
   | none=>rw[hp]at h; cases h
   | some j=>
    rw[hp]at h;cases h;rw[qch (by rw[hb]; rfl),← zlA h2 hp];rfl
theorem zuF{xs:List Nat}{k:Nat}(h:k<xs.length)(hl:xs.length<1000):znN (iL xs) (k:Int) (w64 ((k:Int)+1))=some (iL (xs.take k ++ xs.drop (k+1))):=by
 rw[zbe (by omega)];unfold znN;rw[if_pos ⟨⟨by omega,by omega,by rw[zaQ]; omega⟩,by rw[zaQ]; omega⟩,qaE,qaE];simp[iL]
def zuH(o:Option (List Nat))(f:Fc)(us:List Nat):S_api_Factor×Int:=match o with
 | some l=>(⟨iL us,iL (cof f us),iL l⟩,0)
 | none=>(noF,6)
theorem zhb{f:Fc}(hf:FcOk f){v k:Nat}(hp:pos f.vs v=some k):zde 8 (iL f.vs)=some (iL f.vs)∧znN (iL f.vs) (k:Int) (w64 ((k:Int)+1))=some (iL (rest f v)):=by
 have h1:=hf.le;have h2:=hf.len;obtain⟨hk,_⟩:=zb6 hp;refine⟨zi2 (by rw[zaQ]; omega),?_⟩;rw[zuF hk (by omega),zlA (zaP hf.inc) hp];rfl
theorem zqB{f:Fc}(hf:FcOk f){v k:Nat}(hp:pos f.vs v=some k):zaZ f.D (v:Int)=some (zuH (gat false f (rest f v)) f (rest f v)):=by
 obtain⟨h1,h2⟩:=zhb hf hp;unfold zaZ zcn;rw[zhw hf,qaa];simp only[];rw[show((0:Int)== 0)=true from rfl,cond_true,zeI hf,qaa,zb4,hp,show ixZ (some k)=(k:Int)from rfl,show decide ((k:Int)<0)=false from decide_eq_false (by omega),cond_false,show f.T.factor.vars=iL f.vs from rfl,h1,qaa,h2,qaa,zp4 hf (zdL hf v),qaa];cases gat false f (rest f v)<;> rfl
theorem zp9{f:Fc}(hf:FcOk f){v k:Nat}(hp:pos f.vs v=some k):zbc f.D (v:Int)=some (zuH (gat true f (rest f v)) f (rest f v)):=by
 obtain⟨h1,h2⟩:=zhb hf hp;unfold zbc zck;rw[zhw hf,qaa];simp only[];rw[show((0:Int)== 0)=true from rfl,cond_true,zeI hf,qaa,zb4,hp,show ixZ (some k)=(k:Int)from rfl,show decide ((k:Int)<0)=false from decide_eq_false (by omega),cond_false,show f.T.factor.vars=iL f.vs from rfl,h1,qaa,h2,qaa,zr9 hf (zdL hf v),qaa];cases gat true f (rest f v)<;> rfl
def gF(f:Fc)(us l:List Nat):Fc:=⟨us,cof f us,l⟩
theorem zt7{f:Fc}(hf:FcOk f){us l:List Nat}(hs:Sel f us){b:Bool}(h:gat b f us=some l):FcOk (gF f us l):=by
 have hD:=zdu hf hs;exact⟨hD.len,hD.le,hD.zdN,hD.prod,(zkK h).trans (by simp[gF]),hs.inc,fun v hv=>hf.var v (hs.mem v hv),zmw zjx h⟩
def zgj:List Nat→Nat→Nat→Nat→Nat
 | [],_,_,i=>i
 | _ :: cs,0,p,i=>p * zae cs+i
 | _ :: cs,k+1,p,i=>(i / zae (cs.eraseIdx k))* zae cs+zgj cs k p (i % zae (cs.eraseIdx k))
theorem zeb{cs:List Nat}(h:∀ c∈cs,1≤c∧c≤8)(k:Nat):∀ c∈cs.eraseIdx k,1≤c∧c≤8:=fun c hc=>h c (List.mem_of_mem_eraseIdx hc)
theorem zji:∀ {cs:List Nat} {k p i:Nat},(∀ c∈cs,1≤c∧c≤8)→(hk:k<cs.length)→p<cs[k]→i<zae (cs.eraseIdx k)→zgj cs k p i<zae cs
 | [],k,_,_,_,hk,_,_=>by simp at hk
 | c :: cs,0,p,i,_,_,hp,hi=>by
  have h1:(p+1)* zae cs≤c * zae cs:=qaq _ hp;have h2:i<zae cs:=hi;show p * zae cs+i<c * zae cs;rw[qaJ]at h1;omega
 | c :: cs,k+1,p,i,hc,hk,hp,hi=>by
  have hc2:=fun d hd=>hc d (qak c hd)
  have hi2:i<c * zae (cs.eraseIdx k):=hi;have hq:0<zae (cs.eraseIdx k):=zbr (zeb hc2 k);have h1:=zji hc2 (by simpa using hk) hp (qbw i hq);have h2:i / zae (cs.eraseIdx k)<c:=qb7 (by rwa [qbh]);have h3:(i / zae (cs.eraseIdx k)+1)* zae cs≤c * zae cs:=qaq _ h2;show i / zae (cs.eraseIdx k)* zae cs+zgj cs k p (i % zae (cs.eraseIdx k))<c * zae cs;rw[qaJ]at h3;omega
theorem dm1{a b P:Nat}(h:b<P):(a * P+b) / P=a:=by
 rw[Nat.add_comm,Nat.add_mul_div_right _ _ (by omega),Nat.div_eq_of_lt h,qaV]
theorem dm2{a b P:Nat}(h:b<P):(a * P+b) % P=b:=by
 rw[Nat.add_comm,Nat.add_mul_mod_self_right,qaY h]
theorem zi6:∀ {cs:List Nat} {k p i:Nat},(∀ c∈cs,1≤c∧c≤8)→(hk:k<cs.length)→p<cs[k]→i<zae (cs.eraseIdx k)→(dig cs (zgj cs k p i)).getD k 0=p∧(dig cs (zgj cs k p i)).eraseIdx k=dig (cs.eraseIdx k) i
 | [],k,_,_,_,hk,_,_=>by simp at hk
 | c :: cs,0,p,i,_,_,hp,hi=>by
  have hi2:i<zae cs:=hi;rw[show dig (c :: cs) (zgj (c :: cs) 0 p i)=(p * zae cs+i) / zae cs :: dig cs ((p * zae cs+i) % zae cs)from rfl,dm1 hi2,dm2 hi2];exact⟨rfl,rfl⟩
 | c :: cs,k+1,p,i,hc,hk,hp,hi=>by
  have hc2:=fun d hd=>hc d (qak c hd)
  have hq:0<zae (cs.eraseIdx k):=zbr (zeb hc2 k);have h1:=zji hc2 (by simpa using hk) hp (qbw i hq);obtain⟨h2,h3⟩:=zi6 hc2 (by simpa using hk) hp (qbw i hq);rw[show dig (c :: cs) (zgj (c :: cs) (k+1) p i)=(i / zae (cs.eraseIdx k)* zae cs+zgj cs k p (i % zae (cs.eraseIdx k))) / zae cs :: dig cs ((i / zae (cs.eraseIdx k)* zae cs+zgj cs k p (i % zae (cs.eraseIdx k))) % zae cs)from rfl,dm1 h1,dm2 h1];refine⟨by rw[List.getD_cons_succ]; exact h2,?_⟩;rw[qci,h3];rfl
theorem zmh:∀ {cs:List Nat} {k p j:Nat},(∀ c∈cs,1≤c∧c≤8)→(hk:k<cs.length)→j<zae cs→(dig cs j).getD k 0=p→∃ i,i<zae (cs.eraseIdx k)∧zgj cs k p i=j
 | [],k,_,_,_,hk,_,_=>by simp at hk
 | c :: cs,0,p,j,hc,_,hj,hd=>by
  have hp:0<zae cs:=zbr fun d hd=>hc d (qak c hd)
  have e:j / zae cs=p:=hd;refine⟨j % zae cs,qbw _ hp,?_⟩;show p * zae cs+j % zae cs=j;rw[← e,qbh,qb3]
 | c :: cs,k+1,p,j,hc,hk,hj,hd=>by
  have hc2:=fun d hd=>hc d (qak c hd)
  have hp:0<zae cs:=zbr hc2;have hj2:j<c * zae cs:=hj;have e:(dig cs (j % zae cs)).getD k 0=p:=by rw[← hd]; rfl
  obtain⟨i,h1,h2⟩:=zmh hc2 (by simpa using hk) (qbw _ hp) e;have ha:j / zae cs<c:=qb7 (by rwa [qbh]);refine⟨j / zae cs * zae (cs.eraseIdx k)+i,?_,?_⟩
  ·show _<c * zae (cs.eraseIdx k);have h3:(j / zae cs+1)* zae (cs.eraseIdx k)≤c * zae (cs.eraseIdx k):=qaq _ ha;rw[qaJ]at h3;omega
  show(j / zae cs * zae (cs.eraseIdx k)+i) / zae (cs.eraseIdx k)* zae cs+zgj cs k p ((j / zae cs * zae (cs.eraseIdx k)+i) % zae (cs.eraseIdx k))=j;rw[dm1 h1,dm2 h1,h2,qbh,qb3]
theorem zmz:∀ {cs:List Nat} {k p i:Nat},(∀ c∈cs,1≤c∧c≤8)→(hk:k<cs.length)→i<zae (cs.eraseIdx k)→dot (dig (cs.eraseIdx k) i) ((zaC cs).eraseIdx k)+p * (zaC cs).getD k 0=zgj cs k p i
 | [],k,_,_,_,hk,_=>by simp at hk
 | c :: cs,0,p,i,hc,_,hi=>by
  have h:dot (dig cs i) (zaC cs)=i:=zhD (fun d hd=>hc d (qak c hd)) hi;show dot (dig cs i) (zaC cs)+p * zae cs=p * zae cs+i;omega
 | c :: cs,k+1,p,i,hc,hk,hi=>by
  have hc2:=fun d hd=>hc d (qak c hd)
  have hq:0<zae (cs.eraseIdx k):=zbr (zeb hc2 k);have ih:=zmz (p:=p) hc2 (show k<cs.length by simpa using hk) (qbw i hq);rw[qci,show zaC (c :: cs)=zae cs :: zaC cs from rfl,qci,List.getD_cons_succ];show i / zae (cs.eraseIdx k)* zae cs+dot (dig (cs.eraseIdx k) (i % zae (cs.eraseIdx k))) ((zaC cs).eraseIdx k)+p * (zaC cs).getD k 0=i / zae (cs.eraseIdx k)* zae cs+zgj cs k p (i % zae (cs.eraseIdx k));omega
theorem zrO{us cs:List Nat}(hn:us.Nodup)(hl:us.length=cs.length):us.map (stp us cs)=zaC cs:=by
 refine qcp (by rw[qa4,zeZ,hl]) fun i h1 h2=>?_
 have hi:i<us.length:=by simpa using h1
 have hp:∀ {xs:List Nat} {i:Nat} (hn:xs.Nodup) (h:i<xs.length),pos xs xs[i]=some i:=by
  intro xs;induction xs with
  | nil=>intro i _ h; simp at h
  | cons x xs ih=>
   intro i hn h;obtain⟨h1,h2⟩:=qbq.1 hn;cases i with
   | zero=>rw[show(x :: xs)[0]=x from rfl,show pos (x :: xs) x=bif x == x then some 0 else(pos xs x).map (· + 1)from rfl,beq_self_eq_true,cond_true]
   | succ i=>
    have hi:i<xs.length:=by simpa using h
    rw[show(x :: xs)[i+1]=xs[i]from rfl,show pos (x :: xs) xs[i]=bif x == xs[i]then some 0 else(pos xs xs[i]).map (· + 1)from rfl,show(x == xs[i])=false from beq_false_of_ne (fun e=>h1 (e ▸ qaF hi)),cond_false,ih h2 hi];rfl
 rw[List.getElem_map,zg4 hl,hp hn hi];simp only;rw[qam,qaf h2];rfl
theorem erase_eq{α:Type}(xs:List α)(k:Nat):xs.take k ++ xs.drop (k+1)=xs.eraseIdx k:=(List.eraseIdx_eq_take_drop_succ xs k).symm
theorem zf5{α β:Type}(g:α→β)(xs:List α)(k:Nat):(xs.eraseIdx k).map g=(xs.map g).eraseIdx k:=by
 rw[← erase_eq,← erase_eq,List.map_append,List.map_take,List.map_drop]
theorem zjn{f:Fc}(hf:FcOk f){v k:Nat}(hp:pos f.vs v=some k):rest f v=f.vs.eraseIdx k:=by
 rw[← erase_eq,zlA (zaP hf.inc) hp]; rfl
theorem zf2{f:Fc}(hf:FcOk f){v k:Nat}(hp:pos f.vs v=some k):cof f (rest f v)=f.cs.eraseIdx k:=by
 unfold cof;rw[zjn hf hp,zf5,zmV (zaP hf.inc) hf.len]
theorem zij:∀ {cs:List Nat} {k:Nat} (h:k<cs.length),zae cs=cs[k] * zae (cs.eraseIdx k)
 | [],_,h=>by simp at h
 | c :: cs,0,_=>rfl
 | c :: cs,k+1,h=>by
  have hk:k<cs.length:=by simpa using h
  have ih:=zij hk;show c * zae cs=cs[k] * (c * zae (cs.eraseIdx k));rw[ih,Nat.mul_left_comm]
def fixF(f:Fc)(v k p:Nat):Fc:=⟨rest f v,f.cs.eraseIdx k,(List.range' 0 (zae (f.cs.eraseIdx k))).map fun j=>f.get (zgj f.cs k p j)⟩
theorem zqU{f:Fc}(hf:FcOk f){k p:Nat}{q:Int}(hk:k<f.cs.length)(hp:p<f.cs[k]):∀(m i:Nat) (ys:List Nat),i+m=zae (f.cs.eraseIdx k)→ys.length=i →
  zbP (f.T,0) (k:Int) (p:Int) q (zfM (f.cs.eraseIdx k) ((zaC f.cs).eraseIdx k) i m) (iL (ys ++ List.replicate m 0))=some (iL (ys ++ (List.range' i m).map fun j=>f.get (zgj f.cs k p j)))
 | 0,i,ys,_,_=>by simp[zfM,zbP]
 | m+1,i,ys,h,hy=>by
  have hi:i<zae (f.cs.eraseIdx k):=by omega
  have hpf:=hf.prod;have h1:=zji hf.zdN hk hp hi;have h2:=zmz (p:=p) hf.zdN hk hi;have hks:k<(zaC f.cs).length:=by rw[zeZ]; exact hk
  rw[zd4];show(zbq (iL (zaC f.cs)) (k:Int)).bind _=_;rw[zcU hks,qaa];simp only[];rw[← qaR,zce (by omega),← qb4,h2,zce (by omega),show zbq (f.T,(0:Int)).1.factor.w ((zgj f.cs k p i:Nat):Int)=some ((f.get (zgj f.cs k p i):Nat):Int)from zrs hf h1,qaa];rw[qaP,zcm hy,qaa,zc7 hy,qaa,show ys ++ f.get (zgj f.cs k p i):: List.replicate m 0=(ys ++ [f.get (zgj f.cs k p i)])++ List.replicate m 0 by simp,zqU hf hk hp m (i+1) _ (by omega) (by simp[hy]),qbC,qay,qbe,qa3]
theorem zqe{f:Fc}(hf:FcOk f){v k p:Nat}(hv:pos f.vs v=some k)(hk:k<f.cs.length)(hp:p<f.cs[k]):zbb f.D (v:Int) (p:Int)=some ((fixF f v k p).D,0):=by
 have hl:=hf.le;have hpf:=hf.prod;have hck:=hf.zdN f.cs[k] (qaF hk);have e0:=zij hk;have hE:zae (f.cs.eraseIdx k)≤zae f.cs:=by rw[e0]; exact qcj _ (by omega)
 obtain⟨h1,h2⟩:=zhb hf hv;have hn:=zaP hf.inc;have hrl:(rest f v).length≤100:=by
  have:=(List.length_filter_le (fun u=>!(u == v)) f.vs); have:=hf.len; unfold rest; omega
 have hel:(f.cs.eraseIdx k).length≤12:=qat (List.eraseIdx_sublist _ _).length_le hl;unfold zbb;rw[zhw hf,qaa];simp only[]
 rw[show((0:Int)== 0)=true from rfl,cond_true,zeI hf,qaa,zb4,hv,show ixZ (some k)=(k:Int)from rfl,show decide ((k:Int)<0)=false from decide_eq_false (by omega),cond_false,show decide ((p:Int)<0)=false from decide_eq_false (by omega),cond_false,show f.T.factor.zad=iL f.cs from rfl,zc1 hk,qaa,show decide (((f.cs[k]:Nat):Int)≤(p:Int))=false from decide_eq_false (by omega),qaa,cond_false,show f.T.factor.vars=iL f.vs from rfl,h1,qaa,h2,qaa,zi2 (by rw[zaQ]; omega),qaa,zuF hk (by omega),erase_eq,qaa,qaa,show f.T.factor.w=iL f.ws from rfl,zaQ,hf.size,zul (by omega) (by show _≤4611686018427387903; omega),qaa,
  show zae f.cs / f.cs[k]=zae (f.cs.eraseIdx k) by rw[e0,Nat.mul_div_cancel_left _ (by omega)],zdk (by omega),qaa,zlc hf hrl,qaa,zeO,qaa]
 simp only[];have es:(rest f v).map (stp f.vs f.cs)=(zaC f.cs).eraseIdx k:=by rw[zjn hf hv,zf5,zrO hn hf.len]
 rw[es,zmk (zeb hf.zdN k) hel (by omega) (by rw[List.length_eraseIdx,List.length_eraseIdx,zeZ]) (fun s hs=>zi3 (fun c hc=>(hf.zdN c hc).1) hf.prod s (List.mem_of_mem_eraseIdx hs)),qaa];have e2:=zqU hf (q:=((zae (f.cs.eraseIdx k):Nat):Int)) hk hp (zae (f.cs.eraseIdx k)) 0 [] (by omega) rfl;rw[qa9]at e2;rw[← zdZ,e2,qaa];rfl
theorem zsw{f:Fc}(hf:FcOk f){v k:Nat}(hv:pos f.vs v=some k)(hk:k<f.cs.length)(p:Nat):FcOk (fixF f v k p):=by
 have hs:=zdL hf v;have hD:=zdu hf hs;rw[zf2 hf hv]at hD;refine⟨hD.len,hD.le,hD.zdN,hD.prod,by simp[fixF],hs.inc,fun u hu=>hf.var u (hs.mem u hu),fun w hw=>?_⟩;obtain⟨j,_,rfl⟩:=qaC.1 hw;exact Fc.zoL hf _
section
variable {p1 p2 p4:Int} {x9:S_api_Factor}
end
section
variable {p1 p2 p4:Int} {x y:S_api_Factor}
end
end Go.Dc
