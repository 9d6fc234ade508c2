/-
 Plain laws: Divide, by the program and by the reference. Conditions: none.
-/
import Derived.Test.YtnfgibomhkbcpaaFvJ9
import Derived.Test.YtnfgibomhkbcpaaFvJ7
set_option linter.unusedSimpArgs false
set_option linter.unusedVariables false
namespace Go.Dc
open Go Go.Mx Go.Lx
theorem zrq(b:Nat):((b:Int)== 0)=(b == 0):=ziK b 0
theorem zsJ{a b:Nat}(hb:¬ b=0):zo1 (a:Int) (b:Int)=some ((a % b:Nat):Int):=by
 unfold zo1;rw[zrq,beq_false_of_ne hb,cond_false]; rfl
theorem zs0{a b:Nat}(hb:¬ b=0)(ha:a≤zgx):zpM .i64 (a:Int) (b:Int)=some ((a / b:Nat):Int):=by
 have h1:a≤4611686018427387903:=ha;have h2:a / b≤a:=qch a b;unfold zpM;rw[zrq,beq_false_of_ne hb,cond_false,show((a:Int).tdiv (b:Int))=((a / b:Nat):Int)from rfl];exact congrArg some (zdK (n:=a / b) (by omega))
theorem ziJ{vs:List Nat}:∀ {us:List Nat},hasB vs us=true↔∀ u∈us,u∈vs
 | []=>by simp[hasB]
 | u :: us=>by
  rw[show hasB vs (u :: us)=((pos vs u).isSome && hasB vs us)from rfl,qag,ziJ,zla,List.forall_mem_cons,decide_eq_true_iff]
def Fc.get(f:Fc)(j:Nat):Nat:=f.ws.getD j 0
theorem Fc.zqg{f:Fc}(hf:FcOk f)(k:Nat):f.get k≤zgx:=by
 unfold Fc.get;by_cases h:k<f.ws.length
 ·rw[qaC,qaf h];exact hf.num _ (qbn h)
 rw[qaC,qbc (by omega)];exact qaS _
def zrJ(a b:Nat):Bool:=decide (a=0∨(b≠0∧a % b=0))
theorem zta(a b:Nat){α:Type}(s r:Option α)(q:Int→Option α)(ha:a≤zgx):
  (((bif ((b:Int)== 0)then some ((a:Int)== 0)else some false:Option Bool)).bind fun v87=>bif v87 then s else
   ((bif ((b:Int)== 0)then some true else(zo1 (a:Int) (b:Int)).bind fun q32=>some (!(q32 == 0)):Option Bool)).bind fun v94=>bif v94 then r else(zpM .i64 (a:Int) (b:Int)).bind q)=
  bif b == 0 then(bif a == 0 then s else r)else(bif a % b == 0 then q ((a / b:Nat):Int)else r):=by
 rw[zrq];by_cases hb:b=0
 ·subst hb;rw[show((0:Nat)== 0)=true from rfl,cond_true,qac,cond_true,zrq,cond_true,qac,cond_true]
 rw[beq_false_of_ne hb,cond_false,qac,cond_false,cond_false,zsJ hb,qac,qac,zrq,zs0 hb ha,qac];cases(a % b == 0)<;> rfl
theorem FcOk.dom{f:Fc}(h:FcOk f):Dom f.vs f.cs:=⟨h.len,zcx h.inc,h.zmK,h.le,h.prod⟩
theorem zq4{f g:Fc}(hg:FcOk g)(hh:∀ u∈g.vs,u∈f.vs)(ha:Agr f g):Sub f.vs f.cs g.vs g.cs:=
 zlM hg.len (zcx hg.inc) fun u hu=>⟨hh u hu,ha u (hh u hu) hu⟩
theorem zpo{f:Fc}{i:Nat}(hf:FcOk f)(h:i<zan f.cs):zbl f.D.w (i:Int)=some ((f.get i:Nat):Int):=zeE (by rw[hf.size]; exact h)
def zrz(f g:Fc)(j:Nat):Nat:=f.get j / g.at f.vs (dig f.cs j)
def zrB(f g:Fc)(j:Nat):Bool:=zrJ (f.get j) (g.at f.vs (dig f.cs j))
theorem zms(a b:Nat):(a=0∧zrJ a b=true∧a / b=0)∨(¬ a=0∧b=0∧zrJ a b=false)∨(¬ a=0∧¬ b=0∧a % b=0∧zrJ a b=true)∨(¬ a=0∧¬ b=0∧¬ a % b=0∧zrJ a b=false):=by
 unfold zrJ;by_cases ha:a=0
 ·subst ha; simp
 by_cases hb:b=0
 ·subst hb; simp[ha]
 by_cases hm:a % b=0
 ·simp[ha,hb,hm]
 simp[ha,hb,hm]
theorem zqf{f g:Fc}(hf:FcOk f)(hg:FcOk g)(hs:Sub f.vs f.cs g.vs g.cs):∀(m i:Nat) (ys:List Nat),i+m=zan f.cs→ys.length=i →
  zaK (f.T,0) (g.T,0) (zf9 f.cs (f.vs.map (stp g.vs g.cs)) i m) (iL (ys ++ List.replicate m 0))=
   some (bif (List.range' i m).all (zrB f g)then .go (iL (ys ++ (List.range' i m).map (zrz f g)))else .ret (noF,4))
 | 0,i,ys,_,_=>by simp[zf9,zaK]
 | m+1,i,ys,h,hy=>by
  have hb:=zeC hf.zmK (show i<zan f.cs by omega);rw[zf8];show(zbl f.D.w (i:Int)).bind _=_;rw[zpo hf (by omega),qac];simp only[];rw[show(g.T,(0:Int)).1.factor.w=g.D.w from rfl,wat hg hf.dom hs hb,qac];rw[zta _ _ _ _ _ (Fc.zqg hf i)];have e0:ys ++ List.replicate (m+1) 0=(ys ++ [0])++ List.replicate m 0:=by simp[qaI]
  have go:∀ x,x=zrz f g i→zrB f g i=true→zaK (f.T,0) (g.T,0) (zf9 f.cs (f.vs.map (stp g.vs g.cs)) (i+1) m) (iL ((ys ++ [x])++ List.replicate m 0))=
    some (bif (List.range' i (m+1)).all (zrB f g)then .go (iL (ys ++ (List.range' i (m+1)).map (zrz f g)))else .ret (noF,4)):=by
   intro x hx hk;rw[zqf hf hg hs m (i+1) _ (by omega) (by simp[hy]),qbu,qbU,qaA,hk,qa6,hx];simp
  have no:zrB f g i=false→some (Out.ret (noF,(4:Int)))=some (bif (List.range' i (m+1)).all (zrB f g)then Out.go (iL (ys ++ (List.range' i (m+1)).map (zrz f g)))else .ret (noF,4)):=by
   intro hk;rw[qbu,qbU,hk,Bool.false_and,cond_false]
  rcases zms (f.get i) (g.at f.vs (dig f.cs i))with⟨h1,h2,h3⟩| ⟨h1,h2,h3⟩| ⟨h1,h2,h3,h4⟩| ⟨h1,h2,h3,h4⟩
  ·rw[h1,show((0:Nat)== 0)=true from rfl,cond_true,Nat.zero_mod,show((0:Nat)== 0)=true from rfl,cond_true,Nat.zero_div]
   rw[show zbl (iL (ys ++ List.replicate (m+1) 0)) (i:Int)=some ((0:Nat):Int)from by rw[qaI]; exact zcj hy,qac,
    show zgg (iL (ys ++ List.replicate (m+1) 0)) (i:Int) ((0:Nat):Int)=some (iL (ys ++ List.replicate (m+1) 0))from by rw[qaI]; exact zc8 hy,qac]
   rw[e0,go 0 (by unfold zrz; exact h3.symm) h2];cases(g.at f.vs (dig f.cs i)== 0)<;> rfl
  ·rw[h2,show((0:Nat)== 0)=true from rfl,cond_true,beq_false_of_ne h1,cond_false];exact no h3
  ·rw[beq_false_of_ne h2,cond_false,h3,show((0:Nat)== 0)=true from rfl,cond_true,qaI,zcj hy,qac,zc8 hy,qac];have:=go _ rfl h4;rw[qbi,qa5]at this;exact this
  rw[beq_false_of_ne h2,cond_false,beq_false_of_ne h3,cond_false];exact no h4
def zrA(f g:Fc):Bool:=(List.range' 0 (zan f.cs)).all (zrB f g)
def zeI(f g:Fc):Fc:=⟨f.vs,f.cs,(List.range' 0 (zan f.cs)).map (zrz f g)⟩
theorem ztp{f g:Fc}(hf:FcOk f)(hg:FcOk g):zaU f.D g.D=some (bif hasB f.vs g.vs then bif zdv f g 0 f.vs then bif zrA f g then((zeI f g).D,0)else(noF,4)else(noF,2)else(noF,2)):=by
 have hp4:=hf.prod;have hl:=hf.le;have hl2:=hf.len;unfold zaU;rw[ziE hf,qac];simp only[];rw[show((0:Int)== 0)=true from rfl,cond_true,ziE hg,qac];simp only[];rw[show((0:Int)== 0)=true from rfl,cond_true,show g.T.factor.vars=iL g.vs from rfl,zaM,zc2];have e1:=zp3 hf hg (g.vs.length+2) 0 (qaS _) (by omega);rw[show zbd (g.T,0) (f.T,0) (g.vs.length+2) 0=_ from e1,qac,qbb];cases hh:hasB f.vs g.vs with
 | false=>rfl
 | true=>
  rw[cond_true,cond_true];simp only[];rw[zov hf hg,qac];cases ha:zdv f g 0 f.vs with
  | false=>rfl
  | true=>
   have hs:=zq4 hg (ziJ.1 hh) ((zft hf hg).1 ha);rw[cond_true,cond_true,show f.T.factor.w=iL f.ws from rfl,zaM,hf.size,zf6 (by omega),qac,show f.T.factor.vars=iL f.vs from rfl,zk3 hg (by omega),qac,zg8,qac];simp only[];rw[show f.T.factor.zad=iL f.cs from rfl,zhm hg hf.dom,qac,← zgV];have e2:=zqf hf hg hs (zan f.cs) 0 [] (by omega) rfl;rw[qa8]at e2;rw[e2,qac];unfold zrA;cases hk:(List.range' 0 (zan f.cs)).all (zrB f g)with
   | false=>rfl
   | true=>
    rw[cond_true,cond_true];simp only[];rw[zio (by rw[zaM]; omega),qac,zio (by rw[zaM]; omega),qac];rfl
theorem zte(n:Nat):IntKind.u8.wrap (n:Int)=((n % 256:Nat):Int):=by
 simp only[IntKind.wrap,IntKind.bits,IntKind.signed]; simp
theorem zlH{n:Nat}(h:n<256):IntKind.u8.wrap (n:Int)=(n:Int):=by
 rw[zte,qaY h]
theorem ztI{a b:Nat}(ha:a<256)(hb:b<256):zmY .u8 (a:Int) (b:Int)=((a &&& b:Nat):Int):=by
 have h:(BitVec.ofInt 8 (a:Int) &&& BitVec.ofInt 8 (b:Int)).toNat=a &&& b:=by
  simp only[qca,BitVec.toNat_and,BitVec.toNat_ofNat];rw[qaY ha,qaY hb]
 show IntKind.u8.wrap ((BitVec.ofInt 8 (a:Int) &&& BitVec.ofInt 8 (b:Int)).toNat:Int)=_;rw[h];exact zlH (qb4 Nat.and_le_left ha)
theorem orB{a b:Nat}(ha:a<256)(hb:b<256):orI .u8 (a:Int) (b:Int)=((a ||| b:Nat):Int):=by
 have h:(BitVec.ofInt 8 (a:Int)||| BitVec.ofInt 8 (b:Int)).toNat=a ||| b:=by
  simp only[qca,BitVec.toNat_or,BitVec.toNat_ofNat];rw[qaY ha,qaY hb]
 show IntKind.u8.wrap ((BitVec.ofInt 8 (a:Int)||| BitVec.ofInt 8 (b:Int)).toNat:Int)=_;rw[h];exact zlH (Nat.or_lt_two_pow (n:=8) ha hb)
theorem ztQ{a v:Nat}(hv:v<8):zl1 .u8 (a:Int) (v:Int)=some ((a >>> v:Nat):Int):=by
 unfold zl1;rw[if_pos (by omega)];congr 1
 have h1:min (v:Int).toNat IntKind.u8.bits=v:=by
  rw[show IntKind.u8.bits=8 from rfl,qaK]; exact qbH (by omega)
 rw[h1,qbp];have h2:((2:Int) ^ v)=((2 ^ v:Nat):Int):=by simp
 rw[h2,Int.fdiv_eq_ediv_of_nonneg _ (qbR _)];rfl
theorem ztM{a v:Nat}(ha:a<256)(hv:v<8):∃ q:Int,zl1 .u8 (a:Int) (v:Int)=some q∧(zmY .u8 q 1 == 1)=a.testBit v:=by
 refine⟨_,ztQ hv,?_⟩;rw[show(1:Int)=((1:Nat):Int)from rfl,ztI (qb4 (by rw[qbp]; exact qch _ _) ha) (by decide),ztH,ziK];cases a.testBit v<;>rfl
def zfp(v:Nat):Nat:=[2,3,1,2,2].getD v 0
def drV(w:Nat):List Nat:=(List.range' 0 5).filter w.testBit
def drC(w:Nat):List Nat:=(drV w).map zfp
theorem ziF{w:Nat}(hw:w<256){n:List Int}{b:Bool}:∀(m v k:Nat) (x y:List Nat),v+m=5→x.length≤v→y.length≤v→m<k →
  zaD ⟨(w:Int),n,b⟩ k (v:Int) (iL x) (iL y)=some (iL (x ++ (List.range' v m).filter w.testBit),iL (y ++ ((List.range' v m).filter w.testBit).map zfp))
 | _,_,0,_,_,_,_,_,h=>absurd h (qaV _)
 | 0,v,k+1,x,y,h,_,_,_=>by
  unfold zaD;rw[show decide ((v:Int)<5)=false from decide_eq_false (by omega),cond_false];simp
 | m+1,v,k+1,x,y,h,hx,hy,hk=>by
  obtain⟨q,h1,h2⟩:=ztM (a:=w) (v:=v) hw (by omega);unfold zaD;rw[show decide ((v:Int)<5)=true from decide_eq_true (by omega),cond_true,zcY (by omega),h1,qac,h2,qbu];cases hb:w.testBit v with
  | false=>
   rw[cond_false,qac];simp only[];rw[zbf (by omega),ziF hw m (v+1) k _ _ (by omega) (by omega) (by omega) (by omega),List.filter_cons_of_neg (by rw[hb]; decide)]
  | true=>
   rw[cond_true,zqu (by omega),qac,show zbl ([2,3,1,2,2]:List Int) (v:Int)=some ((zfp v:Nat):Int)from zeE (xs:=[2,3,1,2,2]) (by simp; omega),qac,zqu (by omega),qac,qac];simp only[];rw[zbf (by omega),ziF hw m (v+1) k _ _ (by omega) (by simp; omega) (by simp; omega) (by omega),List.filter_cons_of_pos hb];simp
def zm2(n:List Nat)(j:Nat):Nat:=bif n.length == 0 then 1 else n.getD (j % n.length) 0 % 10
theorem zkY(n:List Nat)(j:Nat):zm2 n j≤9:=by
 unfold zm2;cases(n.length == 0)
 ·rw[cond_false]; omega
 rw[cond_true]; omega
def zrK(b:Bool):Nat:=bif b then 1000000000000000 else 1
theorem znN{n:List Nat}(j:Nat):((bif (decide (0<((iL n).length:Int)))then((zo1 (j:Int) ((iL n).length:Int)).bind fun q16=>(zbl (iL n) q16).bind fun x18=>some (w64 (x18.tmod 10)))else some 1:Option Int))=some ((zm2 n j:Nat):Int):=by
 unfold zm2;rw[zaM];by_cases h:n.length=0
 ·rw[h,show decide ((0:Int)<((0:Nat):Int))=false from rfl,cond_false,show((0:Nat)== 0)=true from rfl,cond_true]; rfl
 rw[show decide ((0:Int)<(n.length:Int))=true from decide_eq_true (by omega),cond_true,beq_false_of_ne h,cond_false,zsJ h,qac,zeE (qbZ _ (by omega)),qac];congr 1
 rw[show((n.getD (j % n.length) 0:Nat):Int).tmod 10=((n.getD (j % n.length) 0 % 10:Nat):Int)from rfl,zdK (by omega)]
theorem zlz{n:List Nat}{c:List Nat}{w:Int}{b b2:Bool}(hc:zbL (iL c)=true)(hp:zan c≤4096):∀(m i k:Nat) (ys:List Nat),i+m=zan c→ys.length=i→m<k →
  zaE (iL c) ⟨w,iL n,b⟩ ((zrK b2:Nat):Int) k (i:Int) (iL ys)=some (iL (ys ++ (List.range' i m).map fun j=>zm2 n j * zrK b2))
 | _,_,0,_,_,_,h=>absurd h (qaV _)
 | 0,i,k+1,ys,h,hy,_=>by
  unfold zaE;rw[zmh hc,qac,zek];obtain rfl:i=zan c:=by omega
  rw[zoJ,cond_false];simp
 | m+1,i,k+1,ys,h,hy,hk=>by
  have h1:=zkY n i;have h2:zm2 n i * zrK b2≤9000000000000000:=by
   cases b2
   ·show zm2 n i * 1≤_; omega
   show zm2 n i * 1000000000000000≤_; omega
  unfold zaE;rw[zmh hc,qac,zek,znt (by omega),cond_true,znN,qac,← qa4,zdK (by omega),zqu (by omega),qac,zbf (by omega),zlz hc hp m (i+1) k _ (by omega) (by simp[hy]) (by omega),qbu];simp
def drF(w:Nat)(n:List Nat)(b:Bool):Fc:=⟨drV w,drC w,(List.range' 0 (zan (drC w))).map fun j=>zm2 n j * zrK b⟩
theorem zqn:∀ w,w<256→zbL (iL (drC w))=true∧zan (drC w)≤24:=by decide +kernel
theorem zli{w:Nat}(hw:w<256)(n:List Nat)(b:Bool):zaB 5000 ⟨(w:Int),iL n,b⟩=some (drF w n b).D:=by
 obtain⟨h1,h2⟩:=zqn w hw;unfold zaB;have e1:=ziF hw (n:=iL n) (b:=b) 5 0 ((5 - 0+2:Int).toNat) [] [] rfl (qaj _) (qaj _) (by decide);rw[show zaD ⟨(w:Int),iL n,b⟩ ((5 - 0+2:Int).toNat) 0 [] []=_ from e1,qac];simp only[];have e2:(bif b then some ((1000000000000000:Int),true)else some (1,false))=some (((zrK b:Nat):Int),b):=by cases b<;>rfl
 rw[e2,qac];simp only[];have e3:=zlz (n:=n) (c:=drC w) (w:=(w:Int)) (b:=b) (b2:=b) h1 (by omega) (zan (drC w)) 0 5000 [] (by omega) rfl (by omega);rw[show zaE (iL ([]++ ((List.range' 0 5).filter w.testBit).map zfp)) ⟨(w:Int),iL n,b⟩ ((zrK b:Nat):Int) 5000 0 []=_ from e3];rfl
theorem zr7{w:Nat}(hw:w<256)(n:List Nat)(b:Bool):FcOk (drF w n b):=by
 obtain⟨h1,h2⟩:=zqn w hw;obtain⟨h3,h4,h5⟩:=zhb h1;refine⟨by simp[drF,drC],h5,h3,h4,by simp[drF],qcc _ List.pairwise_lt_range',?_,?_⟩
 ·intro v hv;have:=(qbA.1 hv).1;simp only[qbI]at this;omega
 intro x hx;obtain⟨j,_,rfl⟩:=qaH.1 hx;have h1:=zkY n j;show _≤4611686018427387903;cases b
 ·show zm2 n j * 1≤_; omega
 show zm2 n j * 1000000000000000≤_; omega
theorem znC{xs ys:List Int}(hl:xs.length=ys.length)(hb:xs.length<4611686018427387904):∀ n i:Nat,i≤xs.length→xs.length - i<n→zcm xs ys n (i:Int)=some (bif decide (xs.drop i=ys.drop i)then .go ()else .ret false)
 | 0,_,_,h=>absurd h (qaV _)
 | n+1,i,h1,h2=>by
  unfold zcm;rw[zst];by_cases hi:i<xs.length
  ·have hy:i<ys.length:=by omega
   have e:(xs.drop i=ys.drop i)↔(xs[i]=ys[i]∧xs.drop (i+1)=ys.drop (i+1)):=by
    rw[qaw hi,qaw hy,List.cons.injEq]
   rw[decide_eq_true hi,cond_true,zcF hi,qac,zcF hy,qac,zbf (by omega)];by_cases hx:xs[i]=ys[i]
   ·rw[show(xs[i]== ys[i])=true from beq_iff_eq.2 hx,cond_true,znC hl hb n (i+1) hi (by omega),decide_eq_decide.2 (show(xs.drop i=ys.drop i)↔(xs.drop (i+1)=ys.drop (i+1))from e.trans ⟨fun c=>c.2,fun c=>⟨hx,c⟩⟩)]
   rw[show(xs[i]== ys[i])=false from beq_false_of_ne hx,cond_false,decide_eq_false (fun c=>hx (e.1 c).1),cond_false]
  rw[decide_eq_false hi,cond_false,qbB (by omega),qbB (by omega),decide_eq_true rfl,cond_true]
theorem zkR{xs ys:List Int}(hb:xs.length<4611686018427387904):zcU xs ys=some (decide (xs=ys)):=by
 unfold zcU;by_cases hl:xs.length=ys.length
 ·rw[hl,beq_self_eq_true,cond_true,← hl,zc2];have:=znC hl hb (xs.length+2) 0 (qaS _) (by omega);rw[show zcm xs ys (xs.length+2) 0=_ from this,qbb,qbb,qac];cases decide (xs=ys)<;> rfl
 rw[show((xs.length:Int)==(ys.length:Int))=false from beq_false_of_ne (by omega),cond_false,decide_eq_false (fun e=>hl (by rw[e]))]
structure SzOk (x:S_api_Factor):Prop where
 vars:x.vars.length<4611686018427387904
 zad:x.zad.length<4611686018427387904
 w:x.w.length<4611686018427387904
theorem zls{x y:S_api_Factor}:x=y↔x.vars=y.vars∧x.zad=y.zad∧x.w=y.w:=by
 cases x; cases y; simp
theorem zqX{x y:S_api_Factor}(h:SzOk x):zdf x y=some (decide (x=y)):=by
 unfold zdf;rw[zkR h.vars,qac];by_cases h1:x.vars=y.vars
 ·rw[decide_eq_true h1,cond_true,zkR h.zad,qac];by_cases h2:x.zad=y.zad
  ·rw[decide_eq_true h2,cond_true,zkR h.w,qac,qac,decide_eq_decide.2 (show x=y↔x.w=y.w from zls.trans ⟨fun c=>c.2.2,fun c=>⟨h1,h2,c⟩⟩)]
  rw[decide_eq_false h2,cond_false,qac,decide_eq_false (fun e=>h2 (zls.1 e).2.1)]
 rw[decide_eq_false h1,cond_false,qac,decide_eq_false (fun e=>h1 (zls.1 e).1)]
theorem FcOk.sz{f:Fc}(h:FcOk f):SzOk f.D:=by
 have h1:=h.le; have h2:=h.len; have h3:=h.size; have h4:=h.prod;refine⟨?_,?_,?_⟩
 ·show(iL f.vs).length<_; rw[zaM]; omega
 ·show(iL f.cs).length<_; rw[zaM]; omega
 show(iL f.ws).length<_; rw[zaM]; omega
theorem zq7{f g:Fc}(hf:FcOk f)(hg:FcOk g)(hc:zbL (iL (ucs f g))=true)(hk:zlm f g=true):FcOk (zb9 f g):=by
 have hD:=zng hc;refine⟨hD.len,hD.le,hD.zmK,hD.prod,by simp[zb9],zf1 f g,zqc,?_⟩;intro x hx;obtain⟨j,hj,rfl⟩:=qaH.1 hx;exact of_decide_eq_true (qbg.1 hk j hj)
theorem zrk{f g:Fc}(hf:FcOk f):FcOk (zeI f g):=by
 refine⟨hf.len,hf.le,hf.zmK,hf.prod,by simp[zeI],hf.inc,hf.var,?_⟩;intro x hx;obtain⟨j,hj,rfl⟩:=qaH.1 hx;exact qav (qch _ _) (Fc.zqg hf j)
section
variable {r4 r6 r8 r10 r12 r14 r16 r18:S_api_Factor}
end
structure DrOk (d:S_haruspexref03_Draft):Prop where
 which:∃ w:Nat,w<256∧d.which=(w:Int)
 n:∃ ns:List Nat,d.n=iL ns
theorem DrOk.s{d:S_haruspexref03_Draft}(h:DrOk d):∃ w n,w<256∧d=⟨((w:Nat):Int),iL n,d.large⟩∧zaB 5000 d=some (drF w n d.large).D:=by
 obtain⟨w,hw,e1⟩:=h.which;obtain⟨n,e2⟩:=h.n;obtain⟨a,b,c⟩:=d;simp only at e1 e2;subst e1 e2;exact⟨w,n,hw,rfl,zli hw n c⟩
theorem zkS:∀ {a b:List Nat},a.Pairwise (· < ·)→b.Pairwise (· < ·)→(∀ x∈a,x∈b)→a.Sublist b
 | [],b,_,_,_=>List.nil_sublist b
 | a :: xs,[],_,_,h=>by have:=h a qao; simp at this
 | a :: xs,b :: bs,ha,hb,h=>by
  obtain⟨ha1,ha2⟩:=qaQ.1 ha;obtain⟨hb1,hb2⟩:=qaQ.1 hb;rcases qaB.1 (h a qao)with e | h1
  ·subst e;refine(zkS ha2 hb2 fun x hx=>?_).cons_cons a;rcases qaB.1 (h x (qal _ hx))with e | h2
   ·have:=ha1 x hx; omega
   exact h2
  refine(zkS ha hb2 fun x hx=>?_).cons b;rcases qaB.1 (h x hx)with e | h2
  ·have h3:=hb1 a h1;rcases qaB.1 hx with e2 | h4
   ·omega
   have:=ha1 x h4; omega
  exact h2
theorem zi7:∀ {a b:List Nat},a.Sublist b→(∀ c∈b,1≤c)→zan a≤zan b
 | _,_,.slnil,_=>qaj _
 | a,b :: bs,.cons _ h,hb=>by
  have h1:=zi7 h fun c hc=>hb c (qal _ hc)
  have h2:=qbm (hb b qao) (qaj (zan bs));show zan a≤b * zan bs;omega
 | a :: xs,_ :: bs,.cons_cons _ h,hb=>qbm (qaj a) (zi7 h fun c hc=>hb c (qal _ hc))
section
variable {p1 p2 p4:Int} {x9:S_api_Factor}
end
section
variable {p1 p2 p4:Int} {x y:S_api_Factor}
end
end Go.Dc
