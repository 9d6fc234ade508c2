/-
 Plain laws: Divide, by the program and by the reference. Conditions: none.
-/
import Derived.Test.YtnfgibomhkbcpaaFpJ6
import Derived.Test.YtnfgibomhkbcpaaFpQ4
set_option linter.unusedSimpArgs false
set_option linter.unusedVariables false
set_option maxRecDepth 100000
namespace Go.Dc
open Go Go.Mx Go.Lx
theorem zrD(b:Nat):((b:Int)== 0)=(b == 0):=zhL b 0
theorem zsY{a b:Nat}(hb:¬ b=0):zok (a:Int) (b:Int)=some ((a % b:Nat):Int):=by
 unfold zok;rw[zrD,beq_false_of_ne hb,cond_false]; rfl
theorem ztr{a b:Nat}(hb:¬ b=0)(ha:a≤zgE):zph .i64 (a:Int) (b:Int)=some ((a / b:Nat):Int):=by
 have h1:a≤4611686018427387903:=ha;have h2:a / b≤a:=Nat.div_le_self a b;unfold zph;rw[zrD,beq_false_of_ne hb,cond_false,show((a:Int).tdiv (b:Int))=((a / b:Nat):Int)from rfl];exact congrArg some (zcX (n:=a / b) (by omega))
theorem zjz{vs:List Nat}:∀ {us:List Nat},hasB vs us=true↔∀ u∈us,u∈vs
 | []=>by simp[hasB]
 | u :: us=>by
  rw[show hasB vs (u :: us)=((pos vs u).isSome && hasB vs us)from rfl,qaf,zjz,zfS,List.forall_mem_cons,decide_eq_true_iff]
def Fc.get(f:Fc)(j:Nat):Nat:=f.ws.getD j 0
theorem Fc.zpw{f:Fc}(hf:FcOk f)(k:Nat):f.get k≤zgE:=by
 unfold Fc.get;by_cases h:k<f.ws.length
 ·rw[qbh,qag h];exact hf.num _ (qbA h)
 rw[qbh,qbo (by omega)];exact qaL _
def ztd(a b:Nat):Bool:=decide (a=0∨(b≠0∧a % b=0))
theorem zuX(a b:Nat){α:Type}(s r:Option α)(q:Int→Option α)(ha:a≤zgE):
  (((bif ((b:Int)== 0)then some ((a:Int)== 0)else some false:Option Bool)).bind fun v87=>bif v87 then s else
   ((bif ((b:Int)== 0)then some true else(zok (a:Int) (b:Int)).bind fun q32=>some (!(q32 == 0)):Option Bool)).bind fun v94=>bif v94 then r else(zph .i64 (a:Int) (b:Int)).bind q)=
  bif b == 0 then(bif a == 0 then s else r)else(bif a % b == 0 then q ((a / b:Nat):Int)else r):=by
 rw[zrD];by_cases hb:b=0
 ·subst hb;rw[show((0:Nat)== 0)=true from rfl,cond_true,qaa,cond_true,zrD,cond_true,qaa,cond_true]
 rw[beq_false_of_ne hb,cond_false,qaa,cond_false,cond_false,zsY hb,qaa,qaa,zrD,ztr hb ha,qaa];cases(a % b == 0)<;> rfl
theorem zuS(a b:Nat){α:Type}(s r:Option α)(q:Int→Option α)(ha:a≤zgE):
  (bif ((a:Int)== 0)then s else
   ((bif ((b:Int)== 0)then some true else(zok (a:Int) (b:Int)).bind fun q32=>some (!(q32 == 0)):Option Bool)).bind fun v94=>bif v94 then r else(zph .i64 (a:Int) (b:Int)).bind q)=
  bif a == 0 then s else bif b == 0 then r else(bif a % b == 0 then q ((a / b:Nat):Int)else r):=by
 rw[zrD,zrD];by_cases hb:b=0
 ·subst hb;rw[show((0:Nat)== 0)=true from rfl,cond_true,qaa,cond_true,cond_true]
 rw[beq_false_of_ne hb,cond_false,zsY hb,qaa,qaa,zrD,ztr hb ha,qaa,cond_false];cases(a % b == 0)<;> rfl
theorem FcOk.dom{f:Fc}(h:FcOk f):Dom f.vs f.cs:=⟨h.len,zdv h.inc,h.card,h.le,h.prod⟩
theorem zp2{f g:Fc}(hg:FcOk g)(hh:∀ u∈g.vs,u∈f.vs)(ha:Agr f g):Sub f.vs f.cs g.vs g.cs:=
 znd hg.len (zdv hg.inc) fun u hu=>⟨hh u hu,ha u (hh u hu) hu⟩
theorem zt5{f:Fc}{i:Nat}(hf:FcOk f)(h:i<zam f.cs):za0 f.D.w (i:Int)=some ((f.get i:Nat):Int):=zdY (by rw[hf.size]; exact h)
def zpn(f g:Fc)(j:Nat):Nat:=f.get j / g.at f.vs (dig f.cs j)
def znT(f g:Fc)(j:Nat):Bool:=ztd (f.get j) (g.at f.vs (dig f.cs j))
theorem ziS(a b:Nat):(a=0∧ztd a b=true∧a / b=0)∨(¬ a=0∧b=0∧ztd a b=false)∨(¬ a=0∧¬ b=0∧a % b=0∧ztd a b=true)∨(¬ a=0∧¬ b=0∧¬ a % b=0∧ztd a b=false):=by
 unfold ztd;by_cases ha:a=0
 ·subst ha; simp
 by_cases hb:b=0
 ·subst hb; simp[ha]
 by_cases hm:a % b=0
 ·simp[ha,hb,hm]
 simp[ha,hb,hm]
theorem zrG{f g:Fc}(hf:FcOk f)(hg:FcOk g)(hs:Sub f.vs f.cs g.vs g.cs):∀(m i:Nat) (ys:List Nat),i+m=zam f.cs→ys.length=i →
  zaS (f.T,0) (g.T,0) (zgT f.cs (f.vs.map (stp g.vs g.cs)) i m) (iL (ys ++ List.replicate m 0))=
   some (bif (List.range' i m).all (znT f g)then .go (iL (ys ++ (List.range' i m).map (zpn f g)))else .ret (noF,4))
 | 0,i,ys,_,_=>by simp[zgT,zaS]
 | m+1,i,ys,h,hy=>by
  have hb:=zdx hf.card (show i<zam f.cs by omega);rw[zgN];show(za0 f.D.w (i:Int)).bind _=_;rw[zt5 hf (by omega),qaa];simp only[];rw[show(g.T,(0:Int)).1.factor.w=g.D.w from rfl,wat hg hf.dom hs hb,qaa];rw[zuX _ _ _ _ _ (Fc.zpw hf i)];have e0:ys ++ List.replicate (m+1) 0=(ys ++ [0])++ List.replicate m 0:=by simp[qaO]
  have go:∀ x,x=zpn f g i→znT f g i=true→zaS (f.T,0) (g.T,0) (zgT f.cs (f.vs.map (stp g.vs g.cs)) (i+1) m) (iL ((ys ++ [x])++ List.replicate m 0))=
    some (bif (List.range' i (m+1)).all (znT f g)then .go (iL (ys ++ (List.range' i (m+1)).map (zpn f g)))else .ret (noF,4)):=by
   intro x hx hk;rw[zrG hf hg hs m (i+1) _ (by omega) (by simp[hy]),qbd,qbB,qaz,hk,qaH,hx];simp
  have no:znT f g i=false→some (Out.ret (noF,(4:Int)))=some (bif (List.range' i (m+1)).all (znT f g)then Out.go (iL (ys ++ (List.range' i (m+1)).map (zpn f g)))else .ret (noF,4)):=by
   intro hk;rw[qbd,qbB,hk,qbL,cond_false]
  rcases ziS (f.get i) (g.at f.vs (dig f.cs i))with⟨h1,h2,h3⟩| ⟨h1,h2,h3⟩| ⟨h1,h2,h3,h4⟩| ⟨h1,h2,h3,h4⟩
  ·rw[h1,show((0:Nat)== 0)=true from rfl,cond_true,Nat.zero_mod,show((0:Nat)== 0)=true from rfl,cond_true,Nat.zero_div]
   rw[show za0 (iL (ys ++ List.replicate (m+1) 0)) (i:Int)=some ((0:Nat):Int)from by rw[qaO]; exact zcc hy,qaa,
    show zgJ (iL (ys ++ List.replicate (m+1) 0)) (i:Int) ((0:Nat):Int)=some (iL (ys ++ List.replicate (m+1) 0))from by rw[qaO]; exact zcY hy,qaa]
   rw[e0,go 0 (by unfold zpn; exact h3.symm) h2];cases(g.at f.vs (dig f.cs i)== 0)<;> rfl
  ·rw[h2,show((0:Nat)== 0)=true from rfl,cond_true,beq_false_of_ne h1,cond_false];exact no h3
  ·rw[beq_false_of_ne h2,cond_false,h3,show((0:Nat)== 0)=true from rfl,cond_true,qaO,zcc hy,qaa,zcY hy,qaa];have:=go _ rfl h4;rw[qaV,qaY]at this;exact this
  rw[beq_false_of_ne h2,cond_false,beq_false_of_ne h3,cond_false];exact no h4
theorem zqe{f g:Fc}(hf:FcOk f)(hg:FcOk g)(hs:Sub f.vs f.cs g.vs g.cs):∀(m i n:Nat) (ys:List Nat),i+m=zam f.cs→ys.length=i→m<n →
  zbl (zpD f.cs) f.D g.D n (i:Int) (iL ys)=
   some (bif (List.range' i m).all (znT f g)then .go (iL (ys ++ (List.range' i m).map (zpn f g)))else .ret (noF,false))
 | _,_,0,_,_,_,h=>absurd h (qax _)
 | 0,i,n+1,ys,h,hy,_=>by
  unfold zbl;obtain rfl:i=zam f.cs:=by omega
  rw[zfx,zjd,cond_false];simp
 | m+1,i,n+1,ys,h,hy,hn=>by
  have hp4:=hf.prod;have hb:=zdx hf.card (show i<zam f.cs by omega);have hl:f.vs.length≤24:=by have:=hf.le; have:=hf.len; omega
  have go:∀ x,x=zpn f g i→znT f g i=true→zbl (zpD f.cs) f.D g.D n ((i+1:Nat):Int) (iL (ys ++ [x]))=
    some (bif (List.range' i (m+1)).all (znT f g)then .go (iL (ys ++ (List.range' i (m+1)).map (zpn f g)))else .ret (noF,false)):=by
   intro x hx hk;rw[zqe hf hg hs m (i+1) n _ (by omega) (by simp[hy]) (by omega),qbd,qbB,qaz,hk,qaH,hx];simp
  have no:znT f g i=false→some (.ret (noF,false))=some (bif (List.range' i (m+1)).all (znT f g)then Out.go (iL (ys ++ (List.range' i (m+1)).map (zpn f g)))else .ret (noF,false)):=by
   intro hk;rw[qbd,qbB,hk,qbL,cond_false]
  unfold zbl;rw[zfx,ziT (by omega),cond_true,zt5 hf (by omega),qaa,zmL (by omega),qaa,show f.D.vars=iL f.vs from rfl,zo3 hg hl hf.len (zdv hf.inc) hb hs,qaa,zuS _ _ _ _ _ (Fc.zpw hf i)];rcases ziS (f.get i) (g.at f.vs (dig f.cs i))with⟨h1,h2,h3⟩| ⟨h1,h2,h3⟩| ⟨h1,h2,h3,h4⟩| ⟨h1,h2,h3,h4⟩
  ·rw[h1,show((0:Nat)== 0)=true from rfl,cond_true,show zd6 8 (iL ys) [0]=some (iL (ys ++ [0]))from ziq (v:=0) (by omega),qaa,qaa];simp only[];rw[zat (by omega)];exact go 0 (by unfold zpn; exact h3.symm) h2
  ·rw[beq_false_of_ne h1,cond_false,h2,show((0:Nat)== 0)=true from rfl,cond_true,qaa];exact no h3
  ·rw[beq_false_of_ne h1,cond_false,beq_false_of_ne h2,cond_false,h3,show((0:Nat)== 0)=true from rfl,cond_true,ziq (by omega),qaa,qaa];simp only[];rw[zat (by omega)];exact go _ rfl h4
  rw[beq_false_of_ne h1,cond_false,beq_false_of_ne h2,cond_false,beq_false_of_ne h3,cond_false,qaa];exact no h4
def zqb(f g:Fc):Bool:=(List.range' 0 (zam f.cs)).all (znT f g)
def zsG(f g:Fc):Fc:=⟨f.vs,f.cs,(List.range' 0 (zam f.cs)).map (zpn f g)⟩
theorem zuh{f g:Fc}(hf:FcOk f)(hg:FcOk g)(hh:hasB f.vs g.vs=true)(ha:Agr f g):zdC 5000 f.D g.D=some (bif zqb f g then((zsG f g).D,true)else(noF,false)):=by
 unfold zdC;rw[show f.D.cards=iL f.cs from rfl,zt1 hf.card hf.le hf.prod,qaa,zfx,zbg];have:=zqe hf hg (zp2 hg (zjz.1 hh) ha) (zam f.cs) 0 (zam f.cs+2) [] (by omega) rfl (by omega);rw[show zbl (zpD f.cs) f.D g.D (zam f.cs+2) 0 []=_ from this];unfold zqb;cases(List.range' 0 (zam f.cs)).all (znT f g)<;> rfl
theorem zqX{f g:Fc}(hf:FcOk f)(hg:FcOk g):zaq f.D g.D=some (bif hasB f.vs g.vs then bif zcW f g 0 f.vs then bif zqb f g then((zsG f g).D,0)else(noF,4)else(noF,2)else(noF,2)):=by
 have hp4:=hf.prod;have hl:=hf.le;have hl2:=hf.len;unfold zaq;rw[zgZ hf,qaa];simp only[];rw[show((0:Int)== 0)=true from rfl,cond_true,zgZ hg,qaa];simp only[];rw[show((0:Int)== 0)=true from rfl,cond_true,show g.T.factor.vars=iL g.vs from rfl,zaB,zbg];have e1:=zrg hf hg (g.vs.length+2) 0 (qaL _) (by omega);rw[show zbj (g.T,0) (f.T,0) (g.vs.length+2) 0=_ from e1,qaa,qaP];cases hh:hasB f.vs g.vs with
 | false=>rfl
 | true=>
  rw[cond_true,cond_true];simp only[];rw[zoF hf hg,qaa];cases ha:zcW f g 0 f.vs with
  | false=>rfl
  | true=>
   have hs:=zp2 hg (zjz.1 hh) ((zhC hf hg).1 ha);rw[cond_true,cond_true,show f.T.factor.w=iL f.ws from rfl,zaB,hf.size,zfJ (by omega),qaa,show f.T.factor.vars=iL f.vs from rfl,zlT hg (by omega),qaa,zhE,qaa];simp only[];rw[show f.T.factor.cards=iL f.cs from rfl,zih hg hf.dom,qaa,← zg9];have e2:=zrG hf hg hs (zam f.cs) 0 [] (by omega) rfl;rw[qa5]at e2;rw[e2,qaa];unfold zqb;cases hk:(List.range' 0 (zam f.cs)).all (znT f g)with
   | false=>rfl
   | true=>
    rw[cond_true,cond_true];simp only[];rw[zhp (by rw[zaB]; omega),qaa,zhp (by rw[zaB]; omega),qaa];rfl
theorem zuU(n:Nat):IntKind.u8.wrap (n:Int)=((n % 256:Nat):Int):=by
 simp only[IntKind.wrap,IntKind.bits,IntKind.signed]; simp
theorem zq7{n:Nat}(h:n<256):IntKind.u8.wrap (n:Int)=(n:Int):=by
 rw[zuU,qbb h]
theorem zve{a b:Nat}(ha:a<256)(hb:b<256):zof .u8 (a:Int) (b:Int)=((a &&& b:Nat):Int):=by
 have h:(BitVec.ofInt 8 (a:Int) &&& BitVec.ofInt 8 (b:Int)).toNat=a &&& b:=by
  simp only[BitVec.ofInt_natCast,BitVec.toNat_and,BitVec.toNat_ofNat];rw[qbb ha,qbb hb]
 show IntKind.u8.wrap ((BitVec.ofInt 8 (a:Int) &&& BitVec.ofInt 8 (b:Int)).toNat:Int)=_;rw[h];exact zq7 (qb7 Nat.and_le_left ha)
theorem zvb{a v:Nat}(hv:v<8):zmO .u8 (a:Int) (v:Int)=some ((a >>> v:Nat):Int):=by
 unfold zmO;rw[if_pos (by omega)];congr 1
 have h1:min (v:Int).toNat IntKind.u8.bits=v:=by
  rw[show IntKind.u8.bits=8 from rfl,qaG]; exact qbO (by omega)
 rw[h1,qbu];have h2:((2:Int) ^ v)=((2 ^ v:Nat):Int):=by simp
 rw[h2,Int.fdiv_eq_ediv_of_nonneg _ (qby _)];rfl
theorem zu7{a v:Nat}(ha:a<256)(hv:v<8):∃ q:Int,zmO .u8 (a:Int) (v:Int)=some q∧(zof .u8 q 1 == 1)=a.testBit v:=by
 refine⟨_,zvb hv,?_⟩;rw[show(1:Int)=((1:Nat):Int)from rfl,zve (qb7 (by rw[qbu]; exact Nat.div_le_self _ _) ha) (by decide),zvi,zhL];cases a.testBit v<;>rfl
def zqG(v:Nat):Nat:=[2,3,1,2,2].getD v 0
def drV(w:Nat):List Nat:=(List.range' 0 5).filter w.testBit
def drC(w:Nat):List Nat:=(drV w).map zqG
theorem zj9{w:Nat}(hw:w<256){n:List Int}{b:Bool}:∀(m v k:Nat) (x y:List Nat),v+m=5→x.length≤v→y.length≤v→m<k →
  zaM ⟨(w:Int),n,b⟩ k (v:Int) (iL x) (iL y)=some (iL (x ++ (List.range' v m).filter w.testBit),iL (y ++ ((List.range' v m).filter w.testBit).map zqG))
 | _,_,0,_,_,_,_,_,h=>absurd h (qax _)
 | 0,v,k+1,x,y,h,_,_,_=>by
  unfold zaM;rw[show decide ((v:Int)<5)=false from decide_eq_false (by omega),cond_false];simp
 | m+1,v,k+1,x,y,h,hx,hy,hk=>by
  obtain⟨q,h1,h2⟩:=zu7 (a:=w) (v:=v) hw (by omega);unfold zaM;rw[show decide ((v:Int)<5)=true from decide_eq_true (by omega),cond_true,zdq (by omega),h1,qaa,h2,qbd];cases hb:w.testBit v with
  | false=>
   rw[cond_false,qaa];simp only[];rw[zat (by omega),zj9 hw m (v+1) k _ _ (by omega) (by omega) (by omega) (by omega),List.filter_cons_of_neg (by rw[hb]; decide)]
  | true=>
   rw[cond_true,ziq (by omega),qaa,show za0 ([2,3,1,2,2]:List Int) (v:Int)=some ((zqG v:Nat):Int)from zdY (xs:=[2,3,1,2,2]) (by simp; omega),qaa,ziq (by omega),qaa,qaa];simp only[];rw[zat (by omega),zj9 hw m (v+1) k _ _ (by omega) (by simp; omega) (by simp; omega) (by omega),qb8 hb];simp
def zqY(n:List Nat)(j:Nat):Nat:=bif n.length == 0 then 1 else n.getD (j % n.length) 0 % 10
theorem zs0(n:List Nat)(j:Nat):zqY n j≤9:=by
 unfold zqY;cases(n.length == 0)
 ·rw[cond_false]; omega
 rw[cond_true]; omega
def zs6(b:Bool):Nat:=bif b then 1000000000000000 else 1
theorem zqd{n:List Nat}(j:Nat):((bif (decide (0<((iL n).length:Int)))then((zok (j:Int) ((iL n).length:Int)).bind fun q16=>(za0 (iL n) q16).bind fun x18=>some (w64 (x18.tmod 10)))else some 1:Option Int))=some ((zqY n j:Nat):Int):=by
 unfold zqY;rw[zaB];by_cases h:n.length=0
 ·rw[h,show decide ((0:Int)<((0:Nat):Int))=false from rfl,cond_false,show((0:Nat)== 0)=true from rfl,cond_true]; rfl
 rw[show decide ((0:Int)<(n.length:Int))=true from decide_eq_true (by omega),cond_true,beq_false_of_ne h,cond_false,zsY h,qaa,zdY (qcb _ (by omega)),qaa];congr 1
 rw[show((n.getD (j % n.length) 0:Nat):Int).tmod 10=((n.getD (j % n.length) 0 % 10:Nat):Int)from rfl,zcX (by omega)]
theorem zmB{n:List Nat}{c:List Nat}{w:Int}{b b2:Bool}(hc:zbv (iL c)=true)(hp:zam c≤4096):∀(m i k:Nat) (ys:List Nat),i+m=zam c→ys.length=i→m<k →
  zaK (iL c) ⟨w,iL n,b⟩ ((zs6 b2:Nat):Int) k (i:Int) (iL ys)=some (iL (ys ++ (List.range' i m).map fun j=>zqY n j * zs6 b2))
 | _,_,0,_,_,_,h=>absurd h (qax _)
 | 0,i,k+1,ys,h,hy,_=>by
  unfold zaK;rw[zki hc,qaa,zd3];obtain rfl:i=zam c:=by omega
  rw[zjd,cond_false];simp
 | m+1,i,k+1,ys,h,hy,hk=>by
  have h1:=zs0 n i;have h2:zqY n i * zs6 b2≤9000000000000000:=by
   cases b2
   ·show zqY n i * 1≤_; omega
   show zqY n i * 1000000000000000≤_; omega
  unfold zaK;rw[zki hc,qaa,zd3,ziT (by omega),cond_true,zqd,qaa,← qa1,zcX (by omega),ziq (by omega),qaa,zat (by omega),zmB hc hp m (i+1) k _ (by omega) (by simp[hy]) (by omega),qbd];simp
def drF(w:Nat)(n:List Nat)(b:Bool):Fc:=⟨drV w,drC w,(List.range' 0 (zam (drC w))).map fun j=>zqY n j * zs6 b⟩
theorem ztQ:∀ w,w<256→zbv (iL (drC w))=true∧zam (drC w)≤24:=by decide +kernel
theorem zsJ{w:Nat}(hw:w<256)(n:List Nat)(b:Bool):zaI 5000 ⟨(w:Int),iL n,b⟩=some (drF w n b).D:=by
 obtain⟨h1,h2⟩:=ztQ w hw;unfold zaI;have e1:=zj9 hw (n:=iL n) (b:=b) 5 0 ((5 - 0+2:Int).toNat) [] [] rfl (qaj _) (qaj _) (by decide);rw[show zaM ⟨(w:Int),iL n,b⟩ ((5 - 0+2:Int).toNat) 0 [] []=_ from e1,qaa];simp only[];have e2:(bif b then some ((1000000000000000:Int),true)else some (1,false))=some (((zs6 b:Nat):Int),b):=by cases b<;>rfl
 rw[e2,qaa];simp only[];have e3:=zmB (n:=n) (c:=drC w) (w:=(w:Int)) (b:=b) (b2:=b) h1 (by omega) (zam (drC w)) 0 5000 [] (by omega) rfl (by omega);rw[show zaK (iL ([]++ ((List.range' 0 5).filter w.testBit).map zqG)) ⟨(w:Int),iL n,b⟩ ((zs6 b:Nat):Int) 5000 0 []=_ from e3];rfl
theorem zpv{xs ys:List Int}(hl:xs.length=ys.length)(hb:xs.length<4611686018427387904):∀ n i:Nat,i≤xs.length→xs.length - i<n→zcA xs ys n (i:Int)=some (bif decide (xs.drop i=ys.drop i)then .go ()else .ret false)
 | 0,_,_,h=>absurd h (qax _)
 | n+1,i,h1,h2=>by
  unfold zcA;rw[zrr];by_cases hi:i<xs.length
  ·have hy:i<ys.length:=by omega
   have e:(xs.drop i=ys.drop i)↔(xs[i]=ys[i]∧xs.drop (i+1)=ys.drop (i+1)):=by
    rw[qan hi,qan hy,List.cons.injEq]
   rw[decide_eq_true hi,cond_true,zbr hi,qaa,zbr hy,qaa,zat (by omega)];by_cases hx:xs[i]=ys[i]
   ·rw[show(xs[i]== ys[i])=true from beq_iff_eq.2 hx,cond_true,zpv hl hb n (i+1) hi (by omega),decide_eq_decide.2 (show(xs.drop i=ys.drop i)↔(xs.drop (i+1)=ys.drop (i+1))from e.trans ⟨fun c=>c.2,fun c=>⟨hx,c⟩⟩)]
   rw[show(xs[i]== ys[i])=false from beq_false_of_ne hx,cond_false,decide_eq_false (fun c=>hx (e.1 c).1),cond_false]
  rw[decide_eq_false hi,cond_false,qbH (by omega),qbH (by omega),decide_eq_true rfl,cond_true]
theorem zmp{xs ys:List Int}(hb:xs.length<4611686018427387904):zdk xs ys=some (decide (xs=ys)):=by
 unfold zdk;by_cases hl:xs.length=ys.length
 ·rw[hl,beq_self_eq_true,cond_true,← hl,zbg];have:=zpv hl hb (xs.length+2) 0 (qaL _) (by omega);rw[show zcA xs ys (xs.length+2) 0=_ from this,qaP,qaP,qaa];cases decide (xs=ys)<;> rfl
 rw[show((xs.length:Int)==(ys.length:Int))=false from beq_false_of_ne (by omega),cond_false,decide_eq_false (fun e=>hl (by rw[e]))]
structure SzOk (x:S_api_Factor):Prop where
 vars:x.vars.length<4611686018427387904
 cards:x.cards.length<4611686018427387904
 w:x.w.length<4611686018427387904
theorem zmu{x y:S_api_Factor}:x=y↔x.vars=y.vars∧x.cards=y.cards∧x.w=y.w:=by
 cases x; cases y; simp
theorem zsK{x y:S_api_Factor}(h:SzOk x):zde x y=some (decide (x=y)):=by
 unfold zde;rw[zmp h.vars,qaa];by_cases h1:x.vars=y.vars
 ·rw[decide_eq_true h1,cond_true,zmp h.cards,qaa];by_cases h2:x.cards=y.cards
  ·rw[decide_eq_true h2,cond_true,zmp h.w,qaa,qaa,decide_eq_decide.2 (show x=y↔x.w=y.w from zmu.trans ⟨fun c=>c.2.2,fun c=>⟨h1,h2,c⟩⟩)]
  rw[decide_eq_false h2,cond_false,qaa,decide_eq_false (fun e=>h2 (zmu.1 e).2.1)]
 rw[decide_eq_false h1,cond_false,qaa,decide_eq_false (fun e=>h1 (zmu.1 e).1)]
theorem zi0:SzOk noF:=⟨by decide,by decide,by decide⟩
theorem FcOk.sz{f:Fc}(h:FcOk f):SzOk f.D:=by
 have h1:=h.le; have h2:=h.len; have h3:=h.size; have h4:=h.prod;refine⟨?_,?_,?_⟩
 ·show(iL f.vs).length<_; rw[zaB]; omega
 ·show(iL f.cs).length<_; rw[zaB]; omega
 show(iL f.ws).length<_; rw[zaB]; omega
theorem zts{x y:S_api_Factor}(h:SzOk x)(c d:Int):zbn x c y d=some ((c == d) && decide (x=bif d == 0 then y else noF)):=by
 unfold zbn;have e:(bif (d == 0)then some (y.vars,y.cards,y.w)else some ([],[],[]):Option (List Int×List Int×List Int))=some ((bif d == 0 then y else noF).vars,(bif d == 0 then y else noF).cards,(bif d == 0 then y else noF).w):=by
  cases(d == 0)<;> rfl
 rw[e,qaa];simp only[];rw[zsK h,show(⟨(bif d == 0 then y else noF).vars,(bif d == 0 then y else noF).cards,(bif d == 0 then y else noF).w⟩:S_api_Factor)=(bif d == 0 then y else noF)from rfl];cases(c == d)with
 | false=>rfl
 | true=>rw[cond_true,qaa,qaa,qaH]
theorem zgS{x y:S_api_Factor}(h:SzOk x){c d:Int}(hc:c=d)(hx:x=bif d == 0 then y else noF):zbn x c y d=some true:=by
 rw[zts h,hc,beq_self_eq_true,qaH,decide_eq_true hx]
theorem ztL(x:S_api_Factor):∃ y,zdw x=some y:=by
 unfold zdw;have cut:∀(xs:List Int) (k:Nat),zgx xs 0 (zoi (xs.length:Int) (k:Int))=some (xs.take (min xs.length k)):=by
  intro xs k;have hm:zoi (xs.length:Int) (k:Int)=((min xs.length k:Nat):Int):=by unfold zoi; split<;>omega
  rw[hm];unfold zgx;rw[if_pos ⟨qbp _,qby _,by omega⟩,qaG];simp
 have c1:=cut x.vars 4;have c2:=cut x.cards 4;have c3:=cut x.w 40;rw[show zoi (x.vars.length:Int) 4=zoi (x.vars.length:Int) ((4:Nat):Int)from rfl,c1,qaa,show zoi (x.cards.length:Int) 4=zoi (x.cards.length:Int) ((4:Nat):Int)from rfl,c2,qaa,show zoi (x.w.length:Int) 40=zoi (x.w.length:Int) ((40:Nat):Int)from rfl,c3,qaa];exact⟨_,rfl⟩
theorem zgX(x:S_api_Factor):zbm x=some (bif zkn x then 0 else 30):=by
 unfold zbm;rw[zpb,qaa];cases zkn x<;>rfl
theorem zsZ{x y:S_api_Factor}(h:zkn x=false):zaL x y=some (noF,30):=by
 unfold zaL;rw[zjE h,qaa]; rfl
theorem zrU{f:Fc}{y:S_api_Factor}(hf:FcOk f)(h:zkn y=false):zaL f.D y=some (noF,30):=by
 unfold zaL;rw[zgZ hf,qaa];simp only[];rw[show((0:Int)== 0)=true from rfl,cond_true,zjE h,qaa]; rfl
theorem zs1{x y:S_api_Factor}(h:zkn x=false):zaq x y=some (noF,30):=by
 unfold zaq;rw[zjE h,qaa]; rfl
theorem zsh{f:Fc}{y:S_api_Factor}(hf:FcOk f)(h:zkn y=false):zaq f.D y=some (noF,30):=by
 unfold zaq;rw[zgZ hf,qaa];simp only[];rw[show((0:Int)== 0)=true from rfl,cond_true,zjE h,qaa]; rfl
theorem zrM(x:S_api_Factor):zkn x=false∨∃ f,FcOk f∧x=f.D:=by
 cases h:zkn x with
 | false=>exact .inl rfl
 | true=>exact .inr (zqE h)
theorem zsV{f g:Fc}(hf:FcOk f)(hg:FcOk g)(hc:zbv (iL (ucs f g))=true)(hk:znX f g=true):FcOk (zuN f g):=by
 have hD:=zmm hc;refine⟨hD.len,hD.le,hD.card,hD.prod,by simp[zuN],zjN f g,zrK,?_⟩;intro x hx;obtain⟨j,hj,rfl⟩:=qaZ.1 hx;exact of_decide_eq_true (qbq.1 hk j hj)
theorem zs3{f g:Fc}(hf:FcOk f):FcOk (zsG f g):=by
 refine⟨hf.len,hf.le,hf.card,hf.prod,by simp[zsG],hf.inc,hf.var,?_⟩;intro x hx;obtain⟨j,hj,rfl⟩:=qaZ.1 hx;exact qay (Nat.div_le_self _ _) (Fc.zpw hf j)
theorem zsQ{f g:Fc}(hf:FcOk f)(hg:FcOk g):SzOk (mulR f g).1:=by
 unfold mulR;cases hc:zbv (iL (ucs f g))with
 | false=>exact zi0
 | true=>
  cases hk:znX f g with
  | false=>exact zi0
  | true=>exact(zsV hf hg hc hk).sz
theorem zsH{f g:Fc}:(mulR f g).1=bif (mulR f g).2 == 0 then(mulR f g).1 else noF:=by
 unfold mulR;cases zbv (iL (ucs f g))with
 | false=>rfl
 | true=>cases znX f g<;>rfl
section
variable {r4 r6 r8 r10 r12 r14 r16 r18:S_api_Factor}
theorem zf5(n i:Nat)(hi:i<4):zau 5000 r4 r6 r8 r10 r12 r14 r16 r18 (n+1) (i:Int)=zau 5000 r4 r6 r8 r10 r12 r14 r16 r18 n ((i+1:Nat):Int):=by
 conv=>lhs; unfold zau
 obtain⟨x,hx⟩:∃ x,za0 [(A2_S_api_Factor.mk r4 r6),(A2_S_api_Factor.mk r8 r10),(A2_S_api_Factor.mk r12 r14),(A2_S_api_Factor.mk r16 r18)] (i:Int)=some x:=⟨_,zbr (by simpa using hi)⟩;rw[show decide ((i:Int)<4)=true from decide_eq_true (by omega),cond_true,hx,qaa,zat (by omega)];obtain⟨a,b⟩:=x;simp only[];have e30:((30:Int)== 0)=false:=rfl;have e31:((30:Int)== 30)=true:=rfl;have e00:((0:Int)== 0)=true:=rfl;rcases zrM a with ha | ⟨f,hf,rfl⟩
 ·have t:=zgS (x:=noF) (y:=noF) zi0 (c:=30) (d:=30) rfl rfl;simp only[zgU,zgX,ha,zsZ ha,zs1 ha,qaa,cond_true,cond_false,e30,e31,t,qaD,qaT]
 have hfb:=zlK hf;rcases zrM b with hb | ⟨g,hg,rfl⟩
 ·have t:=zgS (x:=noF) (y:=noF) zi0 (c:=30) (d:=30) rfl rfl;simp only[zgU,zgX,hfb,hb,zrU hf hb,zsh hf hb,qaa,cond_true,cond_false,e00,e30,e31,t,qaD,qaT]
 have hgb:=zlK hg;have t2:=zgS (x:=noF) (y:=noF) zi0 (c:=2) (d:=2) rfl rfl;cases hag:zcW f g 0 f.vs with
 | false=>
  have hd:zaq f.D g.D=some (noF,2):=by
   rw[zqX hf hg,hag];cases hasB f.vs g.vs<;>rfl
  have hm:zaL f.D g.D=some (noF,2):=by rw[ztJ hf hg,hag]; rfl
  simp only[zgU,zgX,hfb,hgb,hm,hd,zhl hf hg,hag,qaa,cond_true,cond_false,e00,t2,qaD,qaT]
 | true=>
  have hA:=(zhC hf hg).1 hag;have hm:zaL f.D g.D=some (mulR f g):=by rw[ztJ hf hg,hag]; rfl
  have t:=zgS (y:=(mulR f g).1) (zsQ hf hg) (c:=(mulR f g).2) (d:=(mulR f g).2) rfl zsH;cases hh:hasB f.vs g.vs with
  | false=>
   have hd:zaq f.D g.D=some (noF,2):=by rw[zqX hf hg,hh]; rfl
   simp only[zgU,zgX,hfb,hgb,hm,hd,zhl hf hg,hag,zqg hf hg hA,t,zsb hf hg,hh,qaa,cond_true,cond_false,e00,t2,qaD,qaT]
  | true=>
   have hr:=zuh hf hg hh hA;cases hk:zqb f g with
   | false=>
    have hd:zaq f.D g.D=some (noF,4):=by rw[zqX hf hg,hh,hag,hk]; rfl
    rw[hk,cond_false]at hr;have t4:=zgS (x:=noF) (y:=noF) zi0 (c:=4) (d:=4) rfl rfl;simp only[zgU,zgX,hfb,hgb,hm,hd,zhl hf hg,hag,zqg hf hg hA,t,zsb hf hg,hh,hr,t4,qaa,cond_true,cond_false,e00,qaD,qaT]
   | true=>
    have hd:zaq f.D g.D=some ((zsG f g).D,0):=by rw[zqX hf hg,hh,hag,hk]; rfl
    rw[hk,cond_true]at hr;have t0:=zgS (x:=(zsG f g).D) (y:=(zsG f g).D) (zs3 hf).sz (c:=0) (d:=0) rfl rfl;simp only[zgU,zgX,hfb,hgb,hm,hd,zhl hf hg,hag,zqg hf hg hA,t,zsb hf hg,hh,hr,t0,qaa,cond_true,cond_false,e00,qaD,qaT]
theorem zqC(n:Nat):zau 5000 r4 r6 r8 r10 r12 r14 r16 r18 (n+1) ((4:Nat):Int)=some (.go ()):=rfl
theorem zsz:zau 5000 r4 r6 r8 r10 r12 r14 r16 r18 (4 - 0+2:Int).toNat 0=some (.go ()):=by
 have e:(4 - 0+2:Int).toNat=6:=rfl;rw[e,show(0:Int)=((0:Nat):Int)from rfl,zf5 5 0 (by decide),zf5 4 1 (by decide),zf5 3 2 (by decide),zf5 2 3 (by decide),zqC 1]
end
structure DrOk (d:S_haruspexref03_Draft):Prop where
 which:∃ w:Nat,w<256∧d.which=(w:Int)
 n:∃ ns:List Nat,d.n=iL ns
theorem DrOk.s{d:S_haruspexref03_Draft}(h:DrOk d):∃ w n,w<256∧d=⟨((w:Nat):Int),iL n,d.large⟩∧zaI 5000 d=some (drF w n d.large).D:=by
 obtain⟨w,hw,e1⟩:=h.which;obtain⟨n,e2⟩:=h.n;obtain⟨a,b,c⟩:=d;simp only at e1 e2;subst e1 e2;exact⟨w,n,hw,rfl,zsJ hw n c⟩
theorem ziu(hw:zdl=some true)(p0 p1:S_api_Factor){p2 p3:S_haruspexref03_Draft}(h2:DrOk p2)(h3:DrOk p3):zbG 5000 p0 p1 p2 p3=some true:=by
 obtain⟨y0,e0⟩:=ztL p0;obtain⟨y1,e1⟩:=ztL p1;obtain⟨_,_,_,_,e2⟩:=h2.s;obtain⟨_,_,_,_,e3⟩:=h3.s;unfold zbG;rw[hw,qaa,cond_true,e0,qaa,e1,qaa,qaa,e3,qaa,e2,qaa,qaa,qaa,qaa,zsz];rfl
def zs7(x:Int):List Int→List Int
 | []=>[x]
 | y :: ys=>bif decide (x≤y)then x :: y :: ys else y :: zs7 x ys
def ztE:List Int→List Int
 | []=>[]
 | x :: xs=>zs7 x (ztE xs)
theorem zhy(x:Int):∀ ys,(zs7 x ys).Perm (x :: ys)
 | []=>.refl _
 | y :: ys=>by
  unfold zs7;cases decide (x≤y)with
  | true=>exact .refl _
  | false=>exact((zhy x ys).cons y).trans (.swap x y ys)
theorem zle:∀ xs,(ztE xs).Perm xs
 | []=>.refl _
 | x :: xs=>(zhy x _).trans ((zle xs).cons x)
theorem zo4(x:Int):∀ {ys:List Int},ys.Pairwise (· ≤ ·)→(zs7 x ys).Pairwise (· ≤ ·)
 | [],_=>List.pairwise_singleton _ _
 | y :: ys,h=>by
  obtain⟨h1,h2⟩:=qba.1 h;unfold zs7;cases hd:decide (x≤y)with
  | true=>
   have:=of_decide_eq_true hd;refine qba.2 ⟨fun z hz=>?_,h⟩;rcases qaM.1 hz with rfl | hz
   ·exact this
   ·exact Int.le_trans this (h1 z hz)
  | false=>
   have:=of_decide_eq_false hd;refine qba.2 ⟨fun z hz=>?_,zo4 x h2⟩;rcases qaM.1 ((zhy x ys).mem_iff.1 hz)with rfl | hz
   ·omega
   exact h1 z hz
theorem zpj:∀ xs,(ztE xs).Pairwise (· ≤ ·)
 | []=>.nil
 | x :: xs=>zo4 x (zpj xs)
theorem zqJ:zeR=ztE:=by
 funext xs
 refine List.Perm.eq_of_pairwise (le:=fun a b:Int=>a≤b) (fun a b _ _ h1 h2=>Int.le_antisymm h1 h2) ?_ (zpj xs) ((List.mergeSort_perm xs _).trans (zle xs).symm);have:=List.pairwise_mergeSort (le:=fun x y:Int=>decide (x≤y)) (fun a b c h1 h2=>by simp at *; omega) (fun a b=>by simp; omega) xs;exact this.imp fun h=>by simpa using h
def zto(b:Nat)(xs:List Int):Option (List Int):=if xs.length * b≤zap then some (ztE xs)else none
theorem zqI:ziy=zto:=by
 funext b xs
 unfold ziy zto;rw[zqJ]
theorem zug:zdl=some true:=by
 delta zdl zaL zb7
 rw[zqI];decide +kernel
end Go.Dc
