/-
 Plain laws: Divide, by the program and by the reference. Conditions: none.
-/
import Derived.Test.YtnfgibomhkbcpaaFrJ7
import Derived.Test.YtnfgibomhkbcpaaFrJ6
set_option linter.unusedSimpArgs false
set_option linter.unusedVariables false
set_option maxRecDepth 100000
namespace Go.Dc
open Go Go.Mx Go.Lx
theorem zvj(b:Nat):((b:Int)== 0)=(b == 0):=zhB b 0
theorem ztz{a b:Nat}(hb:¬ b=0):zqs (a:Int) (b:Int)=some ((a % b:Nat):Int):=by
 unfold zqs;rw[zvj,beq_false_of_ne hb,cond_false]; rfl
theorem zuh{a b:Nat}(hb:¬ b=0)(ha:a≤zf6):zqZ .i64 (a:Int) (b:Int)=some ((a / b:Nat):Int):=by
 have h1:a≤4611686018427387903:=ha;have h2:a / b≤a:=Nat.div_le_self a b;unfold zqZ;rw[zvj,beq_false_of_ne hb,cond_false,show((a:Int).tdiv (b:Int))=((a / b:Nat):Int)from rfl];exact congrArg some (zbW (n:=a / b) (by omega))
def Fc.get(f:Fc)(j:Nat):Nat:=f.ws.getD j 0
theorem Fc.zlK{f:Fc}(hf:FcOk f)(k:Nat):f.get k≤zf6:=by
 unfold Fc.get;by_cases h:k<f.ws.length
 ·rw[qaY,qaf h];exact hf.num _ (qa4 h)
 rw[qaY,qbq (by omega)];exact qaO _
theorem zoK{f:Fc}{i:Nat}(hf:FcOk f)(h:i<zad f.cs):za4 f.D.w (i:Int)=some ((f.get i:Nat):Int):=zc2 (by rw[hf.size]; exact h)
theorem zuH(n:Nat):IntKind.u8.wrap (n:Int)=((n % 256:Nat):Int):=by
 simp only[IntKind.wrap,IntKind.bits,IntKind.signed]; simp
theorem zqG{n:Nat}(h:n<256):IntKind.u8.wrap (n:Int)=(n:Int):=by
 rw[zuH,qbo h]
theorem zvC{a b:Nat}(ha:a<256)(hb:b<256):zqr .u8 (a:Int) (b:Int)=((a &&& b:Nat):Int):=by
 have h:(BitVec.ofInt 8 (a:Int) &&& BitVec.ofInt 8 (b:Int)).toNat=a &&& b:=by
  simp only[BitVec.ofInt_natCast,BitVec.toNat_and,BitVec.toNat_ofNat];rw[qbo ha,qbo hb]
 show IntKind.u8.wrap ((BitVec.ofInt 8 (a:Int) &&& BitVec.ofInt 8 (b:Int)).toNat:Int)=_;rw[h];exact zqG (Nat.lt_of_le_of_lt Nat.and_le_left ha)
theorem zvo{a v:Nat}(hv:v<8):zpB .u8 (a:Int) (v:Int)=some ((a >>> v:Nat):Int):=by
 unfold zpB;rw[if_pos (by omega)];congr 1
 have h1:min (v:Int).toNat IntKind.u8.bits=v:=by
  rw[show IntKind.u8.bits=8 from rfl,qaC]; exact qbZ (by omega)
 rw[h1,qb4];have h2:((2:Int) ^ v)=((2 ^ v:Nat):Int):=by simp
 rw[h2,Int.fdiv_eq_ediv_of_nonneg _ (qbK _)];rfl
theorem zvy{a v:Nat}(ha:a<256)(hv:v<8):∃ q:Int,zpB .u8 (a:Int) (v:Int)=some q∧(zqr .u8 q 1 == 1)=a.testBit v:=by
 refine⟨_,zvo hv,?_⟩;rw[show(1:Int)=((1:Nat):Int)from rfl,zvC (Nat.lt_of_le_of_lt (by rw[qb4]; exact Nat.div_le_self _ _) ha) (by decide),zvs,zhB];cases a.testBit v<;>rfl
def zqB(v:Nat):Nat:=[2,3,1,2,2].getD v 0
def drV(w:Nat):List Nat:=(List.range' 0 5).filter w.testBit
def drC(w:Nat):List Nat:=(drV w).map zqB
theorem zjb{w:Nat}(hw:w<256){n:List Int}{b:Bool}:∀(m v k:Nat) (x y:List Nat),v+m=5→x.length≤v→y.length≤v→m<k →
  zaR ⟨(w:Int),n,b⟩ k (v:Int) (iL x) (iL y)=some (iL (x ++ (List.range' v m).filter w.testBit),iL (y ++ ((List.range' v m).filter w.testBit).map zqB))
 | _,_,0,_,_,_,_,_,h=>absurd h (qaw _)
 | 0,v,k+1,x,y,h,_,_,_=>by
  unfold zaR;rw[show decide ((v:Int)<5)=false from decide_eq_false (by omega),cond_false];simp
 | m+1,v,k+1,x,y,h,hx,hy,hk=>by
  obtain⟨q,h1,h2⟩:=zvy (a:=w) (v:=v) hw (by omega);unfold zaR;rw[show decide ((v:Int)<5)=true from decide_eq_true (by omega),cond_true,zqA (by omega),h1,qaa,h2,qbU];cases hb:w.testBit v with
  | false=>
   rw[cond_false,qaa];simp only[];rw[zaF (by omega),zjb hw m (v+1) k _ _ (by omega) (by omega) (by omega) (by omega),qbS (by rw[hb]; decide)]
  | true=>
   rw[cond_true,zlJ (by omega),qaa,show za4 ([2,3,1,2,2]:List Int) (v:Int)=some ((zqB v:Nat):Int)from zc2 (xs:=[2,3,1,2,2]) (by simp; omega),qaa,zlJ (by omega),qaa,qaa];simp only[];rw[zaF (by omega),zjb hw m (v+1) k _ _ (by omega) (by simp; omega) (by simp; omega) (by omega),qbT hb];simp
def zqO(n:List Nat)(j:Nat):Nat:=bif n.length == 0 then 1 else n.getD (j % n.length) 0 % 10
theorem zr6(n:List Nat)(j:Nat):zqO n j≤9:=by
 unfold zqO;cases(n.length == 0)
 ·rw[cond_false]; omega
 rw[cond_true]; omega
def zth(b:Bool):Nat:=bif b then 1000000000000000 else 1
theorem zpA{n:List Nat}(j:Nat):((bif (decide (0<((iL n).length:Int)))then((zqs (j:Int) ((iL n).length:Int)).bind fun q16=>(za4 (iL n) q16).bind fun x18=>some (w64 (x18.tmod 10)))else some 1:Option Int))=some ((zqO n j:Nat):Int):=by
 unfold zqO;rw[zaG];by_cases h:n.length=0
 ·rw[h,show decide ((0:Int)<((0:Nat):Int))=false from rfl,cond_false,show((0:Nat)== 0)=true from rfl,cond_true]; rfl
 rw[show decide ((0:Int)<(n.length:Int))=true from decide_eq_true (by omega),cond_true,beq_false_of_ne h,cond_false,ztz h,qaa,zc2 (qbv _ (by omega)),qaa];congr 1
 rw[show((n.getD (j % n.length) 0:Nat):Int).tmod 10=((n.getD (j % n.length) 0 % 10:Nat):Int)from rfl,zbW (by omega)]
theorem zmW{n:List Nat}{c:List Nat}{w:Int}{b b2:Bool}(hc:zcD (iL c)=true)(hp:zad c≤4096):∀(m i k:Nat) (ys:List Nat),i+m=zad c→ys.length=i→m<k →
  zaP (iL c) ⟨w,iL n,b⟩ ((zth b2:Nat):Int) k (i:Int) (iL ys)=some (iL (ys ++ (List.range' i m).map fun j=>zqO n j * zth b2))
 | _,_,0,_,_,_,h=>absurd h (qaw _)
 | 0,i,k+1,ys,h,hy,_=>by
  unfold zaP;rw[zhn hc,qaa,zdW];obtain rfl:i=zad c:=by omega
  rw[zjv,cond_false];simp
 | m+1,i,k+1,ys,h,hy,hk=>by
  have h1:=zr6 n i;have h2:zqO n i * zth b2≤9000000000000000:=by
   cases b2
   ·show zqO n i * 1≤_; omega
   show zqO n i * 1000000000000000≤_; omega
  unfold zaP;rw[zhn hc,qaa,zdW,zjm (by omega),cond_true,zpA,qaa,← qa0,zbW (by omega),zlJ (by omega),qaa,zaF (by omega),zmW hc hp m (i+1) k _ (by omega) (by simp[hy]) (by omega),qbU];simp
def drF(w:Nat)(n:List Nat)(b:Bool):Fc:=⟨drV w,drC w,(List.range' 0 (zad (drC w))).map fun j=>zqO n j * zth b⟩
theorem ztK:∀ w,w<256→zcD (iL (drC w))=true∧zad (drC w)≤24:=by decide +kernel
theorem zs9{w:Nat}(hw:w<256)(n:List Nat)(b:Bool):zbj 5000 ⟨(w:Int),iL n,b⟩=some (drF w n b).D:=by
 obtain⟨h1,h2⟩:=ztK w hw;unfold zbj;have e1:=zjb hw (n:=iL n) (b:=b) 5 0 ((5 - 0+2:Int).toNat) [] [] rfl (qah _) (qah _) (by decide);rw[show zaR ⟨(w:Int),iL n,b⟩ ((5 - 0+2:Int).toNat) 0 [] []=_ from e1,qaa];simp only[];have e2:(bif b then some ((1000000000000000:Int),true)else some (1,false))=some (((zth b:Nat):Int),b):=by cases b<;>rfl
 rw[e2,qaa];simp only[];have e3:=zmW (n:=n) (c:=drC w) (w:=(w:Int)) (b:=b) (b2:=b) h1 (by omega) (zad (drC w)) 0 5000 [] (by omega) rfl (by omega);rw[show zaP (iL ([]++ ((List.range' 0 5).filter w.testBit).map zqB)) ⟨(w:Int),iL n,b⟩ ((zth b:Nat):Int) 5000 0 []=_ from e3];rfl
theorem zpM{xs ys:List Int}(hl:xs.length=ys.length)(hb:xs.length<4611686018427387904):∀ n i:Nat,i≤xs.length→xs.length - i<n→zcA xs ys n (i:Int)=some (bif decide (xs.drop i=ys.drop i)then .go ()else .ret false)
 | 0,_,_,h=>absurd h (qaw _)
 | n+1,i,h1,h2=>by
  unfold zcA;rw[zrv];by_cases hi:i<xs.length
  ·have hy:i<ys.length:=by omega
   have e:(xs.drop i=ys.drop i)↔(xs[i]=ys[i]∧xs.drop (i+1)=ys.drop (i+1)):=by
    rw[qam hi,qam hy,List.cons.injEq]
   rw[decide_eq_true hi,cond_true,zbo hi,qaa,zbo hy,qaa,zaF (by omega)];by_cases hx:xs[i]=ys[i]
   ·rw[show(xs[i]== ys[i])=true from beq_iff_eq.2 hx,cond_true,zpM hl hb n (i+1) hi (by omega),decide_eq_decide.2 (show(xs.drop i=ys.drop i)↔(xs.drop (i+1)=ys.drop (i+1))from e.trans ⟨fun c=>c.2,fun c=>⟨hx,c⟩⟩)]
   rw[show(xs[i]== ys[i])=false from beq_false_of_ne hx,cond_false,decide_eq_false (fun c=>hx (e.1 c).1),cond_false]
  rw[decide_eq_false hi,cond_false,qbX (by omega),qbX (by omega),decide_eq_true rfl,cond_true]
theorem zmm{xs ys:List Int}(hb:xs.length<4611686018427387904):zdg xs ys=some (decide (xs=ys)):=by
 unfold zdg;by_cases hl:xs.length=ys.length
 ·rw[hl,beq_self_eq_true,cond_true,← hl,zbq];have:=zpM hl hb (xs.length+2) 0 (qaO _) (by omega);rw[show zcA xs ys (xs.length+2) 0=_ from this,qaE,qaE,qaa];cases decide (xs=ys)<;> rfl
 rw[show((xs.length:Int)==(ys.length:Int))=false from beq_false_of_ne (by omega),cond_false,decide_eq_false (fun e=>hl (by rw[e]))]
structure SzOk (x:S_api_Factor):Prop where
 vars:x.vars.length<4611686018427387904
 cards:x.cards.length<4611686018427387904
 w:x.w.length<4611686018427387904
theorem zmu{x y:S_api_Factor}:x=y↔x.vars=y.vars∧x.cards=y.cards∧x.w=y.w:=by
 cases x; cases y; simp
theorem zsi{x y:S_api_Factor}(h:SzOk x):zdb x y=some (decide (x=y)):=by
 unfold zdb;rw[zmm h.vars,qaa];by_cases h1:x.vars=y.vars
 ·rw[decide_eq_true h1,cond_true,zmm h.cards,qaa];by_cases h2:x.cards=y.cards
  ·rw[decide_eq_true h2,cond_true,zmm h.w,qaa,qaa,decide_eq_decide.2 (show x=y↔x.w=y.w from zmu.trans ⟨fun c=>c.2.2,fun c=>⟨h1,h2,c⟩⟩)]
  rw[decide_eq_false h2,cond_false,qaa,decide_eq_false (fun e=>h2 (zmu.1 e).2.1)]
 rw[decide_eq_false h1,cond_false,qaa,decide_eq_false (fun e=>h1 (zmu.1 e).1)]
theorem ziM:SzOk noF:=⟨by decide,by decide,by decide⟩
theorem FcOk.sz{f:Fc}(h:FcOk f):SzOk f.D:=by
 have h1:=h.le; have h2:=h.len; have h3:=h.size; have h4:=h.prod;refine⟨?_,?_,?_⟩
 ·show(iL f.vs).length<_; rw[zaG]; omega
 ·show(iL f.cs).length<_; rw[zaG]; omega
 show(iL f.ws).length<_; rw[zaG]; omega
theorem ztQ{x y:S_api_Factor}(h:SzOk x)(c d:Int):zbe x c y d=some ((c == d) && decide (x=bif d == 0 then y else noF)):=by
 unfold zbe;have e:(bif (d == 0)then some (y.vars,y.cards,y.w)else some ([],[],[]):Option (List Int×List Int×List Int))=some ((bif d == 0 then y else noF).vars,(bif d == 0 then y else noF).cards,(bif d == 0 then y else noF).w):=by
  cases(d == 0)<;> rfl
 rw[e,qaa];simp only[];rw[zsi h,show(⟨(bif d == 0 then y else noF).vars,(bif d == 0 then y else noF).cards,(bif d == 0 then y else noF).w⟩:S_api_Factor)=(bif d == 0 then y else noF)from rfl];cases(c == d)with
 | false=>rfl
 | true=>rw[cond_true,qaa,qaa,qa2]
theorem zfj{x y:S_api_Factor}(h:SzOk x){c d:Int}(hc:c=d)(hx:x=bif d == 0 then y else noF):zbe x c y d=some true:=by
 rw[ztQ h,hc,beq_self_eq_true,qa2,decide_eq_true hx]
theorem zuQ(x:S_api_Factor):∃ y,zfd x=some y:=by
 unfold zfd;have cut:∀(xs:List Int) (k:Nat),zgQ xs 0 (zok (xs.length:Int) (k:Int))=some (xs.take (min xs.length k)):=by
  intro xs k;have hm:zok (xs.length:Int) (k:Int)=((min xs.length k:Nat):Int):=by unfold zok; split<;>omega
  rw[hm];unfold zgQ;rw[if_pos ⟨qbp _,qbK _,by omega⟩,qaC];simp
 have c1:=cut x.vars 4;have c2:=cut x.cards 4;have c3:=cut x.w 40;rw[show zok (x.vars.length:Int) 4=zok (x.vars.length:Int) ((4:Nat):Int)from rfl,c1,qaa,show zok (x.cards.length:Int) 4=zok (x.cards.length:Int) ((4:Nat):Int)from rfl,c2,qaa,show zok (x.w.length:Int) 40=zok (x.w.length:Int) ((40:Nat):Int)from rfl,c3,qaa];exact⟨_,rfl⟩
theorem ztx(x:S_api_Factor):zmO x=false∨∃ f,FcOk f∧x=f.D:=by
 cases h:zmO x with
 | false=>exact .inl rfl
 | true=>exact .inr (zqC h)
section
variable {r4 r6 r8 r10 r12 r14 r16 r18:S_api_Factor}
end
structure DrOk (d:S_haruspexref03_Draft):Prop where
 which:∃ w:Nat,w<256∧d.which=(w:Int)
 n:∃ ns:List Nat,d.n=iL ns
theorem DrOk.s{d:S_haruspexref03_Draft}(h:DrOk d):∃ w n,w<256∧d=⟨((w:Nat):Int),iL n,d.large⟩∧zbj 5000 d=some (drF w n d.large).D:=by
 obtain⟨w,hw,e1⟩:=h.which;obtain⟨n,e2⟩:=h.n;obtain⟨a,b,c⟩:=d;simp only at e1 e2;subst e1 e2;exact⟨w,n,hw,rfl,zs9 hw n c⟩
def cof(f:Fc)(us:List Nat):List Nat:=us.map (at_ f.vs f.cs)
structure Sel (f:Fc) (us:List Nat):Prop where
 inc:us.Pairwise (· < ·)
 mem:∀ u∈us,u∈f.vs
theorem zjh:∀ {a b:List Nat},a.Pairwise (· < ·)→b.Pairwise (· < ·)→(∀ x∈a,x∈b)→a.Sublist b
 | [],b,_,_,_=>List.nil_sublist b
 | a :: xs,[],_,_,h=>by have:=h a qay; simp at this
 | a :: xs,b :: bs,ha,hb,h=>by
  obtain⟨ha1,ha2⟩:=qa9.1 ha;obtain⟨hb1,hb2⟩:=qa9.1 hb;rcases qaJ.1 (h a qay)with e | h1
  ·subst e;refine(zjh ha2 hb2 fun x hx=>?_).cons_cons a;rcases qaJ.1 (h x (qal _ hx))with e | h2
   ·have:=ha1 x hx; omega
   exact h2
  refine(zjh ha hb2 fun x hx=>?_).cons b;rcases qaJ.1 (h x hx)with e | h2
  ·have h3:=hb1 a h1;rcases qaJ.1 hx with e2 | h4
   ·omega
   have:=ha1 x h4; omega
  exact h2
theorem zjg:∀ {a b:List Nat},a.Sublist b→(∀ c∈b,1≤c)→zad a≤zad b
 | _,_,.slnil,_=>qah _
 | a,b :: bs,.cons _ h,hb=>by
  have h1:=zjg h fun c hc=>hb c (qal _ hc)
  have h2:=qbW (hb b qay) (qah (zad bs));show zad a≤b * zad bs;omega
 | a :: xs,_ :: bs,.cons_cons _ h,hb=>qbW (qah a) (zjg h fun c hc=>hb c (qal _ hc))
theorem zs7{f:Fc}(hf:FcOk f){us:List Nat}(hs:Sel f us):(cof f us).Sublist f.cs:=by
 have h:=(zjh hs.inc hf.inc hs.mem).map (at_ f.vs f.cs)
 rwa [zrQ (zce hf.inc) hf.len]at h
theorem zdf{f:Fc}(hf:FcOk f){us:List Nat}(hs:Sel f us):Dom us (cof f us):=by
 have h:=zs7 hf hs;exact⟨by simp[cof],zce hs.inc,fun x hx=>hf.card x (h.subset hx),qau h.length_le hf.le,qau (zjg h fun c hc=>(hf.card c hc).1) hf.prod⟩
theorem zpa{f:Fc}{us:List Nat}(hs:Sel f us):Sub f.vs f.cs us (cof f us):=
 zrx (by simp[cof]) (zce hs.inc) fun u hu=>⟨hs.mem u hu,by unfold cof; rw[zrL hu]⟩
def ix(f:Fc)(us:List Nat)(i:Nat):Nat:=dot (us.map (at_ f.vs (dig f.cs i))) (zaS (cof f us))
theorem zsV{f:Fc}(hf:FcOk f){us:List Nat}(hs:Sel f us){i:Nat}(h:i<zad f.cs):ix f us i<zad (cof f us):=
 zrD (Sub.below hf.len (ze9 hf.card h) (zpa hs))
theorem zrq{f:Fc}(hf:FcOk f){us:List Nat}(hs:Sel f us){i:Nat}:dot (dig f.cs i) (f.vs.map (stp us (cof f us)))=ix f us i:=by
 rw[zpU (zce hf.inc) (by simp[cof]) (zce hs.inc)]; rfl
def gop(b:Bool)(x y:Nat):Nat:=bif b then max x y else x+y
def ze8(b:Bool)(f:Fc)(us:List Nat):Nat→Nat→List Nat→Option (List Nat)
 | 0,_,l=>some l
 | m+1,i,l=>bif decide (gop b (l.getD (ix f us i) 0) (f.get i)≤zf6)then ze8 b f us m (i+1) (l.set (ix f us i) (gop b (l.getD (ix f us i) 0) (f.get i)))else none
theorem zk5{b:Bool}{f:Fc}{us:List Nat}:∀ {m i:Nat} {l l':List Nat},ze8 b f us m i l=some l'→l'.length=l.length
 | 0,_,_,_,h=>by cases h; rfl
 | m+1,i,l,l',h=>by
  unfold ze8 at h;cases hd:decide (gop b (l.getD (ix f us i) 0) (f.get i)≤zf6)with
  | false=>rw[hd]at h; cases h
  | true=>rw[hd,cond_true]at h; rw[zk5 h,qa5]
theorem zm2{b:Bool}{f:Fc}{us:List Nat}:∀ {m i:Nat} {l l':List Nat},(∀ x∈l,x≤zf6)→ze8 b f us m i l=some l'→∀ x∈l',x≤zf6
 | 0,_,_,_,hl,h=>by cases h; exact hl
 | m+1,i,l,l',hl,h=>by
  unfold ze8 at h;cases hd:decide (gop b (l.getD (ix f us i) 0) (f.get i)≤zf6)with
  | false=>rw[hd]at h; cases h
  | true=>
   rw[hd,cond_true]at h;refine zm2 (fun x hx=>?_) h;rcases qby hx with h1 | h1
   ·exact hl x h1
   rw[h1]; exact of_decide_eq_true hd
theorem zmF(i c P:Nat):(i % (c * P)) / P=(i / P) % c:=by
 rw[qba c P,Nat.mod_mul_right_div_self]
theorem zlR(i c P:Nat):(i % (c * P)) % P=i % P:=Nat.mod_mod_of_dvd i ⟨c,qba c P⟩
theorem zna{cs:List Nat}{i:Nat}(hc:∀ c∈cs,1≤c∧c≤8)(hi:i≤100000)(hl:cs.length≤12):∀(k n:Nat),k≤cs.length→k<n →
  zbS (iL cs) n ((i / zad (cs.drop k):Nat):Int) ((k:Int) - 1) (iL (List.replicate k 0 ++ dig (cs.drop k) (i % zad (cs.drop k))))=some (iL (dig cs (i % zad cs)))
 | _,0,_,h=>absurd h (qaw _)
 | 0,n+1,_,_=>by
  unfold zbS;rw[show decide ((0:Int)≤((0:Nat):Int) - 1)=false from rfl,cond_false,qbG,qaT,qaE]
 | k+1,n+1,hk,hn=>by
  have hkl:k<cs.length:=hk;have e:cs.drop k=cs[k]:: cs.drop (k+1):=qam hkl;have hck:=hc cs[k] (qa4 hkl);have ih:=zna hc hi hl k n (by omega) (by omega);rw[e,show zad (cs[k]:: cs.drop (k+1))=cs[k] * zad (cs.drop (k+1))from rfl]at ih;rw[show dig (cs[k]:: cs.drop (k+1)) (i % (cs[k] * zad (cs.drop (k+1))))=(i % (cs[k] * zad (cs.drop (k+1)))) / zad (cs.drop (k+1)):: dig (cs.drop (k+1)) (i % (cs[k] * zad (cs.drop (k+1))) % zad (cs.drop (k+1)))from rfl,zmF,zlR]at ih;have hq:i / zad (cs.drop (k+1))≤i:=Nat.div_le_self _ _;unfold zbS
  rw[pred_succ,ztD,cond_true,zbK hkl,qaa,ztz (by omega),qaa,
   show List.replicate (k+1) 0 ++ dig (cs.drop (k+1)) (i % zad (cs.drop (k+1)))=List.replicate k 0 ++ 0 :: dig (cs.drop (k+1)) (i % zad (cs.drop (k+1))) by rw[qb2,qaM]; rfl,
   zcy (by simp),qaa,zdJ (by simp),qaa,zuh (by omega) (by show _≤4611686018427387903; omega),qaa,zdG (by omega) (by omega),Nat.div_div_eq_div_mul,qba (zad (cs.drop (k+1)))]
  exact ih
theorem zqV{cs:List Nat}(hc:∀ c∈cs,1≤c∧c≤8)(hl:cs.length≤12){i:Nat}(hi:i<zad cs)(hp:zad cs≤4096):zdC (iL cs) (i:Int)=some (iL (dig cs i)):=by
 unfold zdC;rw[zaG,zdj (by omega),qaa];have h:=zna (i:=i) hc (by omega) hl cs.length (cs.length+1) (qah _) (by omega);rw[qaF,show zad ([]:List Nat)=1 from rfl,Nat.div_one,Nat.mod_one,show dig [] 0=[]from rfl,qa1,zeb,qbo hi]at h;rw[zdG (by omega) (by omega),show(((cs.length:Int) - 1) - 0+2).toNat=cs.length+1 by omega,h,qaa]
theorem ztv{cs:List Nat}{ps:List Nat}(hp:∀ p∈ps,p<cs.length)(hl:ps.length≤1000):∀(n i:Nat) (acc:List Nat),i≤ps.length→acc.length≤i→ps.length - i<n →
  zdU (iL ps) (iL cs) n (i:Int) (iL acc)=some (iL (acc ++ (ps.drop i).map fun p=>cs.getD p 0))
 | 0,_,_,_,_,h=>absurd h (qaw _)
 | n+1,i,acc,hi,ha,hn=>by
  unfold zdU;rw[zaG];rcases qaQ i ps.length with h | h
  ·rw[zjm h,cond_true,zbK h,qaa,zc2 (hp _ (qa4 h)),qaa,zlJ (by omega),qaa,zaF (by omega),ztv hp hl n (i+1) _ h (by simp; omega) (by omega),qam h,qax,qaM,qaD]
  obtain rfl:i=ps.length:=by omega
  rw[zjv,cond_false];simp
theorem zsj{cs ps:List Nat}(hp:∀ p∈ps,p<cs.length)(hl:ps.length≤1000):zeN (iL cs) (iL ps)=some (iL (ps.map fun p=>cs.getD p 0)):=by
 unfold zeN;have h:=ztv hp hl (ps.length+2) 0 [] (qaO _) (qah _) (by omega);rw[zaG,zbq,show zdU (iL ps) (iL cs) (ps.length+2) 0 []=_ from h];simp
def plc(f:Fc)(us:List Nat):List Nat:=us.map fun u=>(pos f.vs u).getD 0
theorem zpD{f:Fc}{us:List Nat}(hs:Sel f us)(ds:List Nat):(plc f us).map (fun p=>ds.getD p 0)=us.map (at_ f.vs ds):=by
 unfold plc;rw[List.map_map];refine List.map_congr_left fun u hu=>?_
 obtain⟨k,hk⟩:=zfZ (hs.mem u hu);show ds.getD ((pos f.vs u).getD 0) 0=_;rw[zp5 hk,hk]; rfl
theorem zpk{f:Fc}{us:List Nat}(hs:Sel f us):∀ p∈plc f us,p<f.vs.length:=by
 intro p hp;obtain⟨u,hu,rfl⟩:=qaW.1 hp;obtain⟨k,hk⟩:=zfZ (hs.mem u hu);rw[hk];exact(zeP hk).1
theorem zeF{f:Fc}(hf:FcOk f){us:List Nat}(hs:Sel f us):us.length≤12:=by
 have:=(zjh hs.inc hf.inc hs.mem).length_le;have:=hf.len; have:=hf.le;omega
theorem zuj{f:Fc}(hf:FcOk f){us:List Nat}(hs:Sel f us){i:Nat}(hi:i<zad f.cs):zes (iL f.cs) (iL (plc f us)) (i:Int)=some ((ix f us i:Nat):Int):=by
 have hl:=zeF hf hs;have hpl:(plc f us).length=us.length:=by simp[plc]
 have hD:=zdf hf hs;unfold zes;rw[zsj (fun p hp=>by rw[← hf.len]; exact zpk hs p hp) (by omega),qaa,zqV hf.card hf.le hi hf.prod,qaa,zsj (fun p hp=>by rw[zhs,← hf.len]; exact zpk hs p hp) (by omega),qaa,zpD hs,zpD hs];show(zda (iL (cof f us)) _).bind _=_;rw[zsw (Sub.below hf.len (ze9 hf.card hi) (zpa hs)) (fun c hc=>(hD.card c hc).1) hD.prod hD.le];rfl
theorem zo6{f:Fc}(hf:FcOk f){us:List Nat}(hs:Sel f us):∀(n i:Nat) (acc:List Nat),i≤us.length→acc.length≤i→us.length - i<n →
  zcC (iL us) f.D n (i:Int) (iL acc)=some (iL (acc ++ plc f (us.drop i)))
 | 0,_,_,_,_,h=>absurd h (qaw _)
 | n+1,i,acc,hi,ha,hn=>by
  have hl:=zeF hf hs;unfold zcC;rw[zaG];rcases qaQ i us.length with h | h
  ·obtain⟨k,hk⟩:=zfZ (hs.mem us[i] (qa4 h));rw[zjm h,cond_true,zbK h,qaa,znf hf,qaa,zbV,hk,show ixZ (some k)=(k:Int)from rfl,zlJ (by omega),qaa,zaF (by omega),zo6 hf hs n (i+1) _ h (by simp; omega) (by omega),qam h,show plc f (us[i]:: us.drop (i+1))=(pos f.vs us[i]).getD 0 :: plc f (us.drop (i+1))from rfl,hk,qaM,qaD];rfl
  obtain rfl:i=us.length:=by omega
  rw[zjv,cond_false];simp[plc]
theorem zmE{b:Bool}{x y:Nat}(hx:x≤zf6)(hy:y≤zf6):(bif b then zsF (x:Int) (y:Int)else w64 ((x:Int)+(y:Int)))=((gop b x y:Nat):Int):=by
 have h1:x≤4611686018427387903:=hx;have h2:y≤4611686018427387903:=hy;cases b with
 | true=>
  show zsF (x:Int) (y:Int)=((max x y:Nat):Int);unfold zsF;split<;>omega
 | false=>
  show w64 ((x:Int)+(y:Int))=((x+y:Nat):Int);rw[zdG (by omega) (by omega)]; omega
theorem zj3{l:List Nat}(h:∀ x∈l,x≤zf6)(k:Nat):l.getD k 0≤zf6:=by
 by_cases hk:k<l.length
 ·rw[qaY,qaf hk];exact h _ (qa4 hk)
 rw[qaY,qbq (by omega)];exact qaO _
theorem zti{xs:List Nat}{k y:Nat}(h:k<xs.length):zfH (iL xs) (k:Int) (y:Int)=some (iL (xs.set k y)):=by
 rw[zjO (by rw[zaG]; exact h)];simp[iL]
theorem ztU{x:Nat}:decide ((4611686018427387903:Int)<(x:Int))=!decide (x≤zf6):=by
 by_cases h:x≤zf6
 ·rw[decide_eq_true h]; exact decide_eq_false (by have:x≤4611686018427387903:=h; omega)
 rw[decide_eq_false h]; exact decide_eq_true (by have:¬ x≤4611686018427387903:=h; omega)
theorem zpN{f:Fc}(hf:FcOk f){us:List Nat}(hs:Sel f us){x:Int}(b:Bool):∀(m i n:Nat) (l:List Nat),i+m=zad f.cs→l.length=zad (cof f us)→(∀ x∈l,x≤zf6)→m<n →
  zck f.D (iL (plc f us)) x n b (i:Int) (iL l)=some (match ze8 b f us m i l with | some l'=>.go (iL l')| none=>.ret (noF,false))
 | _,_,0,_,_,_,_,h=>absurd h (qaw _)
 | 0,i,n+1,l,h,_,_,_=>by
  unfold zck;obtain rfl:i=zad f.cs:=by omega
  rw[show f.D.w=iL f.ws from rfl,zaG,hf.size,zjv,cond_false];rfl
 | m+1,i,n+1,l,h,hl,hb,hn=>by
  have hi:i<zad f.cs:=by omega
  have hp:=hf.prod;have hk:=zsV hf hs hi;have hkl:ix f us i<l.length:=by omega
  have g1:=zj3 hb (ix f us i);have g2:=Fc.zlK hf i;have e:=zmE (b:=b) g1 g2;unfold zck;rw[show f.D.w=iL f.ws from rfl,zaG,hf.size,zjm hi,cond_true,show f.D.cards=iL f.cs from rfl,zuj hf hs hi,qaa,show za4 (iL f.ws) (i:Int)=some ((f.get i:Nat):Int)from zoK hf hi,zc2 hkl]
  have e2:((bif b then
    ((some ((l.getD (ix f us i) 0:Nat):Int)).bind fun x24=>(some ((f.get i:Nat):Int)).bind fun x26=>(zfH (iL l) ((ix f us i:Nat):Int) (zsF x24 x26)).bind fun y28=>some (true,y28))
   else
    ((some ((l.getD (ix f us i) 0:Nat):Int)).bind fun x18=>(some ((f.get i:Nat):Int)).bind fun x20=>(zfH (iL l) ((ix f us i:Nat):Int) (w64 (x18+x20))).bind fun y22=>some (false,y22)):Option (Bool×List Int)))=
    some (b,iL (l.set (ix f us i) (gop b (l.getD (ix f us i) 0) (f.get i)))):=by
   cases b with
   | true=>
    rw[cond_true]at e;rw[cond_true,qaa,qaa,e,zti hkl,qaa]
   | false=>
    rw[cond_false]at e;rw[cond_false,qaa,qaa,e,zti hkl,qaa]
  rw[e2,qaa];simp only[];rw[zc2 (by rw[qa5]; exact hkl),qaa,ztU];have e3:(l.set (ix f us i) (gop b (l.getD (ix f us i) 0) (f.get i))).getD (ix f us i) 0=gop b (l.getD (ix f us i) 0) (f.get i):=by
   rw[qaY,qaA hkl]; rfl
  rw[e3];unfold ze8;cases hd:decide (gop b (l.getD (ix f us i) 0) (f.get i)≤zf6)with
  | false=>rfl
  | true=>
   rw[qaS,cond_false,cond_true,zaF (by omega)];refine zpN hf hs b m (i+1) n _ (by omega) (by rw[qa5]; exact hl) (fun x hx=>?_) (by omega);rcases qby hx with h1 | h1
   ·exact hb x h1
   rw[h1]; exact of_decide_eq_true hd
def gat(b:Bool)(f:Fc)(us:List Nat):Option (List Nat):=ze8 b f us (zad f.cs) 0 (List.replicate (zad (cof f us)) 0)
theorem zgJ{n:Nat}:∀ x∈List.replicate n 0,x≤zf6:=fun x hx=>by rw[(List.mem_replicate.1 hx).2]; exact qaO _
theorem zrs{f:Fc}(hf:FcOk f){us:List Nat}(hs:Sel f us)(b:Bool):zdR f.D (iL us) b=some (match gat b f us with | some l=>(⟨iL us,iL (cof f us),iL l⟩,true)| none=>(noF,false)):=by
 have hl:=zeF hf hs;have hD:=zdf hf hs;have hp:=hD.prod;have hpf:=hf.prod;have hpl:(plc f us).length=us.length:=by simp[plc]
 unfold zdR;have h1:=zo6 hf hs (us.length+2) 0 [] (qaO _) (qah _) (by omega);rw[zaG,zbq,show zcC (iL us) f.D (us.length+2) 0 []=_ from h1,qaa,qaT,qaE,show f.D.cards=iL f.cs from rfl,zsj (fun p hp=>by rw[← hf.len]; exact zpk hs p hp) (by omega),qaa,zpD hs];show(zcO (iL (cof f us))).bind _=_;rw[zhn (by unfold zcD; rw[zaG,decide_eq_true hD.le,qa2]; exact zhN hD.card (by omega)),qaa,zdW,zdj (by omega),qaa,show f.D.w=iL f.ws from rfl,zaG,zbq,← zeb];have h2:=zpN hf hs (x:=((zad (cof f us):Nat):Int)) b (zad f.cs) 0 (f.ws.length+2) (List.replicate (zad (cof f us)) 0) (by omega) (by simp) zgJ (by rw[hf.size]; omega);rw[show zck f.D (iL (plc f us)) ((zad (cof f us):Nat):Int) (f.ws.length+2) b 0 (iL (List.replicate (zad (cof f us)) 0))=_ from h2,qaa];unfold gat;cases ze8 b f us (zad f.cs) 0 (List.replicate (zad (cof f us)) 0)<;> rfl
theorem zfB(cs:List Nat):∀(i:Nat) (h:i<cs.length),zad (cs.drop i)=cs[i] * zad (cs.drop (i+1)):=by
 intro i h;rw[qam h]; rfl
theorem zrU{f:Fc}(hf:FcOk f){us:List Nat}(hs:Sel f us):∀(n i a:Nat),i≤us.length→us.length - i<n→a * zad ((cof f us).drop i)≤4096→1≤a →
  zaz (iL us) f.T n (a:Int) (i:Int) (iL ((cof f us).take i ++ List.replicate (us.length - i) 0))=some (((a * zad ((cof f us).drop i):Nat):Int),iL (cof f us))
 | 0,_,_,_,h,_,_=>absurd h (qaw _)
 | n+1,i,a,hi,hn,ha,h1=>by
  have hl:=zeF hf hs;have hcl:(cof f us).length=us.length:=by simp[cof]
  unfold zaz;rw[zaG];rcases qaQ i us.length with h3 | h3
  ·have h3c:i<(cof f us).length:=by omega
   have hcc:=(zdf hf hs).card (cof f us)[i] (qa4 h3c);have hpos:0<zad ((cof f us).drop (i+1)):=zbs fun c hc=>(zdf hf hs).card c (qbO hc)
   have e0:=zfB (cof f us) i h3c;have ea:a * zad ((cof f us).drop i)=a * (cof f us)[i] * zad ((cof f us).drop (i+1)):=by rw[e0,qb0]
   have hle:a * (cof f us)[i]≤4096:=qau (qbr _ hpos) (ea ▸ ha);have ih:=zrU hf hs n (i+1) (a * (cof f us)[i]) h3 (by omega) (ea ▸ ha) (qch (by omega) (by omega));have ht:((cof f us).take i).length=i:=by simp; omega
   have e:List.replicate (us.length - i) 0=0 :: List.replicate (us.length - (i+1)) 0:=by
    rw[show us.length - i=(us.length - (i+1))+1 by omega,qaX]
   rw[qbM h3c,qaM,qaD]at ih;obtain⟨k,hk⟩:=zfZ (hs.mem us[i] (qa4 h3));have ec:at_ f.vs f.cs us[i]=(cof f us)[i]:=by simp[cof]
   rw[zjm h3,cond_true,zbK h3,qaa,zeQ hf,qaa,zbV,hk,show f.T.factor=f.D from rfl,zi3 hf hk,qaa,ec,e,zcy ht,qaa,zdJ ht,qaa,← qa0,zbW (by omega),zaF (by omega),ea];exact ih
  obtain rfl:i=us.length:=by omega
  rw[zjv,cond_false,Nat.sub_self,qbG,qa1,qaG (by omega),qbh (by omega),show zad ([]:List Nat)=1 from rfl,Nat.mul_one]
theorem zf1{g:Nat→Nat}{p:Nat}:∀ {vs:List Nat} {v k:Nat},vs.Nodup→pos vs v=some k→(vs.map g).set k p=vs.map fun u=>bif v == u then p else g u
 | [],_,_,_,h=>by cases h
 | u :: us,v,k,hn,h=>by
  obtain⟨h1,h2⟩:=qbs.1 hn;rw[show pos (u :: us) v=bif u == v then some 0 else(pos us v).map (· + 1)from rfl]at h;cases hb:(u == v)with
  | true=>
   rw[hb,cond_true]at h;cases h;have:u=v:=by simpa using hb
   subst this;rw[qax,qax,List.set_cons_zero,beq_self_eq_true,cond_true];refine congrArg (p :: ·) (List.map_congr_left fun x hx=>?_);rw[show(u == x)=false from beq_false_of_ne (fun e=>h1 (e ▸ hx)),cond_false]
  | false=>
   rw[hb,cond_false]at h;cases hp:pos us v with
   | none=>rw[hp]at h; cases h
   | some j=>
    rw[hp]at h;cases h;rw[qax,qax,List.set_cons_succ,zf1 h2 hp,show(v == u)=false from beq_false_of_ne (fun e=>ne_of_beq_false hb e.symm),cond_false]
theorem zrX{f:Fc}(hf:FcOk f){us:List Nat}(hs:Sel f us):∀(k n:Nat),k≤us.length→k<n →
  zat (iL us) f.T (iL (cof f us)) n ((zad ((cof f us).drop k):Nat):Int) ((k:Int) - 1) (iL (f.vs.map (stp (us.drop k) ((cof f us).drop k))))=some (iL (f.vs.map (stp us (cof f us))))
 | _,0,_,h=>absurd h (qaw _)
 | 0,n+1,_,_=>by
  unfold zat;rw[show decide ((0:Int)≤((0:Nat):Int) - 1)=false from rfl,cond_false,qaE,qaE]
 | k+1,n+1,hk,hn=>by
  have hl:=zeF hf hs;have hD:=zdf hf hs;have hcl:(cof f us).length=us.length:=by simp[cof]
  have h3:k<us.length:=hk;have h3c:k<(cof f us).length:=by omega
  have ih:=zrX hf hs k n (by omega) (by omega);have e0:=zfB (cof f us) k h3c;have hle:zad ((cof f us).drop k)≤4096:=qau (zc3 (fun c hc=>(hD.card c hc).1) k) hD.prod;obtain⟨j,hj⟩:=zfZ (hs.mem us[k] (qa4 h3));obtain⟨hj2,_⟩:=zeP hj;have em:(f.vs.map (stp (us.drop (k+1)) ((cof f us).drop (k+1)))).set j (zad ((cof f us).drop (k+1)))=f.vs.map (stp (us.drop k) ((cof f us).drop k)):=by
   rw[zf1 (zce hf.inc) hj,qam h3,qam h3c];rfl
  unfold zat;rw[pred_succ,ztD,cond_true,zbK h3,qaa,zeQ hf,qaa,zbV,hj,show ixZ (some j)=(j:Int)from rfl,zc2 (by simpa using hj2),qaa,zti (by simpa using hj2),qaa,zbK h3c,qaa,← qa0,qba,← e0,zbW (by omega),zdG (by omega) (by omega),em];exact ih
theorem zro{f:Fc}(hf:FcOk f){us:List Nat}(hs:Sel f us){x:Int}:∀(m i:Nat) (l:List Nat),i+m=zad f.cs→l.length=zad (cof f us)→(∀ x∈l,x≤zf6)→
  ∃ z,zau f.T x (zjY f.cs (f.vs.map (stp us (cof f us))) i m) (iL l)=some (match ze8 false f us m i l with | some l'=>.go (iL l')| none=>.brk z)
 | 0,i,l,_,_,_=>⟨[],rfl⟩
 | m+1,i,l,h,hl,hb=>by
  have hi:i<zad f.cs:=by omega
  have hk:=zsV hf hs hi;have hkl:ix f us i<l.length:=by omega
  have g1:=zj3 hb (ix f us i);have g2:=Fc.zlK hf i;have e:=zmE (b:=false) g1 g2;rw[cond_false]at e;rw[zg1,zrq hf hs];have es:zdA ((l.getD (ix f us i) 0:Nat):Int) ((f.get i:Nat):Int)=some (((gop false (l.getD (ix f us i) 0) (f.get i):Nat):Int),decide (gop false (l.getD (ix f us i) 0) (f.get i)≤zf6)):=by
   unfold zdA;rw[e];refine congrArg (fun b:Bool=>some (((gop false (l.getD (ix f us i) 0) (f.get i):Nat):Int),b)) (decide_eq_decide.2 ⟨fun h=>?_,fun h=>?_⟩)
   ·show _≤4611686018427387903; omega
   have:_≤4611686018427387903:=h; omega
  have e1:∀ ys,zau f.T x (((i:Int),((ix f us i:Nat):Int),iL (dig f.cs i)):: ys) (iL l)=bif decide (gop false (l.getD (ix f us i) 0) (f.get i)≤zf6)then zau f.T x ys (iL (l.set (ix f us i) (gop false (l.getD (ix f us i) 0) (f.get i))))else some (.brk (iL (l.set (ix f us i) (gop false (l.getD (ix f us i) 0) (f.get i))))):=by
   intro ys;show(za4 (iL l) ((ix f us i:Nat):Int)).bind _=_;rw[zc2 hkl,qaa];simp only[];rw[show za4 f.T.factor.w (i:Int)=some ((f.get i:Nat):Int)from zoK hf hi,qaa,es,qaa];simp only[];rw[zti hkl,qaa]
  rw[e1];unfold ze8;cases hd:decide (gop false (l.getD (ix f us i) 0) (f.get i)≤zf6)with
  | false=>exact⟨_,rfl⟩
  | true=>
   rw[cond_true,cond_true];refine zro hf hs m (i+1) _ (by omega) (by rw[qa5]; exact hl) fun x hx=>?_
   rcases qby hx with h1 | h1
   ·exact hb x h1
   rw[h1]; exact of_decide_eq_true hd
theorem zqa(f:Fc):f.vs.map (stp [] [])=List.replicate f.vs.length 0:=by
 rw[List.eq_replicate_iff];refine⟨by simp,fun x hx=>?_⟩;obtain⟨v,_,rfl⟩:=qaW.1 hx;simp[stp]
theorem zru{f:Fc}(hf:FcOk f){us:List Nat}(hs:Sel f us)(v:Nat):stp us (cof f us) v≤4096:=by
 have hD:=zdf hf hs;rw[zjq hD.len];cases hp:pos us v with
 | none=>exact qaO _
 | some k=>
  simp only;by_cases h:k<(zaS (cof f us)).length
  ·rw[qaY,qaf h];exact zjL (fun c hc=>(hD.card c hc).1) hD.prod _ (qa4 h)
  rw[qaY,qbq (by omega)];exact qaO _
theorem zq5{f:Fc}(hf:FcOk f){us:List Nat}(hs:Sel f us):zaD f.T (iL us)=some (match gat false f us with | some l=>(⟨iL us,iL (cof f us),iL l⟩,0)| none=>(noF,6)):=by
 have hl:=zeF hf hs;have hD:=zdf hf hs;have hp:=hD.prod;have hpf:=hf.prod;have hfl:=hf.le;have hfl2:=hf.len;have hcl:(cof f us).length=us.length:=by simp[cof]
 unfold zaD;have h1:=zrU hf hs (us.length+2) 0 1 (qaO _) (by omega) (by rw[qaE]; omega) (qah _);rw[qbE,qaT,qci,zeb,qaE,qbD]at h1;rw[zaG,zdj (by omega),qaa,zbq,show zaz (iL us) f.T (us.length+2) 1 0 (List.replicate us.length 0)=_ from h1,qaa];simp only[];rw[zdj (by omega),qaa,show f.T.factor.vars=iL f.vs from rfl,zaG,zdj (by omega),qaa,zdG (by omega) (by omega),show(((us.length:Int) - 1) - 0+2).toNat=us.length+1 by omega];have h2:=zrX hf hs us.length (us.length+1) (qah _) (by omega);rw[qaF,qbh (by omega),zqa,zeb,show zad ([]:List Nat)=1 from rfl]at h2;rw[show zat (iL us) f.T (iL (cof f us)) (us.length+1) 1 ((us.length:Int) - 1) (List.replicate f.vs.length 0)=_ from h2,qaa,zhI,qaa];simp only[];rw[show f.T.factor.cards=iL f.cs from rfl,zpy hf.card hf.le hf.prod (by rw[qbf,hf.len]) (fun s hs2=>by obtain⟨v,_,rfl⟩:=qaW.1 hs2; exact zru hf hs v),qaa];obtain⟨z,h3⟩:=zro hf hs (x:=((zad (cof f us):Nat):Int)) (zad f.cs) 0 (List.replicate (zad (cof f us)) 0) (by omega) (by simp) zgJ;rw[← zeb,h3,qaa];unfold gat;cases ze8 false f us (zad f.cs) 0 (List.replicate (zad (cof f us)) 0)<;> rfl
theorem zrC{f:Fc}(hf:FcOk f){us:List Nat}(hs:Sel f us):∀(n i a:Nat),i≤us.length→us.length - i<n→a * zad ((cof f us).drop i)≤4096→1≤a →
  zay (iL us) f.T n (a:Int) (i:Int) (iL ((cof f us).take i ++ List.replicate (us.length - i) 0))=some (((a * zad ((cof f us).drop i):Nat):Int),iL (cof f us))
 | 0,_,_,_,h,_,_=>absurd h (qaw _)
 | n+1,i,a,hi,hn,ha,h1=>by
  have hl:=zeF hf hs;have hcl:(cof f us).length=us.length:=by simp[cof]
  unfold zay;rw[zaG];rcases qaQ i us.length with h3 | h3
  ·have h3c:i<(cof f us).length:=by omega
   have hcc:=(zdf hf hs).card (cof f us)[i] (qa4 h3c);have hpos:0<zad ((cof f us).drop (i+1)):=zbs fun c hc=>(zdf hf hs).card c (qbO hc)
   have e0:=zfB (cof f us) i h3c;have ea:a * zad ((cof f us).drop i)=a * (cof f us)[i] * zad ((cof f us).drop (i+1)):=by rw[e0,qb0]
   have hle:a * (cof f us)[i]≤4096:=qau (qbr _ hpos) (ea ▸ ha);have ih:=zrC hf hs n (i+1) (a * (cof f us)[i]) h3 (by omega) (ea ▸ ha) (qch (by omega) (by omega));have ht:((cof f us).take i).length=i:=by simp; omega
   have e:List.replicate (us.length - i) 0=0 :: List.replicate (us.length - (i+1)) 0:=by
    rw[show us.length - i=(us.length - (i+1))+1 by omega,qaX]
   rw[qbM h3c,qaM,qaD]at ih;obtain⟨k,hk⟩:=zfZ (hs.mem us[i] (qa4 h3));have ec:at_ f.vs f.cs us[i]=(cof f us)[i]:=by simp[cof]
   rw[zjm h3,cond_true,zbK h3,qaa,zeQ hf,qaa,zbV,hk,show f.T.factor=f.D from rfl,zi3 hf hk,qaa,ec,e,zcy ht,qaa,zdJ ht,qaa,← qa0,zbW (by omega),zaF (by omega),ea];exact ih
  obtain rfl:i=us.length:=by omega
  rw[zjv,cond_false,Nat.sub_self,qbG,qa1,qaG (by omega),qbh (by omega),show zad ([]:List Nat)=1 from rfl,Nat.mul_one]
theorem zrw{f:Fc}(hf:FcOk f){us:List Nat}(hs:Sel f us):∀(k n:Nat),k≤us.length→k<n →
  zas (iL us) f.T (iL (cof f us)) n ((zad ((cof f us).drop k):Nat):Int) ((k:Int) - 1) (iL (f.vs.map (stp (us.drop k) ((cof f us).drop k))))=some (iL (f.vs.map (stp us (cof f us))))
 | _,0,_,h=>absurd h (qaw _)
 | 0,n+1,_,_=>by
  unfold zas;rw[show decide ((0:Int)≤((0:Nat):Int) - 1)=false from rfl,cond_false,qaE,qaE]
 | k+1,n+1,hk,hn=>by
  have hl:=zeF hf hs;have hD:=zdf hf hs;have hcl:(cof f us).length=us.length:=by simp[cof]
  have h3:k<us.length:=hk;have h3c:k<(cof f us).length:=by omega
  have ih:=zrw hf hs k n (by omega) (by omega);have e0:=zfB (cof f us) k h3c;have hle:zad ((cof f us).drop k)≤4096:=qau (zc3 (fun c hc=>(hD.card c hc).1) k) hD.prod;obtain⟨j,hj⟩:=zfZ (hs.mem us[k] (qa4 h3));obtain⟨hj2,_⟩:=zeP hj;have em:(f.vs.map (stp (us.drop (k+1)) ((cof f us).drop (k+1)))).set j (zad ((cof f us).drop (k+1)))=f.vs.map (stp (us.drop k) ((cof f us).drop k)):=by
   rw[zf1 (zce hf.inc) hj,qam h3,qam h3c];rfl
  unfold zas;rw[pred_succ,ztD,cond_true,zbK h3,qaa,zeQ hf,qaa,zbV,hj,show ixZ (some j)=(j:Int)from rfl,zc2 (by simpa using hj2),qaa,zti (by simpa using hj2),qaa,zbK h3c,qaa,← qa0,qba,← e0,zbW (by omega),zdG (by omega) (by omega),em];exact ih
theorem zrH{f:Fc}(hf:FcOk f){us:List Nat}(hs:Sel f us){x:Int}:∀(m i:Nat) (l:List Nat),i+m=zad f.cs→l.length=zad (cof f us)→(∀ x∈l,x≤zf6)→
  ∃ z,zav f.T x (zjY f.cs (f.vs.map (stp us (cof f us))) i m) (iL l)=some (match ze8 true f us m i l with | some l'=>.go (iL l')| none=>.brk z)
 | 0,i,l,_,_,_=>⟨[],rfl⟩
 | m+1,i,l,h,hl,hb=>by
  have hi:i<zad f.cs:=by omega
  have hk:=zsV hf hs hi;have hkl:ix f us i<l.length:=by omega
  have g1:=zj3 hb (ix f us i);have g2:=Fc.zlK hf i;have e:=zmE (b:=true) g1 g2;rw[cond_true]at e;rw[zg1,zrq hf hs];have es:zbG ((l.getD (ix f us i) 0:Nat):Int) ((f.get i:Nat):Int)=some (((gop true (l.getD (ix f us i) 0) (f.get i):Nat):Int),decide (gop true (l.getD (ix f us i) 0) (f.get i)≤zf6)):=by
   unfold zbG;have hm:gop true (l.getD (ix f us i) 0) (f.get i)≤zf6:=Nat.max_le.2 ⟨g1,g2⟩;rw[decide_eq_true hm,e]
  have e1:∀ ys,zav f.T x (((i:Int),((ix f us i:Nat):Int),iL (dig f.cs i)):: ys) (iL l)=bif decide (gop true (l.getD (ix f us i) 0) (f.get i)≤zf6)then zav f.T x ys (iL (l.set (ix f us i) (gop true (l.getD (ix f us i) 0) (f.get i))))else some (.brk (iL (l.set (ix f us i) (gop true (l.getD (ix f us i) 0) (f.get i))))):=by
   intro ys;show(za4 (iL l) ((ix f us i:Nat):Int)).bind _=_;rw[zc2 hkl,qaa];simp only[];rw[show za4 f.T.factor.w (i:Int)=some ((f.get i:Nat):Int)from zoK hf hi,qaa,es,qaa];simp only[];rw[zti hkl,qaa]
  rw[e1];unfold ze8;cases hd:decide (gop true (l.getD (ix f us i) 0) (f.get i)≤zf6)with
  | false=>exact⟨_,rfl⟩
  | true=>
   rw[cond_true,cond_true];refine zrH hf hs m (i+1) _ (by omega) (by rw[qa5]; exact hl) fun x hx=>?_
   rcases qby hx with h1 | h1
   ·exact hb x h1
   rw[h1]; exact of_decide_eq_true hd
theorem zsK{f:Fc}(hf:FcOk f){us:List Nat}(hs:Sel f us):za1 f.T (iL us)=some (match gat true f us with | some l=>(⟨iL us,iL (cof f us),iL l⟩,0)| none=>(noF,6)):=by
 have hl:=zeF hf hs;have hD:=zdf hf hs;have hp:=hD.prod;have hpf:=hf.prod;have hfl:=hf.le;have hfl2:=hf.len;have hcl:(cof f us).length=us.length:=by simp[cof]
 unfold za1;have h1:=zrC hf hs (us.length+2) 0 1 (qaO _) (by omega) (by rw[qaE]; omega) (qah _);rw[qbE,qaT,qci,zeb,qaE,qbD]at h1;rw[zaG,zdj (by omega),qaa,zbq,show zay (iL us) f.T (us.length+2) 1 0 (List.replicate us.length 0)=_ from h1,qaa];simp only[];rw[zdj (by omega),qaa,show f.T.factor.vars=iL f.vs from rfl,zaG,zdj (by omega),qaa,zdG (by omega) (by omega),show(((us.length:Int) - 1) - 0+2).toNat=us.length+1 by omega];have h2:=zrw hf hs us.length (us.length+1) (qah _) (by omega);rw[qaF,qbh (by omega),zqa,zeb,show zad ([]:List Nat)=1 from rfl]at h2;rw[show zas (iL us) f.T (iL (cof f us)) (us.length+1) 1 ((us.length:Int) - 1) (List.replicate f.vs.length 0)=_ from h2,qaa,zhI,qaa];simp only[];rw[show f.T.factor.cards=iL f.cs from rfl,zpy hf.card hf.le hf.prod (by rw[qbf,hf.len]) (fun s hs2=>by obtain⟨v,_,rfl⟩:=qaW.1 hs2; exact zru hf hs v),qaa];obtain⟨z,h3⟩:=zrH hf hs (x:=((zad (cof f us):Nat):Int)) (zad f.cs) 0 (List.replicate (zad (cof f us)) 0) (by omega) (by simp) zgJ;rw[← zeb,h3,qaa];unfold gat;cases ze8 true f us (zad f.cs) 0 (List.replicate (zad (cof f us)) 0)<;> rfl
def rest(f:Fc)(v:Nat):List Nat:=f.vs.filter fun u=>!(u == v)
theorem zfz{f:Fc}(hf:FcOk f)(v:Nat):Sel f (rest f v):=⟨List.Pairwise.filter _ hf.inc,fun u hu=>(List.mem_filter.1 hu).1⟩
theorem zl9{v:Nat}:∀ {vs:List Nat},v ∉ vs→vs.filter (fun u=>!(u == v))=vs:=fun {vs} h=>List.filter_eq_self.2 fun u hu=>by
 rw[show(u == v)=false from beq_false_of_ne (fun e=>h (e ▸ hu))]; rfl
theorem zl2:∀ {vs:List Nat} {v k:Nat},vs.Nodup→pos vs v=some k→vs.take k ++ vs.drop (k+1)=vs.filter fun u=>!(u == v)
 | [],_,_,_,h=>by cases h
 | u :: us,v,k,hn,h=>by
  obtain⟨h1,h2⟩:=qbs.1 hn;rw[show pos (u :: us) v=bif u == v then some 0 else(pos us v).map (· + 1)from rfl]at h;cases hb:(u == v)with
  | true=>
   rw[hb,cond_true]at h;cases h;have:u=v:=by simpa using hb
   subst this;rw[qbS (by simp),zl9 h1];rfl
  | false=>
   rw[hb,cond_false]at h;cases hp:pos us v with
   | none=>rw[hp]at h; cases h
   | some j=>
    rw[hp]at h;cases h;rw[qbT (by rw[hb]; rfl),← zl2 h2 hp];rfl
theorem zvl{xs:List Nat}{k:Nat}(h:k<xs.length)(hl:xs.length<1000):zol (iL xs) (k:Int) (w64 ((k:Int)+1))=some (iL (xs.take k ++ xs.drop (k+1))):=by
 rw[zaF (by omega)];unfold zol;rw[if_pos ⟨⟨by omega,by omega,by rw[zaG]; omega⟩,by rw[zaG]; omega⟩,qaC,qaC];simp[iL]
def zsH(o:Option (List Nat))(f:Fc)(us:List Nat):S_api_Factor×Int:=match o with
 | some l=>(⟨iL us,iL (cof f us),iL l⟩,0)
 | none=>(noF,6)
theorem zhu{f:Fc}(hf:FcOk f){v k:Nat}(hp:pos f.vs v=some k):zc6 8 (iL f.vs)=some (iL f.vs)∧zol (iL f.vs) (k:Int) (w64 ((k:Int)+1))=some (iL (rest f v)):=by
 have h1:=hf.le;have h2:=hf.len;obtain⟨hk,_⟩:=zeP hp;refine⟨zjE (by rw[zaG]; omega),?_⟩;rw[zvl hk (by omega),zl2 (zce hf.inc) hp];rfl
theorem zsc{f:Fc}(hf:FcOk f){v k:Nat}(hp:pos f.vs v=some k):zaQ f.D (v:Int)=some (zsH (gat false f (rest f v)) f (rest f v)):=by
 obtain⟨h1,h2⟩:=zhu hf hp;unfold zaQ zbt;rw[zfU hf,qaa];simp only[];rw[show((0:Int)== 0)=true from rfl,cond_true,zeQ hf,qaa,zbV,hp,show ixZ (some k)=(k:Int)from rfl,show decide ((k:Int)<0)=false from decide_eq_false (by omega),cond_false,show f.T.factor.vars=iL f.vs from rfl,h1,qaa,h2,qaa,zq5 hf (zfz hf v),qaa];cases gat false f (rest f v)<;> rfl
theorem zsN{f:Fc}(hf:FcOk f){v k:Nat}(hp:pos f.vs v=some k):zaV f.D (v:Int)=some (zsH (gat true f (rest f v)) f (rest f v)):=by
 obtain⟨h1,h2⟩:=zhu hf hp;unfold zaV zbr;rw[zfU hf,qaa];simp only[];rw[show((0:Int)== 0)=true from rfl,cond_true,zeQ hf,qaa,zbV,hp,show ixZ (some k)=(k:Int)from rfl,show decide ((k:Int)<0)=false from decide_eq_false (by omega),cond_false,show f.T.factor.vars=iL f.vs from rfl,h1,qaa,h2,qaa,zsK hf (zfz hf v),qaa];cases gat true f (rest f v)<;> rfl
theorem zt7{f:Fc}(hf:FcOk f){v:Int}(hp:zgf (iL f.vs) v=none):zaQ f.D v=some (noF,4):=by
 unfold zaQ zbt;rw[zfU hf,qaa];simp only[];rw[show((0:Int)== 0)=true from rfl,cond_true,zeQ hf,qaa,hp];rfl
theorem zt2{f:Fc}(hf:FcOk f){v:Int}(hp:zgf (iL f.vs) v=none):zaV f.D v=some (noF,4):=by
 unfold zaV zbr;rw[zfU hf,qaa];simp only[];rw[show((0:Int)== 0)=true from rfl,cond_true,zeQ hf,qaa,hp];rfl
theorem zr2{x:S_api_Factor}(h:zmO x=false)(v:Int):zaQ x v=some (noF,30):=by
 unfold zaQ zbt;rw[zmK h,qaa];rfl
theorem ztb{x:S_api_Factor}(h:zmO x=false)(v:Int):zaV x v=some (noF,30):=by
 unfold zaV zbr;rw[zmK h,qaa];rfl
theorem zjl{f:Fc}(hf:FcOk f)(v:Nat):∀(n i:Nat) (acc:List Nat),i≤f.vs.length→acc.length≤i→f.vs.length - i<n →
  zbQ f.D (v:Int) n (i:Int) (iL acc)=some (iL (acc ++ (f.vs.drop i).filter fun u=>!(u == v)))
 | 0,_,_,_,_,h=>absurd h (qaw _)
 | n+1,i,acc,hi,ha,hn=>by
  have h1:=hf.le;have h2:=hf.len;unfold zbQ;rw[show f.D.vars=iL f.vs from rfl,zaG];rcases qaQ i f.vs.length with h | h
  ·rw[zjm h,cond_true,zbK h,qaa,zhB,qam h];cases hb:(f.vs[i]== v)with
   | true=>
    rw[cond_true,qaa,zaF (by omega),zjl hf v n (i+1) _ h (by omega) (by omega),qbS (by rw[hb]; decide)]
   | false=>
    rw[cond_false,zlJ (by omega),qaa,qaa,zaF (by omega),zjl hf v n (i+1) _ h (by simp; omega) (by omega),qbT (by rw[hb]; rfl),qaM,qaD]
  obtain rfl:i=f.vs.length:=by omega
  rw[zjv,cond_false];simp
theorem zjM{f:Fc}(hf:FcOk f)(v:Nat):zcf f.D (v:Int)=some (iL (rest f v)):=by
 unfold zcf;have h:=zjl hf v (f.vs.length+2) 0 [] (qaO _) (qah _) (by omega);rw[show f.D.vars=iL f.vs from rfl,zaG,zbq,show zbQ f.D (v:Int) (f.vs.length+2) 0 []=_ from h];rfl
def ztM(o:Option (List Nat))(f:Fc)(us:List Nat):S_api_Factor×Bool:=match o with
 | some l=>(⟨iL us,iL (cof f us),iL l⟩,true)
 | none=>(noF,false)
theorem zpx{f:Fc}(hf:FcOk f)(v:Nat):zdv f.D (v:Int)=some (ztM (gat false f (rest f v)) f (rest f v)):=by
 unfold zdv;rw[zjM hf,qaa,zrs hf (zfz hf v),qaa];cases gat false f (rest f v)<;> rfl
theorem zoU{f:Fc}(hf:FcOk f)(v:Nat):zdz f.D (v:Int)=some (ztM (gat true f (rest f v)) f (rest f v)).1:=by
 unfold zdz;rw[zjM hf,qaa,zrs hf (zfz hf v),qaa];cases gat true f (rest f v)<;> rfl
theorem zkC{f:Fc}(hf:FcOk f){us:List Nat}:∀ {m i:Nat} {l:List Nat},(∀ x∈l,x≤zf6)→∃ l',ze8 true f us m i l=some l'
 | 0,_,l,_=>⟨l,rfl⟩
 | m+1,i,l,hl=>by
  have h:gop true (l.getD (ix f us i) 0) (f.get i)≤zf6:=Nat.max_le.2 ⟨zj3 hl _,Fc.zlK hf i⟩;unfold ze8;rw[decide_eq_true h,cond_true];refine zkC hf fun x hx=>?_
  rcases qby hx with h1 | h1
  ·exact hl x h1
  rw[h1]; exact h
theorem zsT{f:Fc}(hf:FcOk f)(us:List Nat):∃ l,gat true f us=some l:=zkC hf zgJ
def gF(f:Fc)(us l:List Nat):Fc:=⟨us,cof f us,l⟩
theorem zsM{f:Fc}(hf:FcOk f){us l:List Nat}(hs:Sel f us){b:Bool}(h:gat b f us=some l):FcOk (gF f us l):=by
 have hD:=zdf hf hs;exact⟨hD.len,hD.le,hD.card,hD.prod,(zk5 h).trans (by simp[gF]),hs.inc,fun v hv=>hf.var v (hs.mem v hv),zm2 zgJ h⟩
theorem zsx{f:Fc}(hf:FcOk f){us:List Nat}(hs:Sel f us)(b:Bool):SzOk (zsH (gat b f us) f us).1:=by
 cases h:gat b f us with
 | none=>exact ziM
 | some l=>exact(zsM hf hs h).sz
def zhj:List Nat→Nat→Nat→Nat→Nat
 | [],_,_,i=>i
 | _ :: cs,0,p,i=>p * zad cs+i
 | _ :: cs,k+1,p,i=>(i / zad (cs.eraseIdx k))* zad cs+zhj cs k p (i % zad (cs.eraseIdx k))
theorem zeo{cs:List Nat}(h:∀ c∈cs,1≤c∧c≤8)(k:Nat):∀ c∈cs.eraseIdx k,1≤c∧c≤8:=fun c hc=>h c (List.mem_of_mem_eraseIdx hc)
theorem zh7:∀ {cs:List Nat} {k p i:Nat},(∀ c∈cs,1≤c∧c≤8)→(hk:k<cs.length)→p<cs[k]→i<zad (cs.eraseIdx k)→zhj cs k p i<zad cs
 | [],k,_,_,_,hk,_,_=>by simp at hk
 | c :: cs,0,p,i,_,_,hp,hi=>by
  have h1:(p+1)* zad cs≤c * zad cs:=qap _ hp;have h2:i<zad cs:=hi;show p * zad cs+i<c * zad cs;rw[qaL]at h1;omega
 | c :: cs,k+1,p,i,hc,hk,hp,hi=>by
  have hc2:=fun d hd=>hc d (qal c hd)
  have hi2:i<c * zad (cs.eraseIdx k):=hi;have hq:0<zad (cs.eraseIdx k):=zbs (zeo hc2 k);have h1:=zh7 hc2 (by simpa using hk) hp (qbv i hq);have h2:i / zad (cs.eraseIdx k)<c:=qb3 (by rwa [qba]);have h3:(i / zad (cs.eraseIdx k)+1)* zad cs≤c * zad cs:=qap _ h2;show i / zad (cs.eraseIdx k)* zad cs+zhj cs k p (i % zad (cs.eraseIdx k))<c * zad cs;rw[qaL]at h3;omega
theorem zlj:∀ {cs:List Nat} {k p i j:Nat},(∀ c∈cs,1≤c∧c≤8)→(hk:k<cs.length)→p<cs[k]→i<j→zhj cs k p i<zhj cs k p j
 | [],k,_,_,_,_,hk,_,_=>by simp at hk
 | c :: cs,0,p,i,j,_,_,_,h=>by
  show p * zad cs+i<p * zad cs+j;omega
 | c :: cs,k+1,p,i,j,hc,hk,hp,h=>by
  have hc2:=fun d hd=>hc d (qal c hd)
  have hq:0<zad (cs.eraseIdx k):=zbs (zeo hc2 k);have h1:=zh7 hc2 (by simpa using hk) hp (qbv i hq);show i / zad (cs.eraseIdx k)* zad cs+zhj cs k p (i % zad (cs.eraseIdx k))<j / zad (cs.eraseIdx k)* zad cs+zhj cs k p (j % zad (cs.eraseIdx k));rcases qaQ (i / zad (cs.eraseIdx k)) (j / zad (cs.eraseIdx k))with h2 | h2
  ·have h3:(i / zad (cs.eraseIdx k)+1)* zad cs≤(j / zad (cs.eraseIdx k))* zad cs:=qap _ h2;rw[qaL]at h3;omega
  have h3:i / zad (cs.eraseIdx k)=j / zad (cs.eraseIdx k):=Nat.le_antisymm (Nat.div_le_div_right (Nat.le_of_lt h)) h2;have h4:=qbH i (zad (cs.eraseIdx k));have h5:=qbH j (zad (cs.eraseIdx k));rw[h3]at h4 ⊢;have:=zlj (k:=k) (p:=p) hc2 (by simpa using hk) hp (show i % zad (cs.eraseIdx k)<j % zad (cs.eraseIdx k) by omega);omega
theorem dm1{a b P:Nat}(h:b<P):(a * P+b) / P=a:=by
 rw[Nat.add_comm,Nat.add_mul_div_right _ _ (by omega),Nat.div_eq_of_lt h,qaU]
theorem dm2{a b P:Nat}(h:b<P):(a * P+b) % P=b:=by
 rw[Nat.add_comm,Nat.add_mul_mod_self_right,qbo h]
theorem znq:∀ {cs:List Nat} {k p i:Nat},(∀ c∈cs,1≤c∧c≤8)→(hk:k<cs.length)→p<cs[k]→i<zad (cs.eraseIdx k)→(dig cs (zhj cs k p i)).getD k 0=p∧(dig cs (zhj cs k p i)).eraseIdx k=dig (cs.eraseIdx k) i
 | [],k,_,_,_,hk,_,_=>by simp at hk
 | c :: cs,0,p,i,_,_,hp,hi=>by
  have hi2:i<zad cs:=hi;rw[show dig (c :: cs) (zhj (c :: cs) 0 p i)=(p * zad cs+i) / zad cs :: dig cs ((p * zad cs+i) % zad cs)from rfl,dm1 hi2,dm2 hi2];exact⟨rfl,rfl⟩
 | c :: cs,k+1,p,i,hc,hk,hp,hi=>by
  have hc2:=fun d hd=>hc d (qal c hd)
  have hq:0<zad (cs.eraseIdx k):=zbs (zeo hc2 k);have h1:=zh7 hc2 (by simpa using hk) hp (qbv i hq);obtain⟨h2,h3⟩:=znq hc2 (by simpa using hk) hp (qbv i hq);rw[show dig (c :: cs) (zhj (c :: cs) (k+1) p i)=(i / zad (cs.eraseIdx k)* zad cs+zhj cs k p (i % zad (cs.eraseIdx k))) / zad cs :: dig cs ((i / zad (cs.eraseIdx k)* zad cs+zhj cs k p (i % zad (cs.eraseIdx k))) % zad cs)from rfl,dm1 h1,dm2 h1];refine⟨by rw[List.getD_cons_succ]; exact h2,?_⟩;rw[qca,h3];rfl
theorem zmN:∀ {cs:List Nat} {k p j:Nat},(∀ c∈cs,1≤c∧c≤8)→(hk:k<cs.length)→j<zad cs→(dig cs j).getD k 0=p→∃ i,i<zad (cs.eraseIdx k)∧zhj cs k p i=j
 | [],k,_,_,_,hk,_,_=>by simp at hk
 | c :: cs,0,p,j,hc,_,hj,hd=>by
  have hp:0<zad cs:=zbs fun d hd=>hc d (qal c hd)
  have e:j / zad cs=p:=hd;refine⟨j % zad cs,qbv _ hp,?_⟩;show p * zad cs+j % zad cs=j;rw[← e,qba,qbH]
 | c :: cs,k+1,p,j,hc,hk,hj,hd=>by
  have hc2:=fun d hd=>hc d (qal c hd)
  have hp:0<zad cs:=zbs hc2;have hj2:j<c * zad cs:=hj;have e:(dig cs (j % zad cs)).getD k 0=p:=by rw[← hd]; rfl
  obtain⟨i,h1,h2⟩:=zmN hc2 (by simpa using hk) (qbv _ hp) e;have ha:j / zad cs<c:=qb3 (by rwa [qba]);refine⟨j / zad cs * zad (cs.eraseIdx k)+i,?_,?_⟩
  ·show _<c * zad (cs.eraseIdx k);have h3:(j / zad cs+1)* zad (cs.eraseIdx k)≤c * zad (cs.eraseIdx k):=qap _ ha;rw[qaL]at h3;omega
  show(j / zad cs * zad (cs.eraseIdx k)+i) / zad (cs.eraseIdx k)* zad cs+zhj cs k p ((j / zad cs * zad (cs.eraseIdx k)+i) % zad (cs.eraseIdx k))=j;rw[dm1 h1,dm2 h1,h2,qba,qbH]
theorem znA:∀ {cs:List Nat} {k p i:Nat},(∀ c∈cs,1≤c∧c≤8)→(hk:k<cs.length)→i<zad (cs.eraseIdx k)→dot (dig (cs.eraseIdx k) i) ((zaS cs).eraseIdx k)+p * (zaS cs).getD k 0=zhj cs k p i
 | [],k,_,_,_,hk,_=>by simp at hk
 | c :: cs,0,p,i,hc,_,hi=>by
  have h:dot (dig cs i) (zaS cs)=i:=zoM (fun d hd=>hc d (qal c hd)) hi;show dot (dig cs i) (zaS cs)+p * zad cs=p * zad cs+i;omega
 | c :: cs,k+1,p,i,hc,hk,hi=>by
  have hc2:=fun d hd=>hc d (qal c hd)
  have hq:0<zad (cs.eraseIdx k):=zbs (zeo hc2 k);have ih:=znA (p:=p) hc2 (show k<cs.length by simpa using hk) (qbv i hq);rw[qca,show zaS (c :: cs)=zad cs :: zaS cs from rfl,qca,List.getD_cons_succ];show i / zad (cs.eraseIdx k)* zad cs+dot (dig (cs.eraseIdx k) (i % zad (cs.eraseIdx k))) ((zaS cs).eraseIdx k)+p * (zaS cs).getD k 0=i / zad (cs.eraseIdx k)* zad cs+zhj cs k p (i % zad (cs.eraseIdx k));omega
theorem zrg{cs:List Nat}{k p:Nat}(hc:∀ c∈cs,1≤c∧c≤8)(hk:k<cs.length)(hp:p<cs[k]):(List.range' 0 (zad cs)).filter (fun j=>(dig cs j).getD k 0 == p)=(List.range' 0 (zad (cs.eraseIdx k))).map (zhj cs k p):=by
 refine zqm (List.Pairwise.filter _ List.pairwise_lt_range') (List.pairwise_map.2 (List.Pairwise.imp (fun h=>zlj hc hk hp h) List.pairwise_lt_range')) fun x=>?_
 simp only[List.mem_filter,List.mem_range'_1,qaW,beq_iff_eq];constructor
 ·rintro⟨⟨_,h1⟩,h2⟩;obtain⟨i,h3,h4⟩:=zmN hc hk (by omega) h2;exact⟨i,⟨qaO _,by omega⟩,h4⟩
 rintro⟨i,⟨_,h1⟩,rfl⟩;refine⟨⟨qaO _,?_⟩,?_⟩
 ·have:=zh7 hc hk hp (show i<zad (cs.eraseIdx k) by omega); omega
 exact(znq hc hk hp (by omega)).1
theorem zse{us cs:List Nat}(hn:us.Nodup)(hl:us.length=cs.length):us.map (stp us cs)=zaS cs:=by
 refine List.ext_getElem (by rw[qbf,zfF,hl]) fun i h1 h2=>?_
 have hi:i<us.length:=by simpa using h1
 have hp:∀ {xs:List Nat} {i:Nat} (hn:xs.Nodup) (h:i<xs.length),pos xs xs[i]=some i:=by
  intro xs;induction xs with
  | nil=>intro i _ h; simp at h
  | cons x xs ih=>
   intro i hn h;obtain⟨h1,h2⟩:=qbs.1 hn;cases i with
   | zero=>rw[show(x :: xs)[0]=x from rfl,show pos (x :: xs) x=bif x == x then some 0 else(pos xs x).map (· + 1)from rfl,beq_self_eq_true,cond_true]
   | succ i=>
    have hi:i<xs.length:=by simpa using h
    rw[show(x :: xs)[i+1]=xs[i]from rfl,show pos (x :: xs) xs[i]=bif x == xs[i]then some 0 else(pos xs xs[i]).map (· + 1)from rfl,show(x == xs[i])=false from beq_false_of_ne (fun e=>h1 (e ▸ qa4 hi)),cond_false,ih h2 hi];rfl
 rw[List.getElem_map,zjq hl,hp hn hi];simp only;rw[qaY,qaf h2];rfl
theorem erase_eq{α:Type}(xs:List α)(k:Nat):xs.take k ++ xs.drop (k+1)=xs.eraseIdx k:=(List.eraseIdx_eq_take_drop_succ xs k).symm
theorem zlv{α β:Type}(g:α→β)(xs:List α)(k:Nat):(xs.eraseIdx k).map g=(xs.map g).eraseIdx k:=by
 rw[← erase_eq,← erase_eq,List.map_append,List.map_take,List.map_drop]
theorem zo1{f:Fc}(hf:FcOk f){v k:Nat}(hp:pos f.vs v=some k):rest f v=f.vs.eraseIdx k:=by
 rw[← erase_eq,zl2 (zce hf.inc) hp]; rfl
theorem zq9{f:Fc}(hf:FcOk f){v k:Nat}(hp:pos f.vs v=some k):cof f (rest f v)=f.cs.eraseIdx k:=by
 unfold cof;rw[zo1 hf hp,zlv,zrQ (zce hf.inc) hf.len]
theorem ziH:∀ {cs:List Nat} {k:Nat} (h:k<cs.length),zad cs=cs[k] * zad (cs.eraseIdx k)
 | [],_,h=>by simp at h
 | c :: cs,0,_=>rfl
 | c :: cs,k+1,h=>by
  have hk:k<cs.length:=by simpa using h
  have ih:=ziH hk;show c * zad cs=cs[k] * (c * zad (cs.eraseIdx k));rw[ih,Nat.mul_left_comm]
def fixF(f:Fc)(v k p:Nat):Fc:=⟨rest f v,f.cs.eraseIdx k,(List.range' 0 (zad (f.cs.eraseIdx k))).map fun j=>f.get (zhj f.cs k p j)⟩
theorem zrp{f:Fc}(hf:FcOk f){k p:Nat}{q:Int}(hk:k<f.cs.length)(hp:p<f.cs[k]):∀(m i:Nat) (ys:List Nat),i+m=zad (f.cs.eraseIdx k)→ys.length=i →
  zbX (f.T,0) (k:Int) (p:Int) q (zjY (f.cs.eraseIdx k) ((zaS f.cs).eraseIdx k) i m) (iL (ys ++ List.replicate m 0))=some (iL (ys ++ (List.range' i m).map fun j=>f.get (zhj f.cs k p j)))
 | 0,i,ys,_,_=>by simp[zjY,zbX]
 | m+1,i,ys,h,hy=>by
  have hi:i<zad (f.cs.eraseIdx k):=by omega
  have hpf:=hf.prod;have h1:=zh7 hf.card hk hp hi;have h2:=znA (p:=p) hf.card hk hi;have hks:k<(zaS f.cs).length:=by rw[zfF]; exact hk
  rw[zg1];show(za4 (iL (zaS f.cs)) (k:Int)).bind _=_;rw[zc2 hks,qaa];simp only[];rw[← qa0,zbW (by omega),← Int.natCast_add,h2,zbW (by omega),show za4 (f.T,(0:Int)).1.factor.w ((zhj f.cs k p i:Nat):Int)=some ((f.get (zhj f.cs k p i):Nat):Int)from zoK hf h1,qaa];rw[qaX,zcy hy,qaa,zdJ hy,qaa,show ys ++ f.get (zhj f.cs k p i):: List.replicate m 0=(ys ++ [f.get (zhj f.cs k p i)])++ List.replicate m 0 by simp,zrp hf hk hp m (i+1) _ (by omega) (by simp[hy]),qbU,qax,qaM,qaD]
theorem zuM{f:Fc}(hf:FcOk f){v k p:Nat}(hv:pos f.vs v=some k)(hk:k<f.cs.length)(hp:p<f.cs[k]):za3 f.D (v:Int) (p:Int)=some ((fixF f v k p).D,0):=by
 have hl:=hf.le;have hpf:=hf.prod;have hck:=hf.card f.cs[k] (qa4 hk);have e0:=ziH hk;have hE:zad (f.cs.eraseIdx k)≤zad f.cs:=by rw[e0]; exact qcb _ (by omega)
 obtain⟨h1,h2⟩:=zhu hf hv;have hn:=zce hf.inc;have hrl:(rest f v).length≤100:=by
  have:=(List.length_filter_le (fun u=>!(u == v)) f.vs); have:=hf.len; unfold rest; omega
 have hel:(f.cs.eraseIdx k).length≤12:=qau (List.eraseIdx_sublist _ _).length_le hl;unfold za3;rw[zfU hf,qaa];simp only[]
 rw[show((0:Int)== 0)=true from rfl,cond_true,zeQ hf,qaa,zbV,hv,show ixZ (some k)=(k:Int)from rfl,show decide ((k:Int)<0)=false from decide_eq_false (by omega),cond_false,show decide ((p:Int)<0)=false from decide_eq_false (by omega),cond_false,show f.T.factor.cards=iL f.cs from rfl,zbK hk,qaa,show decide (((f.cs[k]:Nat):Int)≤(p:Int))=false from decide_eq_false (by omega),qaa,cond_false,show f.T.factor.vars=iL f.vs from rfl,h1,qaa,h2,qaa,zjE (by rw[zaG]; omega),qaa,zvl hk (by omega),erase_eq,qaa,qaa,show f.T.factor.w=iL f.ws from rfl,zaG,hf.size,zuh (by omega) (by show _≤4611686018427387903; omega),qaa,
  show zad f.cs / f.cs[k]=zad (f.cs.eraseIdx k) by rw[e0,Nat.mul_div_cancel_left _ (by omega)],zdj (by omega),qaa,zsS hf hrl,qaa,zhI,qaa]
 simp only[];have es:(rest f v).map (stp f.vs f.cs)=(zaS f.cs).eraseIdx k:=by rw[zo1 hf hv,zlv,zse hn hf.len]
 rw[es,zpy (zeo hf.card k) hel (by omega) (by rw[List.length_eraseIdx,List.length_eraseIdx,zfF]) (fun s hs=>zjL (fun c hc=>(hf.card c hc).1) hf.prod s (List.mem_of_mem_eraseIdx hs)),qaa];have e2:=zrp hf (q:=((zad (f.cs.eraseIdx k):Nat):Int)) hk hp (zad (f.cs.eraseIdx k)) 0 [] (by omega) rfl;rw[qaT]at e2;rw[← zeb,e2,qaa];rfl
theorem zsq{x:S_api_Factor}(h:zmO x=false)(v p:Int):za3 x v p=some (noF,30):=by
 unfold za3;rw[zmK h,qaa];rfl
theorem ztt{f:Fc}(hf:FcOk f){v:Int}(hp:zgf (iL f.vs) v=none)(p:Int):za3 f.D v p=some (noF,4):=by
 unfold za3;rw[zfU hf,qaa];simp only[];rw[show((0:Int)== 0)=true from rfl,cond_true,zeQ hf,qaa,hp];rfl
theorem zoG{f:Fc}(hf:FcOk f){v k:Nat}(hv:pos f.vs v=some k)(hk:k<f.cs.length){p:Int}(hp:p<0∨((f.cs[k]:Nat):Int)≤p):za3 f.D (v:Int) p=some (noF,2):=by
 unfold za3;rw[zfU hf,qaa];simp only[];rw[show((0:Int)== 0)=true from rfl,cond_true,zeQ hf,qaa,zbV,hv,show ixZ (some k)=(k:Int)from rfl,show decide ((k:Int)<0)=false from decide_eq_false (by omega),cond_false,show f.T.factor.cards=iL f.cs from rfl,zbK hk,qaa];by_cases h:p<0
 ·rw[decide_eq_true h]; rfl
 rw[decide_eq_false h,cond_false,decide_eq_true (hp.resolve_left h)]; rfl
theorem zmx{f:Fc}(hf:FcOk f){k:Nat}:∀(n i:Nat) (acc:List Nat),i≤f.cs.length→acc.length≤i→f.cs.length - i<n →
  zdn f.D (k:Int) n (i:Int) (iL acc)=some (iL (acc ++ bif decide (i≤k)then(f.cs.drop i).take (k - i)++ f.cs.drop (k+1)else f.cs.drop i))
 | 0,_,_,_,_,h=>absurd h (qaw _)
 | n+1,i,acc,hi,ha,hn=>by
  have h1:=hf.le;unfold zdn;rw[show f.D.cards=iL f.cs from rfl,zaG];rcases qaQ i f.cs.length with h | h
  ·rw[zjm h,cond_true,zhB];by_cases hb:i=k
   ·subst hb;rw[beq_self_eq_true,cond_true,qaa,zaF (by omega),zmx hf n (i+1) _ h (by omega) (by omega),decide_eq_false (by omega),cond_false,decide_eq_true (qah i),cond_true,Nat.sub_self,qbE,qaT]
   rw[beq_false_of_ne hb,cond_false,zbK h,qaa,zlJ (by omega),qaa,qaa,zaF (by omega),zmx hf n (i+1) _ h (by simp; omega) (by omega)];by_cases hk:i≤k
   ·rw[decide_eq_true (show i+1≤k by omega),decide_eq_true hk,cond_true,cond_true,qam h,show k - i=(k - (i+1))+1 by omega,qbw,qaM,qaD,qbe]
   rw[decide_eq_false (show ¬ i+1≤k by omega),decide_eq_false hk,cond_false,cond_false,qam h,qaM,qaD]
  obtain rfl:i=f.cs.length:=by omega
  rw[zjv,cond_false,qaF,List.take_nil];by_cases hk:f.cs.length≤k
  ·rw[decide_eq_true hk,cond_true,qbh (by omega)]; simp
  rw[decide_eq_false hk,cond_false]; simp
theorem zl6{f:Fc}(hf:FcOk f){k p:Nat}(hk:k<f.cs.length):∀(m i n:Nat) (ys:List Nat),i+m=zad f.cs→ys.length≤i→m<n →
  zcR (zrW f.cs) (k:Int) (p:Int) f.D n (i:Int) (iL ys)=some (iL (ys ++ ((List.range' i m).filter fun j=>(dig f.cs j).getD k 0 == p).map f.get))
 | _,_,0,_,_,_,h=>absurd h (qaw _)
 | 0,i,n+1,ys,h,_,_=>by
  unfold zcR;obtain rfl:i=zad f.cs:=by omega
  rw[zj1,zjv,cond_false];simp
 | m+1,i,n+1,ys,h,hy,hn=>by
  have hi:i<zad f.cs:=by omega
  have hp:=hf.prod;unfold zcR;rw[zj1,zjm hi,cond_true,zrj hi,qaa,zc2 (by rw[zhs]; exact hk),qaa,zhB,qbU];cases hb:((dig f.cs i).getD k 0 == p)with
  | true=>
   rw[cond_true,zoK hf hi,qaa,zlJ (by omega),qaa,qaa,zaF (by omega),zl6 hf hk m (i+1) n _ (by omega) (by simp; omega) (by omega),qbT (p:=fun j=>(dig f.cs j).getD k 0 == p) hb,qax,qaM,qaD]
  | false=>
   rw[cond_false,qaa,zaF (by omega),zl6 hf hk m (i+1) n _ (by omega) (by omega) (by omega),qbS (p:=fun j=>(dig f.cs j).getD k 0 == p) (by rw[hb]; decide)]
theorem zus{f:Fc}(hf:FcOk f){v k p:Nat}(hv:pos f.vs v=some k)(hk:k<f.cs.length)(hp:p<f.cs[k]):zfu 5000 f.D (v:Int) (p:Int)=some (fixF f v k p).D:=by
 have hl:=hf.le;have hpf:=hf.prod;unfold zfu;rw[zjM hf,qaa,znf hf,qaa,zbV,hv,show ixZ (some k)=(k:Int)from rfl];have e1:=zmx hf (k:=k) (f.cs.length+2) 0 [] (qaO _) (qah _) (by omega);rw[show f.D.cards=iL f.cs from rfl,zaG,zbq,show zdn f.D (k:Int) (f.cs.length+2) 0 []=_ from e1,qaa,zu1 hf.card hf.le hf.prod,qaa,zj1,zbq];have e2:=zl6 hf (p:=p) hk (zad f.cs) 0 (zad f.cs+2) [] (by omega) (qah _) (by omega);rw[show zcR (zrW f.cs) (k:Int) (p:Int) f.D (zad f.cs+2) 0 []=_ from e2,qaa,zrg hf.card hk hp,List.map_map];rw[decide_eq_true (qaO k),cond_true,qaE,qci,qaT,erase_eq,qaT];rfl
theorem zsm{f:Fc}(hf:FcOk f){v k:Nat}(hv:pos f.vs v=some k)(hk:k<f.cs.length)(p:Nat):FcOk (fixF f v k p):=by
 have hs:=zfz hf v;have hD:=zdf hf hs;rw[zq9 hf hv]at hD;refine⟨hD.len,hD.le,hD.card,hD.prod,by simp[fixF],hs.inc,fun u hu=>hf.var u (hs.mem u hu),fun w hw=>?_⟩;obtain⟨j,_,rfl⟩:=qaW.1 hw;exact Fc.zlK hf _
theorem zos{f:Fc}(hf:FcOk f){us:List Nat}(hs:Sel f us):∃ c,zgM (ztM (gat false f us) f us).2=some c∧zbe (zsH (gat false f us) f us).1 (zsH (gat false f us) f us).2 (ztM (gat false f us) f us).1 c=some true:=by
 have hz:=zsx hf hs false;cases h:gat false f us with
 | none=>exact⟨6,rfl,zfj ziM rfl rfl⟩
 | some l=>exact⟨0,rfl,zfj (zsM hf hs h).sz rfl rfl⟩
theorem zq0{f:Fc}(hf:FcOk f){us:List Nat}(hs:Sel f us):zbe (zsH (gat true f us) f us).1 (zsH (gat true f us) f us).2 (ztM (gat true f us) f us).1 0=some true:=by
 obtain⟨l,h⟩:=zsT hf us;rw[h];exact zfj (zsM hf hs h).sz rfl rfl
theorem zqT{xs:List Nat}{v:Int}{k:Nat}(h:zgf (iL xs) v=some k):∃ u:Nat,v=(u:Int)∧pos xs u=some k:=by
 rcases Int.lt_or_le v 0 with h1 | h1
 ·rw[znw xs h1]at h; cases h
 obtain⟨u,rfl⟩:∃ u:Nat,v=(u:Int):=⟨v.toNat,by omega⟩;exact⟨u,rfl,by rw[← zbV]; exact h⟩
section
variable {p1 p2 p4:Int} {x9:S_api_Factor}
theorem zjA(n i:Nat)(hi:i<3):zaA 5000 p1 p2 p4 x9 (n+1) (i:Int)=zaA 5000 p1 p2 p4 x9 n ((i+1:Nat):Int):=by
 conv=>lhs; unfold zaA
 obtain⟨x,hx⟩:∃ x,za4 [(A2_Inti64.mk p1 p2),(A2_Inti64.mk (w64 (p4.tmod 5)) p2),(A2_Inti64.mk (w64 (p4.tmod 5)) (w64 ((IntKind.u8.wrap (p4.tdiv 5)).tmod 3)))] (i:Int)=some x:=⟨_,zbo (by simpa using hi)⟩;rw[show decide ((i:Int)<3)=true from decide_eq_true (by omega),cond_true,hx,qaa,zaF (by omega)];obtain⟨v,p⟩:=x;simp only[];have e30:((30:Int)== 0)=false:=rfl;have e40:((4:Int)== 0)=false:=rfl;have e00:((0:Int)== 0)=true:=rfl;rcases ztx x9 with ha | ⟨f,hf,rfl⟩
 ·have t:=zfj (x:=noF) (y:=noF) ziM (c:=30) (d:=30) rfl rfl;simp only[zhv,ha,zr2 ha,ztb ha,zsq ha,qaa,cond_true,cond_false,e30,t,qaS]
 have hfb:=zpg hf;cases hp:zgf (iL f.vs) v with
 | none=>
  have t:=zfj (x:=noF) (y:=noF) ziM (c:=4) (d:=4) rfl rfl;have hpl:zbw f.D v=some (-1):=by rw[znf hf,hp]; rfl
  have en:decide ((-1:Int)<0)=true:=rfl;simp only[zhv,hfb,zt7 hf hp,zt2 hf hp,ztt hf hp,hpl,en,qaa,cond_true,cond_false,e40,t,qaS]
 | some k=>
  obtain⟨u,rfl,hu⟩:=zqT hp;obtain⟨hk1,_⟩:=zeP hu;have hk:k<f.cs.length:=by rw[← hf.len]; exact hk1
  have hpl:zbw f.D (u:Int)=some (k:Int):=by rw[znf hf,hp]; rfl
  have en:decide ((k:Int)<0)=false:=decide_eq_false (by omega);have hs:=zfz hf u;obtain⟨c,t1,t2⟩:=zos hf hs;have t3:=zq0 hf hs;have hc:za4 f.D.cards (k:Int)=some ((f.cs[k]:Nat):Int):=zbK hk;have tf:∀ y:S_api_Factor,SzOk y→zbe y 0 y 0=some true:=fun y hy=>zfj hy rfl rfl
  rcases Int.lt_or_le p 0 with h1 | h1
  ·have t:=zfj (x:=noF) (y:=noF) ziM (c:=2) (d:=2) rfl rfl;have ed:decide (p<0)=true:=decide_eq_true h1;simp only[zhv,hfb,zsc hf hu,zsN hf hu,zoG hf hu hk (.inl h1),zpx hf,zoU hf,hpl,en,t1,t2,t3,ed,qaa,cond_true,cond_false,e00,t,qaS]
  have ed:decide (p<0)=false:=decide_eq_false (by omega);rcases Int.lt_or_le p ((f.cs[k]:Nat):Int)with h2 | h2
  ·obtain⟨q,rfl⟩:∃ q:Nat,p=(q:Int):=⟨p.toNat,by omega⟩;have hq:q<f.cs[k]:=by omega
   have ec:decide (((f.cs[k]:Nat):Int)≤(q:Int))=false:=decide_eq_false (by omega);have t:=tf _ (zsm hf hu hk q).sz;simp only[zhv,hfb,zsc hf hu,zsN hf hu,zuM hf hu hk hq,zus hf hu hk hq,zpx hf,zoU hf,hpl,en,t1,t2,t3,ed,ec,hc,qaa,cond_true,cond_false,e00,t,qaS]
  have ec:decide (((f.cs[k]:Nat):Int)≤p)=true:=decide_eq_true h2;have t:=zfj (x:=noF) (y:=noF) ziM (c:=2) (d:=2) rfl rfl;simp only[zhv,hfb,zsc hf hu,zsN hf hu,zoG hf hu hk (.inr h2),zpx hf,zoU hf,hpl,en,t1,t2,t3,ed,ec,hc,qaa,cond_true,cond_false,e00,t,qaS]
theorem zsf(n:Nat):zaA 5000 p1 p2 p4 x9 (n+1) ((3:Nat):Int)=some (.go ()):=rfl
theorem zsg:zaA 5000 p1 p2 p4 x9 (3 - 0+2:Int).toNat 0=some (.go ()):=by
 have e:(3 - 0+2:Int).toNat=5:=rfl;rw[e,show(0:Int)=((0:Nat):Int)from rfl,zjA 4 0 (by decide),zjA 3 1 (by decide),zjA 2 2 (by decide),zsf 1]
end
section
variable {p1 p2 p4:Int} {x y:S_api_Factor}
theorem zlF(n i:Nat)(hi:i<2):zaN 5000 x y p1 p2 p4 (n+1) (i:Int)=zaN 5000 x y p1 p2 p4 n ((i+1:Nat):Int):=by
 conv=>lhs; unfold zaN
 obtain⟨z,hz⟩:∃ z,za4 [x,y] (i:Int)=some z:=⟨_,zbo (by simpa using hi)⟩;rw[show decide ((i:Int)<2)=true from decide_eq_true (by omega),cond_true,hz,qaa,zaF (by omega),zsg];rfl
theorem zqH:zaN 5000 x y p1 p2 p4 (2 - 0+2:Int).toNat 0=some (.go ()):=by
 have e:(2 - 0+2:Int).toNat=4:=rfl;rw[e,show(0:Int)=((0:Nat):Int)from rfl,zlF 3 0 (by decide),zlF 2 1 (by decide)];rfl
end
theorem zjw(hw:zdl=some true)(p0:S_api_Factor)(p1 p2:Int){p3:S_haruspexref03_Draft}(h3:DrOk p3)(p4:Int):zbT 5000 p0 p1 p2 p3 p4=some true:=by
 obtain⟨y0,e0⟩:=zuQ p0;obtain⟨_,_,_,_,e3⟩:=h3.s;unfold zbT;rw[hw,qaa,cond_true,e0,qaa,e3,qaa,zqH];rfl
def ztk(x:Int):List Int→List Int
 | []=>[x]
 | y :: ys=>bif decide (x≤y)then x :: y :: ys else y :: ztk x ys
def zt1:List Int→List Int
 | []=>[]
 | x :: xs=>ztk x (zt1 xs)
theorem zhH(x:Int):∀ ys,(ztk x ys).Perm (x :: ys)
 | []=>.refl _
 | y :: ys=>by
  unfold ztk;cases decide (x≤y)with
  | true=>exact .refl _
  | false=>exact((zhH x ys).cons y).trans (.swap x y ys)
theorem zlm:∀ xs,(zt1 xs).Perm xs
 | []=>.refl _
 | x :: xs=>(zhH x _).trans ((zlm xs).cons x)
theorem zoA(x:Int):∀ {ys:List Int},ys.Pairwise (· ≤ ·)→(ztk x ys).Pairwise (· ≤ ·)
 | [],_=>List.pairwise_singleton _ _
 | y :: ys,h=>by
  obtain⟨h1,h2⟩:=qa9.1 h;unfold ztk;cases hd:decide (x≤y)with
  | true=>
   have:=of_decide_eq_true hd;refine qa9.2 ⟨fun z hz=>?_,h⟩;rcases qaJ.1 hz with rfl | hz
   ·exact this
   ·exact Int.le_trans this (h1 z hz)
  | false=>
   have:=of_decide_eq_false hd;refine qa9.2 ⟨fun z hz=>?_,zoA x h2⟩;rcases qaJ.1 ((zhH x ys).mem_iff.1 hz)with rfl | hz
   ·omega
   exact h1 z hz
theorem zoT:∀ xs,(zt1 xs).Pairwise (· ≤ ·)
 | []=>.nil
 | x :: xs=>zoA x (zoT xs)
theorem zqK:zhc=zt1:=by
 funext xs
 refine List.Perm.eq_of_pairwise (le:=fun a b:Int=>a≤b) (fun a b _ _ h1 h2=>Int.le_antisymm h1 h2) ?_ (zoT xs) ((List.mergeSort_perm xs _).trans (zlm xs).symm);have:=List.pairwise_mergeSort (le:=fun x y:Int=>decide (x≤y)) (fun a b c h1 h2=>by simp at *; omega) (fun a b=>by simp; omega) xs;exact this.imp fun h=>by simpa using h
def zur(b:Nat)(xs:List Int):Option (List Int):=if xs.length * b≤zar then some (zt1 xs)else none
theorem zq2:zlx=zur:=by
 funext b xs
 unfold zlx zur;rw[zqK]
theorem ztw:zdl=some true:=by
 delta zdl zcK zdo
 rw[zq2];decide +kernel
end Go.Dc
