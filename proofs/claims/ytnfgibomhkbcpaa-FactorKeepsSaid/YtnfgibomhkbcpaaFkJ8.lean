/-
 Plain laws: Divide, by the program and by the reference. Conditions: none.
-/
import Derived.Test.YtnfgibomhkbcpaaFkJ7
import Derived.Test.YtnfgibomhkbcpaaFkJ6
set_option linter.unusedSimpArgs false
set_option linter.unusedVariables false
namespace Go.Dc
open Go Go.Mx Go.Lx
theorem zuD(b:Nat):((b:Int)== 0)=(b == 0):=zpa b 0
theorem ztl{a b:Nat}(hb:¬ b=0):zpY (a:Int) (b:Int)=some ((a % b:Nat):Int):=by
 unfold zpY;rw[zuD,beq_false_of_ne hb,cond_false]; rfl
theorem zus{a b:Nat}(hb:¬ b=0)(ha:a≤zgG):zqs .i64 (a:Int) (b:Int)=some ((a / b:Nat):Int):=by
 have h1:a≤4611686018427387903:=ha;have h2:a / b≤a:=Nat.div_le_self a b;unfold zqs;rw[zuD,beq_false_of_ne hb,cond_false,show((a:Int).tdiv (b:Int))=((a / b:Nat):Int)from rfl];exact congrArg some (zcj (n:=a / b) (by omega))
def Fc.get(f:Fc)(j:Nat):Nat:=f.ws.getD j 0
theorem Fc.zo1{f:Fc}(hf:FcOk f)(k:Nat):f.get k≤zgG:=by
 unfold Fc.get;by_cases h:k<f.ws.length
 ·rw[qaY,qag h];exact hf.num _ (qbe h)
 rw[qaY,qbm (by omega)];exact qaQ _
theorem zrS{f:Fc}{i:Nat}(hf:FcOk f)(h:i<zai f.cs):za4 f.D.w (i:Int)=some ((f.get i:Nat):Int):=zd1 (by rw[hf.size]; exact h)
theorem zue(n:Nat):IntKind.u8.wrap (n:Int)=((n % 256:Nat):Int):=by
 simp only[IntKind.wrap,IntKind.bits,IntKind.signed]; simp
theorem zqP{n:Nat}(h:n<256):IntKind.u8.wrap (n:Int)=(n:Int):=by
 rw[zue,qbq h]
theorem zuS{a b:Nat}(ha:a<256)(hb:b<256):znr .u8 (a:Int) (b:Int)=((a &&& b:Nat):Int):=by
 have h:(BitVec.ofInt 8 (a:Int) &&& BitVec.ofInt 8 (b:Int)).toNat=a &&& b:=by
  simp only[BitVec.ofInt_natCast,BitVec.toNat_and,BitVec.toNat_ofNat];rw[qbq ha,qbq hb]
 show IntKind.u8.wrap ((BitVec.ofInt 8 (a:Int) &&& BitVec.ofInt 8 (b:Int)).toNat:Int)=_;rw[h];exact zqP (Nat.lt_of_le_of_lt Nat.and_le_left ha)
theorem zuR{a v:Nat}(hv:v<8):zmH .u8 (a:Int) (v:Int)=some ((a >>> v:Nat):Int):=by
 unfold zmH;rw[if_pos (by omega)];congr 1
 have h1:min (v:Int).toNat IntKind.u8.bits=v:=by
  rw[show IntKind.u8.bits=8 from rfl,qaI]; exact qbN (by omega)
 rw[h1,qbR];have h2:((2:Int) ^ v)=((2 ^ v:Nat):Int):=by simp
 rw[h2,Int.fdiv_eq_ediv_of_nonneg _ (qbD _)];rfl
theorem zuJ{a v:Nat}(ha:a<256)(hv:v<8):∃ q:Int,zmH .u8 (a:Int) (v:Int)=some q∧(znr .u8 q 1 == 1)=a.testBit v:=by
 refine⟨_,zuR hv,?_⟩;rw[show(1:Int)=((1:Nat):Int)from rfl,zuS (Nat.lt_of_le_of_lt (by rw[qbR]; exact Nat.div_le_self _ _) ha) (by decide),zuK,zpa];cases a.testBit v<;>rfl
def zqg(v:Nat):Nat:=[2,3,1,2,2].getD v 0
def drV(w:Nat):List Nat:=(List.range' 0 5).filter w.testBit
def drC(w:Nat):List Nat:=(drV w).map zqg
theorem zi7{w:Nat}(hw:w<256){n:List Int}{b:Bool}:∀(m v k:Nat) (x y:List Nat),v+m=5→x.length≤v→y.length≤v→m<k →
  zaK ⟨(w:Int),n,b⟩ k (v:Int) (iL x) (iL y)=some (iL (x ++ (List.range' v m).filter w.testBit),iL (y ++ ((List.range' v m).filter w.testBit).map zqg))
 | _,_,0,_,_,_,_,_,h=>absurd h (qaw _)
 | 0,v,k+1,x,y,h,_,_,_=>by
  unfold zaK;rw[show decide ((v:Int)<5)=false from decide_eq_false (by omega),cond_false];simp
 | m+1,v,k+1,x,y,h,hx,hy,hk=>by
  obtain⟨q,h1,h2⟩:=zuJ (a:=w) (v:=v) hw (by omega);unfold zaK;rw[show decide ((v:Int)<5)=true from decide_eq_true (by omega),cond_true,zqE (by omega),h1,qab,h2,qb6];cases hb:w.testBit v with
  | false=>
   rw[cond_false,qab];simp only[];rw[zaI (by omega),zi7 hw m (v+1) k _ _ (by omega) (by omega) (by omega) (by omega),List.filter_cons_of_neg (by rw[hb]; decide)]
  | true=>
   rw[cond_true,zoP (by omega),qab,show za4 ([2,3,1,2,2]:List Int) (v:Int)=some ((zqg v:Nat):Int)from zd1 (xs:=[2,3,1,2,2]) (by simp; omega),qab,zoP (by omega),qab,qab];simp only[];rw[zaI (by omega),zi7 hw m (v+1) k _ _ (by omega) (by simp; omega) (by simp; omega) (by omega),List.filter_cons_of_pos hb];simp
def zqB(n:List Nat)(j:Nat):Nat:=bif n.length == 0 then 1 else n.getD (j % n.length) 0 % 10
theorem zsa(n:List Nat)(j:Nat):zqB n j≤9:=by
 unfold zqB;cases(n.length == 0)
 ·rw[cond_false]; omega
 rw[cond_true]; omega
def zsB(b:Bool):Nat:=bif b then 1000000000000000 else 1
theorem znW{n:List Nat}(j:Nat):((bif (decide (0<((iL n).length:Int)))then((zpY (j:Int) ((iL n).length:Int)).bind fun q16=>(za4 (iL n) q16).bind fun x18=>some (w64 (x18.tmod 10)))else some 1:Option Int))=some ((zqB n j:Nat):Int):=by
 unfold zqB;rw[zaS];by_cases h:n.length=0
 ·rw[h,show decide ((0:Int)<((0:Nat):Int))=false from rfl,cond_false,show((0:Nat)== 0)=true from rfl,cond_true]; rfl
 rw[show decide ((0:Int)<(n.length:Int))=true from decide_eq_true (by omega),cond_true,beq_false_of_ne h,cond_false,ztl h,qab,zd1 (qb1 _ (by omega)),qab];congr 1
 rw[show((n.getD (j % n.length) 0:Nat):Int).tmod 10=((n.getD (j % n.length) 0 % 10:Nat):Int)from rfl,zcj (by omega)]
theorem zmd{n:List Nat}{c:List Nat}{w:Int}{b b2:Bool}(hc:zct (iL c)=true)(hp:zai c≤4096):∀(m i k:Nat) (ys:List Nat),i+m=zai c→ys.length=i→m<k →
  zaJ (iL c) ⟨w,iL n,b⟩ ((zsB b2:Nat):Int) k (i:Int) (iL ys)=some (iL (ys ++ (List.range' i m).map fun j=>zqB n j * zsB b2))
 | _,_,0,_,_,_,h=>absurd h (qaw _)
 | 0,i,k+1,ys,h,hy,_=>by
  unfold zaJ;rw[zg2 hc,qab,zdH];obtain rfl:i=zai c:=by omega
  rw[zja,cond_false];simp
 | m+1,i,k+1,ys,h,hy,hk=>by
  have h1:=zsa n i;have h2:zqB n i * zsB b2≤9000000000000000:=by
   cases b2
   ·show zqB n i * 1≤_; omega
   show zqB n i * 1000000000000000≤_; omega
  unfold zaJ;rw[zg2 hc,qab,zdH,zjn (by omega),cond_true,znW,qab,← qa7,zcj (by omega),zoP (by omega),qab,zaI (by omega),zmd hc hp m (i+1) k _ (by omega) (by simp[hy]) (by omega),qb6];simp
def drF(w:Nat)(n:List Nat)(b:Bool):Fc:=⟨drV w,drC w,(List.range' 0 (zai (drC w))).map fun j=>zqB n j * zsB b⟩
theorem zsW:∀ w,w<256→zct (iL (drC w))=true∧zai (drC w)≤24:=by decide +kernel
theorem zrU{w:Nat}(hw:w<256)(n:List Nat)(b:Bool):zbg 5000 ⟨(w:Int),iL n,b⟩=some (drF w n b).D:=by
 obtain⟨h1,h2⟩:=zsW w hw;unfold zbg;have e1:=zi7 hw (n:=iL n) (b:=b) 5 0 ((5 - 0+2:Int).toNat) [] [] rfl (qai _) (qai _) (by decide);rw[show zaK ⟨(w:Int),iL n,b⟩ ((5 - 0+2:Int).toNat) 0 [] []=_ from e1,qab];simp only[];have e2:(bif b then some ((1000000000000000:Int),true)else some (1,false))=some (((zsB b:Nat):Int),b):=by cases b<;>rfl
 rw[e2,qab];simp only[];have e3:=zmd (n:=n) (c:=drC w) (w:=(w:Int)) (b:=b) (b2:=b) h1 (by omega) (zai (drC w)) 0 5000 [] (by omega) rfl (by omega);rw[show zaJ (iL ([]++ ((List.range' 0 5).filter w.testBit).map zqg)) ⟨(w:Int),iL n,b⟩ ((zsB b:Nat):Int) 5000 0 []=_ from e3];rfl
theorem zoq{xs ys:List Int}(hl:xs.length=ys.length)(hb:xs.length<4611686018427387904):∀ n i:Nat,i≤xs.length→xs.length - i<n→zcs xs ys n (i:Int)=some (bif decide (xs.drop i=ys.drop i)then .go ()else .ret false)
 | 0,_,_,h=>absurd h (qaw _)
 | n+1,i,h1,h2=>by
  unfold zcs;rw[zpS];by_cases hi:i<xs.length
  ·have hy:i<ys.length:=by omega
   have e:(xs.drop i=ys.drop i)↔(xs[i]=ys[i]∧xs.drop (i+1)=ys.drop (i+1)):=by
    rw[qak hi,qak hy,List.cons.injEq]
   rw[decide_eq_true hi,cond_true,zaG hi,qab,zaG hy,qab,zaI (by omega)];by_cases hx:xs[i]=ys[i]
   ·rw[show(xs[i]== ys[i])=true from beq_iff_eq.2 hx,cond_true,zoq hl hb n (i+1) hi (by omega),decide_eq_decide.2 (show(xs.drop i=ys.drop i)↔(xs.drop (i+1)=ys.drop (i+1))from e.trans ⟨fun c=>c.2,fun c=>⟨hx,c⟩⟩)]
   rw[show(xs[i]== ys[i])=false from beq_false_of_ne hx,cond_false,decide_eq_false (fun c=>hx (e.1 c).1),cond_false]
  rw[decide_eq_false hi,cond_false,qbc (by omega),qbc (by omega),decide_eq_true rfl,cond_true]
theorem zlN{xs ys:List Int}(hb:xs.length<4611686018427387904):zc2 xs ys=some (decide (xs=ys)):=by
 unfold zc2;by_cases hl:xs.length=ys.length
 ·rw[hl,beq_self_eq_true,cond_true,← hl,zbb];have:=zoq hl hb (xs.length+2) 0 (qaQ _) (by omega);rw[show zcs xs ys (xs.length+2) 0=_ from this,qaK,qaK,qab];cases decide (xs=ys)<;> rfl
 rw[show((xs.length:Int)==(ys.length:Int))=false from beq_false_of_ne (by omega),cond_false,decide_eq_false (fun e=>hl (by rw[e]))]
structure SzOk (x:S_api_Factor):Prop where
 vars:x.vars.length<4611686018427387904
 cards:x.cards.length<4611686018427387904
 w:x.w.length<4611686018427387904
theorem zlv{x y:S_api_Factor}:x=y↔x.vars=y.vars∧x.cards=y.cards∧x.w=y.w:=by
 cases x; cases y; simp
theorem zrt{x y:S_api_Factor}(h:SzOk x):zc0 x y=some (decide (x=y)):=by
 unfold zc0;rw[zlN h.vars,qab];by_cases h1:x.vars=y.vars
 ·rw[decide_eq_true h1,cond_true,zlN h.cards,qab];by_cases h2:x.cards=y.cards
  ·rw[decide_eq_true h2,cond_true,zlN h.w,qab,qab,decide_eq_decide.2 (show x=y↔x.w=y.w from zlv.trans ⟨fun c=>c.2.2,fun c=>⟨h1,h2,c⟩⟩)]
  rw[decide_eq_false h2,cond_false,qab,decide_eq_false (fun e=>h2 (zlv.1 e).2.1)]
 rw[decide_eq_false h1,cond_false,qab,decide_eq_false (fun e=>h1 (zlv.1 e).1)]
theorem zjZ:SzOk noF:=⟨by decide,by decide,by decide⟩
theorem FcOk.sz{f:Fc}(h:FcOk f):SzOk f.D:=by
 have h1:=h.le; have h2:=h.len; have h3:=h.size; have h4:=h.prod;refine⟨?_,?_,?_⟩
 ·show(iL f.vs).length<_; rw[zaS]; omega
 ·show(iL f.cs).length<_; rw[zaS]; omega
 show(iL f.ws).length<_; rw[zaS]; omega
theorem ztq{x y:S_api_Factor}(h:SzOk x)(c d:Int):zcF x c y d=some ((c == d) && decide (x=bif d == 0 then y else noF)):=by
 unfold zcF;have e:(bif (d == 0)then some (y.vars,y.cards,y.w)else some ([],[],[]):Option (List Int×List Int×List Int))=some ((bif d == 0 then y else noF).vars,(bif d == 0 then y else noF).cards,(bif d == 0 then y else noF).w):=by
  cases(d == 0)<;> rfl
 rw[e,qab];simp only[];rw[zrt h,show(⟨(bif d == 0 then y else noF).vars,(bif d == 0 then y else noF).cards,(bif d == 0 then y else noF).w⟩:S_api_Factor)=(bif d == 0 then y else noF)from rfl];cases(c == d)with
 | false=>rfl
 | true=>rw[cond_true,qab,qab,qaS]
theorem zhx{x y:S_api_Factor}(h:SzOk x){c d:Int}(hc:c=d)(hx:x=bif d == 0 then y else noF):zcF x c y d=some true:=by
 rw[ztq h,hc,beq_self_eq_true,qaS,decide_eq_true hx]
theorem zqT(x:S_api_Factor):zk6 x=false∨∃ f,FcOk f∧x=f.D:=by
 cases h:zk6 x with
 | false=>exact .inl rfl
 | true=>exact .inr (zqM h)
section
variable {r4 r6 r8 r10 r12 r14 r16 r18:S_api_Factor}
end
structure DrOk (d:S_haruspexref03_Draft):Prop where
 which:∃ w:Nat,w<256∧d.which=(w:Int)
 n:∃ ns:List Nat,d.n=iL ns
theorem DrOk.s{d:S_haruspexref03_Draft}(h:DrOk d):∃ w n,w<256∧d=⟨((w:Nat):Int),iL n,d.large⟩∧zbg 5000 d=some (drF w n d.large).D:=by
 obtain⟨w,hw,e1⟩:=h.which;obtain⟨n,e2⟩:=h.n;obtain⟨a,b,c⟩:=d;simp only at e1 e2;subst e1 e2;exact⟨w,n,hw,rfl,zrU hw n c⟩
def cof(f:Fc)(us:List Nat):List Nat:=us.map (at_ f.vs f.cs)
structure Sel (f:Fc) (us:List Nat):Prop where
 inc:us.Pairwise (· < ·)
 mem:∀ u∈us,u∈f.vs
theorem zjv:∀ {a b:List Nat},a.Pairwise (· < ·)→b.Pairwise (· < ·)→(∀ x∈a,x∈b)→a.Sublist b
 | [],b,_,_,_=>List.nil_sublist b
 | a :: xs,[],_,_,h=>by have:=h a qaB; simp at this
 | a :: xs,b :: bs,ha,hb,h=>by
  obtain⟨ha1,ha2⟩:=qa0.1 ha;obtain⟨hb1,hb2⟩:=qa0.1 hb;rcases qaL.1 (h a qaB)with e | h1
  ·subst e;refine(zjv ha2 hb2 fun x hx=>?_).cons_cons a;rcases qaL.1 (h x (qao _ hx))with e | h2
   ·have:=ha1 x hx; omega
   exact h2
  refine(zjv ha hb2 fun x hx=>?_).cons b;rcases qaL.1 (h x hx)with e | h2
  ·have h3:=hb1 a h1;rcases qaL.1 hx with e2 | h4
   ·omega
   have:=ha1 x h4; omega
  exact h2
theorem zjg:∀ {a b:List Nat},a.Sublist b→(∀ c∈b,1≤c)→zai a≤zai b
 | _,_,.slnil,_=>qai _
 | a,b :: bs,.cons _ h,hb=>by
  have h1:=zjg h fun c hc=>hb c (qao _ hc)
  have h2:=qbL (hb b qaB) (qai (zai bs));show zai a≤b * zai bs;omega
 | a :: xs,_ :: bs,.cons_cons _ h,hb=>qbL (qai a) (zjg h fun c hc=>hb c (qao _ hc))
theorem zsi{f:Fc}(hf:FcOk f){us:List Nat}(hs:Sel f us):(cof f us).Sublist f.cs:=by
 have h:=(zjv hs.inc hf.inc hs.mem).map (at_ f.vs f.cs)
 rwa [zsN (zef hf.inc) hf.len]at h
theorem ze7{f:Fc}(hf:FcOk f){us:List Nat}(hs:Sel f us):Dom us (cof f us):=by
 have h:=zsi hf hs;exact⟨by simp[cof],zef hs.inc,fun x hx=>hf.card x (h.subset hx),qau h.length_le hf.le,qau (zjg h fun c hc=>(hf.card c hc).1) hf.prod⟩
theorem zoY{f:Fc}{us:List Nat}(hs:Sel f us):Sub f.vs f.cs us (cof f us):=
 zrg (by simp[cof]) (zef hs.inc) fun u hu=>⟨hs.mem u hu,by unfold cof; rw[zrh hu]⟩
def ix(f:Fc)(us:List Nat)(i:Nat):Nat:=dot (us.map (at_ f.vs (dig f.cs i))) (zbD (cof f us))
theorem zsV{f:Fc}(hf:FcOk f){us:List Nat}(hs:Sel f us){i:Nat}(h:i<zai f.cs):ix f us i<zai (cof f us):=
 zrj (Sub.below hf.len (zgi hf.card h) (zoY hs))
theorem ztd{f:Fc}(hf:FcOk f){us:List Nat}(hs:Sel f us){i:Nat}:dot (dig f.cs i) (f.vs.map (stp us (cof f us)))=ix f us i:=by
 rw[zoT (zef hf.inc) (by simp[cof]) (zef hs.inc)]; rfl
def gop(b:Bool)(x y:Nat):Nat:=bif b then max x y else x+y
def zfz(b:Bool)(f:Fc)(us:List Nat):Nat→Nat→List Nat→Option (List Nat)
 | 0,_,l=>some l
 | m+1,i,l=>bif decide (gop b (l.getD (ix f us i) 0) (f.get i)≤zgG)then zfz b f us m (i+1) (l.set (ix f us i) (gop b (l.getD (ix f us i) 0) (f.get i)))else none
theorem zhB{b:Bool}{f:Fc}{us:List Nat}:∀ {m i:Nat} {l l':List Nat},zfz b f us m i l=some l'→l'.length=l.length
 | 0,_,_,_,h=>by cases h; rfl
 | m+1,i,l,l',h=>by
  unfold zfz at h;cases hd:decide (gop b (l.getD (ix f us i) 0) (f.get i)≤zgG)with
  | false=>rw[hd]at h; cases h
  | true=>rw[hd,cond_true]at h; rw[zhB h,qa1]
theorem zmZ{b:Bool}{f:Fc}{us:List Nat}:∀ {m i:Nat} {l l':List Nat},(∀ x∈l,x≤zgG)→zfz b f us m i l=some l'→∀ x∈l',x≤zgG
 | 0,_,_,_,hl,h=>by cases h; exact hl
 | m+1,i,l,l',hl,h=>by
  unfold zfz at h;cases hd:decide (gop b (l.getD (ix f us i) 0) (f.get i)≤zgG)with
  | false=>rw[hd]at h; cases h
  | true=>
   rw[hd,cond_true]at h;refine zmZ (fun x hx=>?_) h;rcases qbS hx with h1 | h1
   ·exact hl x h1
   rw[h1]; exact of_decide_eq_true hd
theorem zlL(i c P:Nat):(i % (c * P)) / P=(i / P) % c:=by
 rw[qbn c P,Nat.mod_mul_right_div_self]
theorem zlu(i c P:Nat):(i % (c * P)) % P=i % P:=Nat.mod_mod_of_dvd i ⟨c,qbn c P⟩
theorem zmC{cs:List Nat}{i:Nat}(hc:∀ c∈cs,1≤c∧c≤8)(hi:i≤100000)(hl:cs.length≤12):∀(k n:Nat),k≤cs.length→k<n →
  zbO (iL cs) n ((i / zai (cs.drop k):Nat):Int) ((k:Int) - 1) (iL (List.replicate k 0 ++ dig (cs.drop k) (i % zai (cs.drop k))))=some (iL (dig cs (i % zai cs)))
 | _,0,_,h=>absurd h (qaw _)
 | 0,n+1,_,_=>by
  unfold zbO;rw[show decide ((0:Int)≤((0:Nat):Int) - 1)=false from rfl,cond_false,qbW,qbb,qaK]
 | k+1,n+1,hk,hn=>by
  have hkl:k<cs.length:=hk;have e:cs.drop k=cs[k]:: cs.drop (k+1):=qak hkl;have hck:=hc cs[k] (qbe hkl);have ih:=zmC hc hi hl k n (by omega) (by omega);rw[e,show zai (cs[k]:: cs.drop (k+1))=cs[k] * zai (cs.drop (k+1))from rfl]at ih;rw[show dig (cs[k]:: cs.drop (k+1)) (i % (cs[k] * zai (cs.drop (k+1))))=(i % (cs[k] * zai (cs.drop (k+1)))) / zai (cs.drop (k+1)):: dig (cs.drop (k+1)) (i % (cs[k] * zai (cs.drop (k+1))) % zai (cs.drop (k+1)))from rfl,zlL,zlu]at ih;have hq:i / zai (cs.drop (k+1))≤i:=Nat.div_le_self _ _;unfold zbO
  rw[pred_succ,zt0,cond_true,zdK hkl,qab,ztl (by omega),qab,
   show List.replicate (k+1) 0 ++ dig (cs.drop (k+1)) (i % zai (cs.drop (k+1)))=List.replicate k 0 ++ 0 :: dig (cs.drop (k+1)) (i % zai (cs.drop (k+1))) by rw[qb7,qbf]; rfl,
   zey (by simp),qab,zg5 (by simp),qab,zus (by omega) (by show _≤4611686018427387903; omega),qab,zeb (by omega) (by omega),Nat.div_div_eq_div_mul,qbn (zai (cs.drop (k+1)))]
  exact ih
theorem zqv{cs:List Nat}(hc:∀ c∈cs,1≤c∧c≤8)(hl:cs.length≤12){i:Nat}(hi:i<zai cs)(hp:zai cs≤4096):zdk (iL cs) (i:Int)=some (iL (dig cs i)):=by
 unfold zdk;rw[zaS,zfE (by omega),qab];have h:=zmC (i:=i) hc (by omega) hl cs.length (cs.length+1) (qai _) (by omega);rw[qaC,show zai ([]:List Nat)=1 from rfl,Nat.div_one,Nat.mod_one,show dig [] 0=[]from rfl,qa8,zgJ,qbq hi]at h;rw[zeb (by omega) (by omega),show(((cs.length:Int) - 1) - 0+2).toNat=cs.length+1 by omega,h,qab]
theorem zsY{cs:List Nat}{ps:List Nat}(hp:∀ p∈ps,p<cs.length)(hl:ps.length≤1000):∀(n i:Nat) (acc:List Nat),i≤ps.length→acc.length≤i→ps.length - i<n →
  zdM (iL ps) (iL cs) n (i:Int) (iL acc)=some (iL (acc ++ (ps.drop i).map fun p=>cs.getD p 0))
 | 0,_,_,_,_,h=>absurd h (qaw _)
 | n+1,i,acc,hi,ha,hn=>by
  unfold zdM;rw[zaS];rcases qaF i ps.length with h | h
  ·rw[zjn h,cond_true,zdK h,qab,zd1 (hp _ (qbe h)),qab,zoP (by omega),qab,zaI (by omega),zsY hp hl n (i+1) _ h (by simp; omega) (by omega),qak h,qay,qbf,qbd]
  obtain rfl:i=ps.length:=by omega
  rw[zja,cond_false];simp
theorem zrp{cs ps:List Nat}(hp:∀ p∈ps,p<cs.length)(hl:ps.length≤1000):zex (iL cs) (iL ps)=some (iL (ps.map fun p=>cs.getD p 0)):=by
 unfold zex;have h:=zsY hp hl (ps.length+2) 0 [] (qaQ _) (qai _) (by omega);rw[zaS,zbb,show zdM (iL ps) (iL cs) (ps.length+2) 0 []=_ from h];simp
def plc(f:Fc)(us:List Nat):List Nat:=us.map fun u=>(pos f.vs u).getD 0
theorem zpv{f:Fc}{us:List Nat}(hs:Sel f us)(ds:List Nat):(plc f us).map (fun p=>ds.getD p 0)=us.map (at_ f.vs ds):=by
 unfold plc;rw[List.map_map];refine List.map_congr_left fun u hu=>?_
 obtain⟨k,hk⟩:=zhw (hs.mem u hu);show ds.getD ((pos f.vs u).getD 0) 0=_;rw[znT hk,hk]; rfl
theorem zoN{f:Fc}{us:List Nat}(hs:Sel f us):∀ p∈plc f us,p<f.vs.length:=by
 intro p hp;obtain⟨u,hu,rfl⟩:=qaW.1 hp;obtain⟨k,hk⟩:=zhw (hs.mem u hu);rw[hk];exact(zg3 hk).1
theorem zfG{f:Fc}(hf:FcOk f){us:List Nat}(hs:Sel f us):us.length≤12:=by
 have:=(zjv hs.inc hf.inc hs.mem).length_le;have:=hf.len; have:=hf.le;omega
theorem zsP{f:Fc}(hf:FcOk f){us:List Nat}(hs:Sel f us){i:Nat}(hi:i<zai f.cs):zd7 (iL f.cs) (iL (plc f us)) (i:Int)=some ((ix f us i:Nat):Int):=by
 have hl:=zfG hf hs;have hpl:(plc f us).length=us.length:=by simp[plc]
 have hD:=ze7 hf hs;unfold zd7;rw[zrp (fun p hp=>by rw[← hf.len]; exact zoN hs p hp) (by omega),qab,zqv hf.card hf.le hi hf.prod,qab,zrp (fun p hp=>by rw[ziV,← hf.len]; exact zoN hs p hp) (by omega),qab,zpv hs,zpv hs];show(zc5 (iL (cof f us)) _).bind _=_;rw[zrC (Sub.below hf.len (zgi hf.card hi) (zoY hs)) (fun c hc=>(hD.card c hc).1) hD.prod hD.le];rfl
theorem zoE{f:Fc}(hf:FcOk f){us:List Nat}(hs:Sel f us):∀(n i:Nat) (acc:List Nat),i≤us.length→acc.length≤i→us.length - i<n →
  zcu (iL us) f.D n (i:Int) (iL acc)=some (iL (acc ++ plc f (us.drop i)))
 | 0,_,_,_,_,h=>absurd h (qaw _)
 | n+1,i,acc,hi,ha,hn=>by
  have hl:=zfG hf hs;unfold zcu;rw[zaS];rcases qaF i us.length with h | h
  ·obtain⟨k,hk⟩:=zhw (hs.mem us[i] (qbe h));rw[zjn h,cond_true,zdK h,qab,zqZ hf,qab,zes,hk,show ixZ (some k)=(k:Int)from rfl,zoP (by omega),qab,zaI (by omega),zoE hf hs n (i+1) _ h (by simp; omega) (by omega),qak h,show plc f (us[i]:: us.drop (i+1))=(pos f.vs us[i]).getD 0 :: plc f (us.drop (i+1))from rfl,hk,qbf,qbd];rfl
  obtain rfl:i=us.length:=by omega
  rw[zja,cond_false];simp[plc]
theorem zps{b:Bool}{x y:Nat}(hx:x≤zgG)(hy:y≤zgG):(bif b then zry (x:Int) (y:Int)else w64 ((x:Int)+(y:Int)))=((gop b x y:Nat):Int):=by
 have h1:x≤4611686018427387903:=hx;have h2:y≤4611686018427387903:=hy;cases b with
 | true=>
  show zry (x:Int) (y:Int)=((max x y:Nat):Int);unfold zry;split<;>omega
 | false=>
  show w64 ((x:Int)+(y:Int))=((x+y:Nat):Int);rw[zeb (by omega) (by omega)]; omega
theorem zpo{l:List Nat}(h:∀ x∈l,x≤zgG)(k:Nat):l.getD k 0≤zgG:=by
 by_cases hk:k<l.length
 ·rw[qaY,qag hk];exact h _ (qbe hk)
 rw[qaY,qbm (by omega)];exact qaQ _
theorem ztP{xs:List Nat}{k y:Nat}(h:k<xs.length):zfD (iL xs) (k:Int) (y:Int)=some (iL (xs.set k y)):=by
 rw[zjo (by rw[zaS]; exact h)];simp[iL]
theorem zq2{x:Nat}:decide ((4611686018427387903:Int)<(x:Int))=!decide (x≤zgG):=by
 by_cases h:x≤zgG
 ·rw[decide_eq_true h]; exact decide_eq_false (by have:x≤4611686018427387903:=h; omega)
 rw[decide_eq_false h]; exact decide_eq_true (by have:¬ x≤4611686018427387903:=h; omega)
theorem zog{f:Fc}(hf:FcOk f){us:List Nat}(hs:Sel f us){x:Int}(b:Bool):∀(m i n:Nat) (l:List Nat),i+m=zai f.cs→l.length=zai (cof f us)→(∀ x∈l,x≤zgG)→m<n →
  zce f.D (iL (plc f us)) x n b (i:Int) (iL l)=some (match zfz b f us m i l with | some l'=>.go (iL l')| none=>.ret (noF,false))
 | _,_,0,_,_,_,_,h=>absurd h (qaw _)
 | 0,i,n+1,l,h,_,_,_=>by
  unfold zce;obtain rfl:i=zai f.cs:=by omega
  rw[show f.D.w=iL f.ws from rfl,zaS,hf.size,zja,cond_false];rfl
 | m+1,i,n+1,l,h,hl,hb,hn=>by
  have hi:i<zai f.cs:=by omega
  have hp:=hf.prod;have hk:=zsV hf hs hi;have hkl:ix f us i<l.length:=by omega
  have g1:=zpo hb (ix f us i);have g2:=Fc.zo1 hf i;have e:=zps (b:=b) g1 g2;unfold zce;rw[show f.D.w=iL f.ws from rfl,zaS,hf.size,zjn hi,cond_true,show f.D.cards=iL f.cs from rfl,zsP hf hs hi,qab,show za4 (iL f.ws) (i:Int)=some ((f.get i:Nat):Int)from zrS hf hi,zd1 hkl]
  have e2:((bif b then
    ((some ((l.getD (ix f us i) 0:Nat):Int)).bind fun x24=>(some ((f.get i:Nat):Int)).bind fun x26=>(zfD (iL l) ((ix f us i:Nat):Int) (zry x24 x26)).bind fun y28=>some (true,y28))
   else
    ((some ((l.getD (ix f us i) 0:Nat):Int)).bind fun x18=>(some ((f.get i:Nat):Int)).bind fun x20=>(zfD (iL l) ((ix f us i:Nat):Int) (w64 (x18+x20))).bind fun y22=>some (false,y22)):Option (Bool×List Int)))=
    some (b,iL (l.set (ix f us i) (gop b (l.getD (ix f us i) 0) (f.get i)))):=by
   cases b with
   | true=>
    rw[cond_true]at e;rw[cond_true,qab,qab,e,ztP hkl,qab]
   | false=>
    rw[cond_false]at e;rw[cond_false,qab,qab,e,ztP hkl,qab]
  rw[e2,qab];simp only[];rw[zd1 (by rw[qa1]; exact hkl),qab,zq2];have e3:(l.set (ix f us i) (gop b (l.getD (ix f us i) 0) (f.get i))).getD (ix f us i) 0=gop b (l.getD (ix f us i) 0) (f.get i):=by
   rw[qaY,qax hkl]; rfl
  rw[e3];unfold zfz;cases hd:decide (gop b (l.getD (ix f us i) 0) (f.get i)≤zgG)with
  | false=>rfl
  | true=>
   rw[qaP,cond_false,cond_true,zaI (by omega)];refine zog hf hs b m (i+1) n _ (by omega) (by rw[qa1]; exact hl) (fun x hx=>?_) (by omega);rcases qbS hx with h1 | h1
   ·exact hb x h1
   rw[h1]; exact of_decide_eq_true hd
def gat(b:Bool)(f:Fc)(us:List Nat):Option (List Nat):=zfz b f us (zai f.cs) 0 (List.replicate (zai (cof f us)) 0)
theorem zjA{n:Nat}:∀ x∈List.replicate n 0,x≤zgG:=fun x hx=>by rw[(List.mem_replicate.1 hx).2]; exact qaQ _
theorem zta{f:Fc}(hf:FcOk f){us:List Nat}(hs:Sel f us)(b:Bool):zei f.D (iL us) b=some (match gat b f us with | some l=>(⟨iL us,iL (cof f us),iL l⟩,true)| none=>(noF,false)):=by
 have hl:=zfG hf hs;have hD:=ze7 hf hs;have hp:=hD.prod;have hpf:=hf.prod;have hpl:(plc f us).length=us.length:=by simp[plc]
 unfold zei;have h1:=zoE hf hs (us.length+2) 0 [] (qaQ _) (qai _) (by omega);rw[zaS,zbb,show zcu (iL us) f.D (us.length+2) 0 []=_ from h1,qab,qbb,qaK,show f.D.cards=iL f.cs from rfl,zrp (fun p hp=>by rw[← hf.len]; exact zoN hs p hp) (by omega),qab,zpv hs];show(zcJ (iL (cof f us))).bind _=_;rw[zg2 (by unfold zct; rw[zaS,decide_eq_true hD.le,qaS]; exact zhN hD.card (by omega)),qab,zdH,zfE (by omega),qab,show f.D.w=iL f.ws from rfl,zaS,zbb,← zgJ];have h2:=zog hf hs (x:=((zai (cof f us):Nat):Int)) b (zai f.cs) 0 (f.ws.length+2) (List.replicate (zai (cof f us)) 0) (by omega) (by simp) zjA (by rw[hf.size]; omega);rw[show zce f.D (iL (plc f us)) ((zai (cof f us):Nat):Int) (f.ws.length+2) b 0 (iL (List.replicate (zai (cof f us)) 0))=_ from h2,qab];unfold gat;cases zfz b f us (zai f.cs) 0 (List.replicate (zai (cof f us)) 0)<;> rfl
theorem zik(cs:List Nat):∀(i:Nat) (h:i<cs.length),zai (cs.drop i)=cs[i] * zai (cs.drop (i+1)):=by
 intro i h;rw[qak h]; rfl
theorem zrb{f:Fc}(hf:FcOk f){us:List Nat}(hs:Sel f us):∀(n i a:Nat),i≤us.length→us.length - i<n→a * zai ((cof f us).drop i)≤4096→1≤a →
  zax (iL us) f.T n (a:Int) (i:Int) (iL ((cof f us).take i ++ List.replicate (us.length - i) 0))=some (((a * zai ((cof f us).drop i):Nat):Int),iL (cof f us))
 | 0,_,_,_,h,_,_=>absurd h (qaw _)
 | n+1,i,a,hi,hn,ha,h1=>by
  have hl:=zfG hf hs;have hcl:(cof f us).length=us.length:=by simp[cof]
  unfold zax;rw[zaS];rcases qaF i us.length with h3 | h3
  ·have h3c:i<(cof f us).length:=by omega
   have hcc:=(ze7 hf hs).card (cof f us)[i] (qbe h3c);have hpos:0<zai ((cof f us).drop (i+1)):=zff fun c hc=>(ze7 hf hs).card c (qbP hc)
   have e0:=zik (cof f us) i h3c;have ea:a * zai ((cof f us).drop i)=a * (cof f us)[i] * zai ((cof f us).drop (i+1)):=by rw[e0,qb0]
   have hle:a * (cof f us)[i]≤4096:=qau (qbw _ hpos) (ea ▸ ha);have ih:=zrb hf hs n (i+1) (a * (cof f us)[i]) h3 (by omega) (ea ▸ ha) (Nat.mul_pos (by omega) (by omega));have ht:((cof f us).take i).length=i:=by simp; omega
   have e:List.replicate (us.length - i) 0=0 :: List.replicate (us.length - (i+1)) 0:=by
    rw[show us.length - i=(us.length - (i+1))+1 by omega,qa9]
   rw[List.take_succ_eq_append_getElem h3c,qbf,qbd]at ih;obtain⟨k,hk⟩:=zhw (hs.mem us[i] (qbe h3));have ec:at_ f.vs f.cs us[i]=(cof f us)[i]:=by simp[cof]
   rw[zjn h3,cond_true,zdK h3,qab,zoO hf,qab,zes,hk,show f.T.factor=f.D from rfl,zm4 hf hk,qab,ec,e,zey ht,qab,zg5 ht,qab,← qa7,zcj (by omega),zaI (by omega),ea];exact ih
  obtain rfl:i=us.length:=by omega
  rw[zja,cond_false,Nat.sub_self,qbW,qa8,qaM (by omega),qbA (by omega),show zai ([]:List Nat)=1 from rfl,Nat.mul_one]
theorem zhM{g:Nat→Nat}{p:Nat}:∀ {vs:List Nat} {v k:Nat},vs.Nodup→pos vs v=some k→(vs.map g).set k p=vs.map fun u=>bif v == u then p else g u
 | [],_,_,_,h=>by cases h
 | u :: us,v,k,hn,h=>by
  obtain⟨h1,h2⟩:=qbz.1 hn;rw[show pos (u :: us) v=bif u == v then some 0 else(pos us v).map (· + 1)from rfl]at h;cases hb:(u == v)with
  | true=>
   rw[hb,cond_true]at h;cases h;have:u=v:=by simpa using hb
   subst this;rw[qay,qay,List.set_cons_zero,beq_self_eq_true,cond_true];refine congrArg (p :: ·) (List.map_congr_left fun x hx=>?_);rw[show(u == x)=false from beq_false_of_ne (fun e=>h1 (e ▸ hx)),cond_false]
  | false=>
   rw[hb,cond_false]at h;cases hp:pos us v with
   | none=>rw[hp]at h; cases h
   | some j=>
    rw[hp]at h;cases h;rw[qay,qay,List.set_cons_succ,zhM h2 hp,show(v == u)=false from beq_false_of_ne (fun e=>ne_of_beq_false hb e.symm),cond_false]
theorem zq3{f:Fc}(hf:FcOk f){us:List Nat}(hs:Sel f us):∀(k n:Nat),k≤us.length→k<n →
  zar (iL us) f.T (iL (cof f us)) n ((zai ((cof f us).drop k):Nat):Int) ((k:Int) - 1) (iL (f.vs.map (stp (us.drop k) ((cof f us).drop k))))=some (iL (f.vs.map (stp us (cof f us))))
 | _,0,_,h=>absurd h (qaw _)
 | 0,n+1,_,_=>by
  unfold zar;rw[show decide ((0:Int)≤((0:Nat):Int) - 1)=false from rfl,cond_false,qaK,qaK]
 | k+1,n+1,hk,hn=>by
  have hl:=zfG hf hs;have hD:=ze7 hf hs;have hcl:(cof f us).length=us.length:=by simp[cof]
  have h3:k<us.length:=hk;have h3c:k<(cof f us).length:=by omega
  have ih:=zq3 hf hs k n (by omega) (by omega);have e0:=zik (cof f us) k h3c;have hle:zai ((cof f us).drop k)≤4096:=qau (zdt (fun c hc=>(hD.card c hc).1) k) hD.prod;obtain⟨j,hj⟩:=zhw (hs.mem us[k] (qbe h3));obtain⟨hj2,_⟩:=zg3 hj;have em:(f.vs.map (stp (us.drop (k+1)) ((cof f us).drop (k+1)))).set j (zai ((cof f us).drop (k+1)))=f.vs.map (stp (us.drop k) ((cof f us).drop k)):=by
   rw[zhM (zef hf.inc) hj,qak h3,qak h3c];rfl
  unfold zar;rw[pred_succ,zt0,cond_true,zdK h3,qab,zoO hf,qab,zes,hj,show ixZ (some j)=(j:Int)from rfl,zd1 (by simpa using hj2),qab,ztP (by simpa using hj2),qab,zdK h3c,qab,← qa7,qbn,← e0,zcj (by omega),zeb (by omega) (by omega),em];exact ih
theorem zqV{f:Fc}(hf:FcOk f){us:List Nat}(hs:Sel f us){x:Int}:∀(m i:Nat) (l:List Nat),i+m=zai f.cs→l.length=zai (cof f us)→(∀ x∈l,x≤zgG)→
  ∃ z,zas f.T x (znf f.cs (f.vs.map (stp us (cof f us))) i m) (iL l)=some (match zfz false f us m i l with | some l'=>.go (iL l')| none=>.brk z)
 | 0,i,l,_,_,_=>⟨[],rfl⟩
 | m+1,i,l,h,hl,hb=>by
  have hi:i<zai f.cs:=by omega
  have hk:=zsV hf hs hi;have hkl:ix f us i<l.length:=by omega
  have g1:=zpo hb (ix f us i);have g2:=Fc.zo1 hf i;have e:=zps (b:=false) g1 g2;rw[cond_false]at e;rw[zm7,ztd hf hs];have es:zdh ((l.getD (ix f us i) 0:Nat):Int) ((f.get i:Nat):Int)=some (((gop false (l.getD (ix f us i) 0) (f.get i):Nat):Int),decide (gop false (l.getD (ix f us i) 0) (f.get i)≤zgG)):=by
   unfold zdh;rw[e];refine congrArg (fun b:Bool=>some (((gop false (l.getD (ix f us i) 0) (f.get i):Nat):Int),b)) (decide_eq_decide.2 ⟨fun h=>?_,fun h=>?_⟩)
   ·show _≤4611686018427387903; omega
   have:_≤4611686018427387903:=h; omega
  have e1:∀ ys,zas f.T x (((i:Int),((ix f us i:Nat):Int),iL (dig f.cs i)):: ys) (iL l)=bif decide (gop false (l.getD (ix f us i) 0) (f.get i)≤zgG)then zas f.T x ys (iL (l.set (ix f us i) (gop false (l.getD (ix f us i) 0) (f.get i))))else some (.brk (iL (l.set (ix f us i) (gop false (l.getD (ix f us i) 0) (f.get i))))):=by
   intro ys;show(za4 (iL l) ((ix f us i:Nat):Int)).bind _=_;rw[zd1 hkl,qab];simp only[];rw[show za4 f.T.factor.w (i:Int)=some ((f.get i:Nat):Int)from zrS hf hi,qab,es,qab];simp only[];rw[ztP hkl,qab]
  rw[e1];unfold zfz;cases hd:decide (gop false (l.getD (ix f us i) 0) (f.get i)≤zgG)with
  | false=>exact⟨_,rfl⟩
  | true=>
   rw[cond_true,cond_true];refine zqV hf hs m (i+1) _ (by omega) (by rw[qa1]; exact hl) fun x hx=>?_
   rcases qbS hx with h1 | h1
   ·exact hb x h1
   rw[h1]; exact of_decide_eq_true hd
theorem zro(f:Fc):f.vs.map (stp [] [])=List.replicate f.vs.length 0:=by
 rw[List.eq_replicate_iff];refine⟨by simp,fun x hx=>?_⟩;obtain⟨v,_,rfl⟩:=qaW.1 hx;simp[stp]
theorem ztJ{f:Fc}(hf:FcOk f){us:List Nat}(hs:Sel f us)(v:Nat):stp us (cof f us) v≤4096:=by
 have hD:=ze7 hf hs;rw[zoR hD.len];cases hp:pos us v with
 | none=>exact qaQ _
 | some k=>
  simp only;by_cases h:k<(zbD (cof f us)).length
  ·rw[qaY,qag h];exact zmr (fun c hc=>(hD.card c hc).1) hD.prod _ (qbe h)
  rw[qaY,qbm (by omega)];exact qaQ _
theorem zmT{f:Fc}(hf:FcOk f){us:List Nat}(hs:Sel f us):zau f.T (iL us)=some (match gat false f us with | some l=>(⟨iL us,iL (cof f us),iL l⟩,0)| none=>(noF,6)):=by
 have hl:=zfG hf hs;have hD:=ze7 hf hs;have hp:=hD.prod;have hpf:=hf.prod;have hfl:=hf.le;have hfl2:=hf.len;have hcl:(cof f us).length=us.length:=by simp[cof]
 unfold zau;have h1:=zrb hf hs (us.length+2) 0 1 (qaQ _) (by omega) (by rw[qaK]; omega) (qai _);rw[qbQ,qbb,Nat.sub_zero,zgJ,qaK,qbV]at h1;rw[zaS,zfE (by omega),qab,zbb,show zax (iL us) f.T (us.length+2) 1 0 (List.replicate us.length 0)=_ from h1,qab];simp only[];rw[zfE (by omega),qab,show f.T.factor.vars=iL f.vs from rfl,zaS,zfE (by omega),qab,zeb (by omega) (by omega),show(((us.length:Int) - 1) - 0+2).toNat=us.length+1 by omega];have h2:=zq3 hf hs us.length (us.length+1) (qai _) (by omega);rw[qaC,qbA (by omega),zro,zgJ,show zai ([]:List Nat)=1 from rfl]at h2;rw[show zar (iL us) f.T (iL (cof f us)) (us.length+1) 1 ((us.length:Int) - 1) (List.replicate f.vs.length 0)=_ from h2,qab,zow,qab];simp only[];rw[show f.T.factor.cards=iL f.cs from rfl,zsJ hf.card hf.le hf.prod (by rw[qbj,hf.len]) (fun s hs2=>by obtain⟨v,_,rfl⟩:=qaW.1 hs2; exact ztJ hf hs v),qab];obtain⟨z,h3⟩:=zqV hf hs (x:=((zai (cof f us):Nat):Int)) (zai f.cs) 0 (List.replicate (zai (cof f us)) 0) (by omega) (by simp) zjA;rw[← zgJ,h3,qab];unfold gat;cases zfz false f us (zai f.cs) 0 (List.replicate (zai (cof f us)) 0)<;> rfl
def ztS(o:Option (List Nat))(f:Fc)(us:List Nat):S_api_Factor×Int:=match o with
 | some l=>(⟨iL us,iL (cof f us),iL l⟩,0)
 | none=>(noF,6)
def zuo(o:Option (List Nat))(f:Fc)(us:List Nat):S_api_Factor×Bool:=match o with
 | some l=>(⟨iL us,iL (cof f us),iL l⟩,true)
 | none=>(noF,false)
theorem zsk{f:Fc}(hf:FcOk f){us:List Nat}(hs:Sel f us):zee f.D (iL us)=some (zuo (gat false f us) f us):=by
 unfold zee;rw[zta hf hs,qab];cases gat false f us<;>rfl
def gF(f:Fc)(us l:List Nat):Fc:=⟨us,cof f us,l⟩
theorem zth{f:Fc}(hf:FcOk f){us l:List Nat}(hs:Sel f us){b:Bool}(h:gat b f us=some l):FcOk (gF f us l):=by
 have hD:=ze7 hf hs;exact⟨hD.len,hD.le,hD.card,hD.prod,(zhB h).trans (by simp[gF]),hs.inc,fun v hv=>hf.var v (hs.mem v hv),zmZ zjA h⟩
theorem zso{f:Fc}(hf:FcOk f){us:List Nat}(hs:Sel f us)(b:Bool):SzOk (ztS (gat b f us) f us).1:=by
 cases h:gat b f us with
 | none=>exact zjZ
 | some l=>exact(zth hf hs h).sz
theorem zpR{f:Fc}(hf:FcOk f){us:List Nat}(hs:Sel f us):∃ c,zdO (zuo (gat false f us) f us).2=some c∧zcF (ztS (gat false f us) f us).1 (ztS (gat false f us) f us).2 (zuo (gat false f us) f us).1 c=some true:=by
 have hz:=zso hf hs false;cases h:gat false f us with
 | none=>exact⟨6,rfl,zhx zjZ rfl rfl⟩
 | some l=>exact⟨0,rfl,zhx (zth hf hs h).sz rfl rfl⟩
theorem zqo{xs:List Nat}{v:Int}{k:Nat}(h:zfn (iL xs) v=some k):∃ u:Nat,v=(u:Int)∧pos xs u=some k:=by
 rcases Int.lt_or_le v 0 with h1 | h1
 ·rw[zmc xs h1]at h; cases h
 obtain⟨u,rfl⟩:∃ u:Nat,v=(u:Int):=⟨v.toNat,by omega⟩;exact⟨u,rfl,by rw[← zes]; exact h⟩
section
variable {p1 p2 p4:Int} {x9:S_api_Factor}
end
section
variable {p1 p2 p4:Int} {x y:S_api_Factor}
end
end Go.Dc
