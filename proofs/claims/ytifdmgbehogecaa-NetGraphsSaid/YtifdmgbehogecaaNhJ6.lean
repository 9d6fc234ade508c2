/-
 Plain laws: numbers and sets of bits. Conditions: none.
-/
import Derived.Test.YtifdmgbehogecaaNhJ4
set_option linter.unusedSimpArgs false
set_option linter.unusedVariables false
namespace Go.Dc
open Go Go.Mx Go.Lx
theorem za0{n:Nat}(h:n<9223372036854775808):w64 (n:Int)=(n:Int):=wrap64 (by omega) (by omega)
theorem zm5{n:Int}(h1:-9223372036854775808≤n)(h2:n<9223372036854775808):w64 n=n:=wrap64 h1 h2
theorem zal{n:Nat}(h:n+1<9223372036854775808):w64 ((n:Int)+1)=((n+1:Nat):Int):=by
 rw[zm5 (by omega) (by omega)]; omega
theorem zug(n:Nat):IntKind.u64.wrap (n:Int)=((n % 18446744073709551616:Nat):Int):=by
 simp only[IntKind.wrap,IntKind.bits,IntKind.signed]; simp
theorem zet{n:Nat}(h:n<18446744073709551616):IntKind.u64.wrap (n:Int)=(n:Int):=by
 rw[zug,qby h]
theorem zwo{a b:Nat}(ha:a<18446744073709551616)(hb:b<18446744073709551616):zgv .u64 (a:Int) (b:Int)=((a &&& b:Nat):Int):=by
 have h:(BitVec.ofInt 64 (a:Int) &&& BitVec.ofInt 64 (b:Int)).toNat=a &&& b:=by
  simp only[qco,BitVec.toNat_and,BitVec.toNat_ofNat];rw[qby ha,qby hb]
 show IntKind.u64.wrap ((BitVec.ofInt 64 (a:Int) &&& BitVec.ofInt 64 (b:Int)).toNat:Int)=_;rw[h];exact zet (qcb Nat.and_le_left ha)
theorem orU{a b:Nat}(ha:a<18446744073709551616)(hb:b<18446744073709551616):orI .u64 (a:Int) (b:Int)=((a ||| b:Nat):Int):=by
 have h:(BitVec.ofInt 64 (a:Int)||| BitVec.ofInt 64 (b:Int)).toNat=a ||| b:=by
  simp only[qco,BitVec.toNat_or,BitVec.toNat_ofNat];rw[qby ha,qby hb]
 show IntKind.u64.wrap ((BitVec.ofInt 64 (a:Int)||| BitVec.ofInt 64 (b:Int)).toNat:Int)=_;rw[h];exact zet (qbd (n:=64) ha hb)
def diff(a b:Nat):Nat:=(BitVec.ofNat 64 a &&& ~~~ BitVec.ofNat 64 b).toNat
theorem ziN(a b:Nat):diff a b<18446744073709551616:=(BitVec.ofNat 64 a &&& ~~~ BitVec.ofNat 64 b).isLt
theorem zv0(a b:Nat):zqR .u64 (a:Int) (b:Int)=((diff a b:Nat):Int):=by
 show IntKind.u64.wrap ((BitVec.ofInt 64 (a:Int) &&& ~~~ BitVec.ofInt 64 (b:Int)).toNat:Int)=_;rw[qco,qco];exact zet (ziN a b)
theorem zgI{a b i:Nat}(ha:a<18446744073709551616)(hb:b<18446744073709551616):(diff a b).testBit i=(a.testBit i && !b.testBit i):=by
 unfold diff;rw[BitVec.testBit_toNat,BitVec.getLsbD_and,BitVec.getLsbD_not,BitVec.getLsbD_ofNat,BitVec.getLsbD_ofNat];by_cases hi:i<64
 ·simp[hi]
 have:a.testBit i=false:=Nat.testBit_lt_two_pow (qa8 ha (qa1 (n:=2) (by decide) (show 64≤i by omega)));simp[hi,this]
theorem zn9{v:Nat}(hv:v<64):zhO .u64 1 (v:Int)=some ((2 ^ v:Nat):Int):=by
 unfold zhO;rw[if_pos (by omega)];congr 1
 have h1:min (v:Int).toNat IntKind.u64.bits=v:=by
  rw[show IntKind.u64.bits=64 from rfl,qaF]; exact qbC (by omega)
 rw[h1,Int.one_mul];have h2:((2:Int) ^ v)=((2 ^ v:Nat):Int):=by simp
 rw[h2];exact zet (qaW (by decide) hv)
theorem zv9{a v:Nat}(hv:v<64):zit .u64 (a:Int) (v:Int)=some ((a >>> v:Nat):Int):=by
 unfold zit;rw[if_pos (by omega)];congr 1
 have h1:min (v:Int).toNat IntKind.u64.bits=v:=by
  rw[show IntKind.u64.bits=64 from rfl,qaF]; exact qbC (by omega)
 rw[h1,qbk];have h2:((2:Int) ^ v)=((2 ^ v:Nat):Int):=by simp
 rw[h2,Int.fdiv_eq_ediv_of_nonneg _ (qbn _)];rfl
theorem zxV(a v:Nat):((a >>> v) &&& 1)=(a.testBit v).toNat:=by
 rw[Nat.and_one_is_mod,Nat.testBit_eq_decide_div_mod_eq,qbk];have h:=Nat.mod_two_eq_zero_or_one (a / 2 ^ v);rcases h with h | h<;>simp[h]
theorem zt8{a v:Nat}(ha:a<18446744073709551616)(hv:v<64):∃ q:Int,zit .u64 (a:Int) (v:Int)=some q∧zgv .u64 q 1=((a.testBit v).toNat:Int):=by
 refine⟨_,zv9 hv,?_⟩;rw[show(1:Int)=((1:Nat):Int)from rfl,zwo (qcb (by rw[qbk]; exact Nat.div_le_self _ _) ha) (by decide),zxV]
variable {α:Type}
theorem zq6{xs:List α}{i:Nat}:zaK xs (i:Int)=xs[i]?:=by
 unfold zaK;rw[if_pos (qbn i),qaF]
theorem zaB{xs:List α}{i:Nat}(h:i<xs.length):zaK xs (i:Int)=some (xs[i]'h):=by
 rw[zq6,qae h]
theorem zgH{xs:List α}{i:Nat}{v:α}(h:i<xs.length):zgm xs (i:Int) v=some (xs.set i v):=by
 unfold zgm;rw[if_pos (by omega),qaF]
theorem zdT{b:Nat}{xs ys:List α}(h:(xs.length+ys.length)* b≤70368744177664):zd7 b xs ys=some (xs ++ ys):=by
 unfold zd7;rw[if_pos (by simp only[zad]; omega)]
theorem zeV{b n:Nat}{z:α}(h:n * b≤70368744177664):zgd b (n:Int) z=some (List.replicate n z):=by
 have h2:(n:Int)* (b:Int)≤zad:=by
  rw[← qbv]; simp only[zad]; omega
 unfold zgd;rw[if_pos ⟨qbn n,h2⟩,qaF]
theorem zqQ{b:Nat}{xs:List α}(h:xs.length * b≤70368744177664):ziC b xs=some xs:=by
 unfold ziC;rw[if_pos (by simp only[zad]; omega)]
theorem zao{i n:Nat}:decide ((i:Int)<(n:Int))=decide (i<n):=by simp
theorem zau(n:Nat):((n:Int) - 0+2).toNat=n+2:=by omega
theorem zqB{p0:S_api_Net}(hl:p0.nodes.length≤8):∀(n i:Nat) (acc:List Int),i≤p0.nodes.length→acc.length≤i→p0.nodes.length - i<n →
  zcF p0 n (i:Int) acc=some (acc ++ (p0.nodes.drop i).map (·.card))
 | 0,_,_,_,_,h=>absurd h (qak _)
 | n+1,i,acc,h1,h2,h3=>by
  unfold zcF;by_cases hi:i<p0.nodes.length
  ·rw[zao,decide_eq_true hi,cond_true,zaB hi,qaa,zdT (by simp; omega),qaa,zal (by omega),
    zqB hl n (i+1) _ hi (by simp; omega) (by omega),qas hi]
   rw[qa2]; rfl
  rw[zao,decide_eq_false hi,cond_false,qaO (by omega)];simp
theorem zm4{p0:S_api_Net}(hl:p0.nodes.length≤8):zdR p0=some (p0.nodes.map (·.card)):=by
 unfold zdR;rw[zau];have h:=zqB hl (p0.nodes.length+2) 0 [] (qar _) (qal _) (by omega);rw[show((0:Nat):Int)=0 from rfl]at h;rw[h];simp
def Pl(n:Nat)(xs:List Nat):Prop:=∀ x∈xs,x<n
def iL(xs:List Nat):List Int:=xs.map (fun x:Nat=>(x:Int))
theorem zap(xs:List Nat):(iL xs).length=xs.length:=by simp[iL]
theorem zsC{xs:List Nat}{i:Nat}(h:i<xs.length):(iL xs)[i]'(by rw[zap]; exact h)=((xs[i]:Nat):Int):=by simp[iL]
theorem zbY{xs:List Nat}{i:Nat}(h:i<xs.length):zaK (iL xs) (i:Int)=some ((xs[i]:Nat):Int):=by
 rw[zaB (by rw[zap]; exact h),zsC h]
theorem zw9{cs:List Int}{ps:List Nat}(hp:Pl cs.length ps)(hl:ps.length≤8):∀(n i:Nat) (acc:List Int),i≤ps.length→acc.length≤i→ps.length - i<n →
  zeo (iL ps) cs n (i:Int) acc=some (acc ++ (ps.drop i).map fun p=>cs.getD p 0)
 | 0,_,_,_,_,h=>absurd h (qak _)
 | n+1,i,acc,h1,h2,h3=>by
  unfold zeo;rw[zap];by_cases hi:i<ps.length
  ·have hb:ps[i]<cs.length:=hp _ (qap hi)
   rw[zao,decide_eq_true hi,cond_true,zbY hi,qaa,zaB hb,qaa,zdT (by simp; omega),qaa,zal (by omega),
    zw9 hp hl n (i+1) _ hi (by simp; omega) (by omega),qas hi]
   rw[qa2,qaE,show cs.getD ps[i] 0=cs[ps[i]] by simp[hb]]; rfl
  rw[zao,decide_eq_false hi,cond_false,qaO (by omega)];simp
theorem zuc{cs:List Int}{ps:List Nat}(hp:Pl cs.length ps)(hl:ps.length≤8):zfM cs (iL ps)=some (ps.map fun p=>cs.getD p 0):=by
 unfold zfM;rw[zap,zau];have h:=zw9 hp hl (ps.length+2) 0 [] (qar _) (qal _) (by omega);rw[show((0:Nat):Int)=0 from rfl]at h;rw[h];simp
def zaM(xs:List Nat):Nat:=xs.foldr (· * ·) 1
theorem zhF{xs:List Nat}(h:∀ x∈xs,1≤x):1≤zaM xs:=by
 induction xs with
 | nil=>exact qal 1
 | cons x xs ih=>exact qb8 (h x qau) (ih fun y hy=>h y (qat _ hy))
theorem zsA{cs:List Nat}(hc:∀ x∈cs,1≤x)(hl:cs.length≤8):∀(n i a:Nat),i≤cs.length→a * zaM (cs.drop i)≤65536→cs.length - i<n →
  zda (iL cs) n (a:Int) (i:Int)=some ((a * zaM (cs.drop i):Nat):Int)
 | 0,_,_,_,_,h=>absurd h (qak _)
 | n+1,i,a,h1,h2,h3=>by
  unfold zda;rw[zap];by_cases hi:i<cs.length
  ·have e:cs.drop i=cs[i]:: cs.drop (i+1):=qas hi;have e2:a * zaM (cs.drop i)=a * cs[i] * zaM (cs.drop (i+1)):=by rw[e]; exact(qck _ _ _).symm
   rw[e2]at h2;have hq:1≤zaM (cs.drop (i+1)):=zhF fun x hx=>hc x (qcn hx)
   have hle:a * cs[i]≤65536:=qay (qbe _ hq) h2
   rw[zao,decide_eq_true hi,cond_true,zbY hi,qaa,zal (by omega),show((a:Int)* ((cs[i]:Nat):Int))=((a * cs[i]:Nat):Int) by simp,
    za0 (by omega),zsA hc hl n (i+1) _ hi h2 (by omega),e2]
  rw[zao,decide_eq_false hi,cond_false,qaO (by omega)];simp[zaM]
theorem zpf{cs:List Nat}(hc:∀ x∈cs,1≤x)(hl:cs.length≤8)(hp:zaM cs≤65536):zdz (iL cs)=some ((zaM cs:Nat):Int):=by
 unfold zdz;rw[zap,zau];have h:=zsA hc hl (cs.length+2) 0 1 (qar _) (by simpa using hp) (by omega);rw[show((0:Nat):Int)=0 from rfl,show((1:Nat):Int)=1 from rfl]at h;rw[h];simp
theorem zg0{xs:List Nat}{i v:Nat}(h:i<xs.length):zgm (iL xs) (i:Int) (v:Int)=some (iL (xs.set i v)):=by
 rw[zgH (by rw[zap]; exact h)]; simp[iL]
theorem zqe:∀ {xs:List Nat} {i k:Nat} (h:i<xs.length),(xs.set i (xs[i]+k)).sum=xs.sum+k
 | [],i,k,h=>absurd h (qak _)
 | x :: xs,0,k,h=>by simp; omega
 | x :: xs,i+1,k,h=>by
  have:=zqe (xs:=xs) (i:=i) (k:=k) (by simpa using h);simp only[qcz,qbL,List.getElem_cons_succ,this];omega
theorem zid:∀ {xs:List Nat} {i:Nat} (h:i<xs.length),xs[i]≤xs.sum
 | [],i,h=>absurd h (qak _)
 | x :: xs,0,h=>by simp
 | x :: xs,i+1,h=>by
  have:=zid (xs:=xs) (i:=i) (by simpa using h);simp only[qbL,List.getElem_cons_succ];omega
theorem zde{xs0 bs:List Nat}{x:Nat}:zaK (iL (xs0 ++ x :: bs)) ((xs0.length:Nat):Int)=some (x:Int):=by
 rw[zbY (by simp)]; simp
theorem zfg{xs0 bs:List Nat}{x y:Nat}:zgm (iL (xs0 ++ x :: bs)) ((xs0.length:Nat):Int) (y:Int)=some (iL (xs0 ++ y :: bs)):=by
 rw[zg0 (by simp)]; simp
theorem zoq{a b:Nat}(hb:0<b):zsf (a:Int) (b:Int)=some ((a % b:Nat):Int):=by
 unfold zsf;have:((b:Int)== 0)=false:=by simp; omega
 rw[this,cond_false]; rfl
theorem zxj{ws:List Nat}{g p c:Nat}(hp:p≤65536)(hc:c≤8):∀(n:Nat) (xs0:List Nat) (k:Nat),xs0.length+k=c→xs0.sum≤7 * xs0.length→k<n →
  ∃ zs:List Nat,zs.length=c∧zs.sum≤7 * c∧zcH (c:Int) (iL ws) (p:Int) n ((xs0.sum:Nat):Int) (xs0.length:Int) (iL (xs0 ++ List.replicate k 0))=some (((zs.sum:Nat):Int),iL zs)
 | 0,_,_,_,_,h=>absurd h (qak _)
 | n+1,xs0,0,h1,h2,h3=>by
  refine⟨xs0,by simpa using h1,by rw[← h1]; simpa using h2,?_⟩;unfold zcH;rw[zao,decide_eq_false (by omega),cond_false];simp
 | n+1,xs0,k+1,h1,h2,h3=>by
  have step:∀ a:Nat,a≤7→∃ zs:List Nat,zs.length=c∧zs.sum≤7 * c∧zcH (c:Int) (iL ws) (p:Int) n (w64 (((xs0.sum:Nat):Int)+(a:Int))) (w64 ((xs0.length:Int)+1)) (iL (xs0 ++ a :: List.replicate k 0))=some (((zs.sum:Nat):Int),iL zs):=by
   intro a ha;obtain⟨zs,e1,e2,e3⟩:=zxj (ws:=ws) (g:=g) hp hc n (xs0 ++ [a]) k (by simp; omega) (by simp; omega) (by omega);refine⟨zs,e1,e2,?_⟩;rw[zal (by omega),← qcJ,za0 (by omega),← e3];simp
  unfold zcH;rw[zao,decide_eq_true (by omega),cond_true,zap,qa6];by_cases h0:0<ws.length
  ·have hq:(p+xs0.length) % ws.length<ws.length:=qb3 _ h0;obtain⟨zs,e1,e2,e3⟩:=step (ws[(p+xs0.length) % ws.length] % 8) (by omega);refine⟨zs,e1,e2,?_⟩
   rw[show decide ((0:Int)<(ws.length:Int))=true by simpa using h0,cond_true,← qcJ,za0 (by omega),zoq h0,qaa,zbY hq,qaa,zde,
    qaa,show(((ws[(p+xs0.length) % ws.length]:Nat):Int).tmod 8)=((ws[(p+xs0.length) % ws.length] % 8:Nat):Int)from rfl,za0 (by omega),zfg,
    qaa,qaa,zde,qaa,e3]
  obtain⟨zs,e1,e2,e3⟩:=step 0 (by omega);refine⟨zs,e1,e2,?_⟩;rw[show decide ((0:Int)<(ws.length:Int))=false by simpa using h0,cond_false,qaa,zde,qaa,e3]
theorem zwV{g t c:Nat}(hg:g≤60)(hc:c≤8)(ht:t≤65536):∀(n:Nat) (xs0 bs:List Nat) (m:Nat) (v:Nat),xs0.length+bs.length=c→xs0.sum * t+g * bs.sum≤g * t→bs.sum≤t→xs0.sum≤g→v<c→bs.length<n →
  ∃(zs:List Nat) (v':Nat),zs.length=c∧zs.sum≤g∧v'<c∧zc6 (c:Int) (g:Int) (t:Int) n ((g - xs0.sum:Nat):Int) (v:Int) (xs0.length:Int) (iL (xs0 ++ bs))=some (((g - zs.sum:Nat):Int),(v':Int),iL zs)
 | 0,_,_,_,_,_,_,_,_,_,h=>absurd h (qak _)
 | n+1,xs0,[],m,v,h1,h2,h2b,h3,h4,h5=>by
  refine⟨xs0,v,by simpa using h1,h3,h4,?_⟩;unfold zc6;rw[zao,decide_eq_false (by simp at h1; omega),cond_false];simp
 | n+1,xs0,b :: bs,m,v,h1,h2,h2b,h3,h4,h5=>by
  simp only[qaN,qbL]at h1 h2 h2b h5;unfold zc6;rw[zao,decide_eq_true (by omega),cond_true,zde,qaa];by_cases h0:0<b
  ·have hb:b≤t:=by omega
   have hgb:g * b≤60 * 65536:=qb8 hg (by omega);have hd:g * b / t * t≤g * b:=Nat.div_mul_le_self _ _;have hs:xs0.sum+g * b / t≤g:=by
    have h6:(xs0.sum+g * b / t)* t≤g * t:=by
     rw[qaU];have:g * (b+bs.sum)=g * b+g * bs.sum:=Nat.mul_add _ _ _;omega
    exact qbV h6 (by omega)
   obtain⟨zs,v',e1,e2,e3,e4⟩:=zwV hg hc ht n (xs0 ++ [g * b / t]) bs m xs0.length (by simp; omega) (by
    have:g * (b+bs.sum)=g * b+g * bs.sum:=Nat.mul_add _ _ _
    simp only[List.sum_append,qbL,List.sum_nil,qbS,qaU]; omega) (by omega) (by simpa using hs) (by omega) (by omega)
   refine⟨zs,v',e1,e2,e3,?_⟩;have hq:ztc .i64 (w64 ((g:Int)* (b:Int))) (t:Int)=some ((g * b / t:Nat):Int):=by
    unfold ztc;have:((t:Int)== 0)=false:=by simp; omega
    rw[this,cond_false,← qbv,za0 (by omega)];have hle:g * b / t≤g * b:=Nat.div_le_self _ _;exact congrArg some (za0 (n:=g * b / t) (by omega))
   rw[show decide ((0:Int)<(b:Int))=true by simpa using h0,cond_true,hq,qaa,zfg,qaa,qaa];simp only[];rw[zde,qaa,zal (by omega),show(((g - xs0.sum:Nat):Int) - ((g * b / t:Nat):Int))=((g - (xs0.sum+g * b / t):Nat):Int) by omega,za0 (qcb (Nat.sub_le _ _) (by omega)),← e4];simp
  have hb:b=0:=by omega
  subst hb;obtain⟨zs,v',e1,e2,e3,e4⟩:=zwV hg hc ht n (xs0 ++ [0]) bs m v (by simp; omega) (by simp at h2 ⊢; omega) (by omega) (by simpa using h3) h4 (by omega);refine⟨zs,v',e1,e2,e3,?_⟩;rw[show decide ((0:Int)<((0:Nat):Int))=false from rfl,cond_false,qaa];simp only[];rw[zde,qaa,zal (by omega),← Int.ofNat_sub (by omega),za0 (by omega),← e4];simp
theorem zs1{ws:List Nat}{g p c:Nat}(hg:g≤60)(hp:p≤65536)(h1:1≤c)(hc:c≤8):
  ∃ zs:List Nat,zs.length=c∧zs.sum=g∧zeP (g:Int) (c:Int) (iL ws) (p:Int)=some (iL zs):=by
 obtain⟨zs,e1,e2,e3⟩:=zxj (ws:=ws) (g:=g) hp hc (c+2) [] c (by simp) (by simp) (by omega);obtain⟨ys,v,f1,f2,f3,f4⟩:=zwV (g:=g) (t:=zs.sum) (c:=c) hg hc (by omega) (c+2) [] zs 0 0 (by simp[e1]) (by simp) (qal _) (by simp) (by omega) (by omega);have hv:v<ys.length:=by omega
 refine⟨ys.set v (ys[v]+(g - ys.sum)),by simp[f1],by rw[zqe]; omega,?_⟩;unfold zeP;have hz:List.replicate c (0:Int)=iL (List.replicate c 0):=by simp[iL]
 simp only[qbf,List.sum_nil,qaR,qcN]at e3 f4;rw[zeV (by omega),qaa,hz,zau];rw[show((0:Nat):Int)=0 from rfl]at e3 f4;rw[e3,qaa];simp only[];rw[f4,qaa];simp only[];rw[zbY hv,qaa,← qcJ,za0,zg0 hv,qaa];have:ys[v]≤ys.sum:=zid hv;omega
theorem zoz{c w:Nat}{os:List Int}{wh:Int}(hc:c≤5):∀(n i:Nat) (acc:List Int),acc.length=i→i≤c→c - i<n →
  ∃ zs:List Int,zs.length=c∧zbd ⟨List.replicate c 0,wh,os⟩ n (i:Int) acc=some zs
 | 0,_,_,_,_,h=>absurd h (qak _)
 | n+1,i,acc,h1,h2,h3=>by
  unfold zbd;simp only[qcD];by_cases hi:i<c
  ·obtain⟨zs,e1,e2⟩:=zoz (w:=w) (os:=os) (wh:=wh) hc n (i+1) (acc ++ [1]) (by simp[h1]) hi (by omega);refine⟨zs,e1,?_⟩
   rw[zao,decide_eq_true hi,cond_true,qaa,show decide ((i:Int)<5)=true by simp; omega,cond_true,zaB (by simpa using hi),qaa,
    List.getElem_replicate,show w64 (1+w64 ((0:Int).tmod 4))=1 from rfl,zdT (by simp; omega),qaa,zal (by omega),e2]
  exact⟨acc,by omega,by rw[zao,decide_eq_false hi,cond_false,qaa,cond_false]⟩
theorem zqX{c N:Nat}{os:List Int}{wh:Int}(hc:c≤5)(hN:6≤N):∃ zs:List Int,zs.length=c∧zbI N ⟨List.replicate c 0,wh,os⟩=some zs:=by
 obtain⟨zs,e1,e2⟩:=zoz (w:=0) (os:=os) (wh:=wh) hc N 0 [] rfl (qar _) (by omega);refine⟨zs,e1,?_⟩;unfold zbI;rw[show((0:Nat):Int)=0 from rfl]at e2;rw[e2,qaa]
structure PermOk (c:Nat) (xs:List Nat):Prop where
 len:xs.length=c
 nod:xs.Nodup
 lt:∀ x∈xs,x<c
 all:∀ x,x<c→x∈xs
theorem zkE{α:Type}{xs:List α}{a b:Nat}(h1:a≤b)(h2:b≤xs.length):zdp xs (a:Int) (b:Int)=some ((xs.drop a).take (b - a)):=by
 unfold zdp;rw[if_pos (by omega)];simp
theorem zr7{c N:Nat}{os:List Nat}{wh:Int}(hc:c≤5)(hN:6≤N)(ho:∀ o∈os,o≤255):∀(n i:Nat) (xs:List Nat),PermOk i xs→i≤c→c - i<n →
  ∃ zs:List Nat,PermOk c zs∧zax N ⟨List.replicate c 0,wh,iL os⟩ n (i:Int) (iL xs)=some (iL zs)
 | 0,_,_,_,_,h=>absurd h (qak _)
 | n+1,i,xs,h1,h2,h3=>by
  unfold zax;obtain⟨z0,z1,z2⟩:=zqX (os:=iL os) (wh:=wh) hc hN;rw[z2,qaa,z1];by_cases hi:i<c
  ·have step:∀ q:Nat,q≤i→∃ zs:List Nat,PermOk c zs∧((zdp (iL xs) 0 (q:Int)).bind fun y9=>
     (ziC 8 y9).bind fun y11=>(zd7 8 y9 [(i:Int)]).bind fun y13=>(zdp (iL xs) (q:Int) (iL xs).length).bind fun y15=>(zd7 8 y13 y15).bind fun y17=>
     zax N ⟨List.replicate c 0,wh,iL os⟩ n (w64 ((i:Int)+1)) y17)=some (iL zs):=by
    intro q hq;have hl:=h1.len;have hp:List.Perm (xs.take q ++ i :: xs.drop q) (i :: xs):=by
     refine List.perm_middle.trans ?_;rw[qbY]
    obtain⟨zs,e1,e2⟩:=zr7 (wh:=wh) hc hN ho n (i+1) (xs.take q ++ i :: xs.drop q) ⟨by rw[hp.length_eq]; simp[hl],hp.nodup_iff.2 (qce.2 ⟨fun hx=>Nat.lt_irrefl _ (h1.lt _ hx),h1.nod⟩),
     fun x hx=>by
      rcases qaQ.1 (hp.mem_iff.1 hx)with h | h
      ·omega
      have:=h1.lt _ h; omega,
     fun x hx=>hp.mem_iff.2 (by
      by_cases hxi:x=i
      ·exact qaQ.2 (.inl hxi)
      exact qat _ (h1.all _ (by omega)))⟩ hi (by omega)
    refine⟨zs,e1,?_⟩
    rw[show(0:Int)=((0:Nat):Int)from rfl,zkE (qar _) (by rw[zap]; omega),qaa,zqQ (by simp[zap]; omega),qaa,
     zdT (by simp[zap]; omega),qaa,zkE (by rw[zap]; omega) (qal _),qaa,zdT (by simp[zap]; omega),qaa,zal (by omega),← e2]
    congr 1
    simp[iL,qaJ]
   rw[zao,decide_eq_true hi,cond_true];simp only[zap (os)];by_cases hio:i<os.length
   ·have hq:os[i] % (i+1)≤i:=Nat.lt_succ_iff.1 (qb3 _ (Nat.succ_pos _));have hb:=ho _ (qap hio);obtain⟨zs,e1,e2⟩:=step _ hq;refine⟨zs,e1,?_⟩;rw[zao,decide_eq_true hio,cond_true,zbY hio,qaa,za0 (by omega),zal (by omega),zoq (by omega),qaa,qaa,← zal (by omega)];exact e2
   obtain⟨zs,e1,e2⟩:=step 0 (qar _);refine⟨zs,e1,?_⟩;rw[zao,decide_eq_false hio,cond_false,qaa];exact e2
  have:i=c:=by omega
  subst this;exact⟨xs,h1,by rw[zao,decide_eq_false hi,cond_false]⟩
theorem ztp{c N:Nat}{os:List Nat}{wh:Int}(hc:c≤5)(hN:6≤N)(ho:∀ o∈os,o≤255):
  ∃ zs:List Nat,PermOk c zs∧zaZ N ⟨List.replicate c 0,wh,iL os⟩=some (iL zs):=by
 obtain⟨zs,e1,e2⟩:=zr7 (wh:=wh) hc hN ho N 0 [] ⟨rfl,List.nodup_nil,by simp,by simp⟩ (qar _) (by omega);refine⟨zs,e1,?_⟩;unfold zaZ;rw[show((0:Nat):Int)=0 from rfl,show iL []=[]from rfl]at e2;rw[e2,qaa]
structure NN where
 c:Nat
 ps:List Nat
 rows:List (List Nat)
def nd(x:NN):S_api_Node:=⟨x.c,iL x.ps,x.rows.map iL⟩
theorem zrn(k:IntKind)(a:Int){v:Nat}:∃ q,zit k a (v:Int)=some q:=by
 unfold zit;rw[if_pos (qbn v)];exact⟨_,rfl⟩
theorem zrE{num ps:List Nat}{ps8:Int}{u k:Nat}(hk:k<num.length):∃ b,zrc (iL num) ps8 (u:Int) (k:Int) (iL ps)=some b∧(b=true→num[k]=u∧ps.length<3):=by
 unfold zrc;rw[zbY hk,qaa];by_cases h:num[k]=u
 ·obtain⟨q,e⟩:=zrn .u8 ps8 (v:=k % 18446744073709551616);rw[show(((num[k]:Nat):Int)==(u:Int))=true by simp[h],cond_true,zug,e,qaa];cases zgv .u8 q 1 == 1 with
  | true=>exact⟨_,rfl,fun h2=>⟨h,by rw[zap]at h2; have:=of_decide_eq_true h2; omega⟩⟩
  | false=>exact⟨_,rfl,fun h2=>by cases h2⟩
 rw[show(((num[k]:Nat):Int)==(u:Int))=false by simp; omega,cond_false];exact⟨_,rfl,fun h2=>by cases h2⟩
theorem zjx{num:List Nat}{ps8:Int}{u i:Nat}(hi:i≤num.length)(hn:num.length≤5)(hd:num.Nodup):∀(n k:Nat) (ps:List Nat),ps.length≤3→k≤i→i - k<n →
  ∃ qs:List Nat,zlZ (iL num) (i:Int) ps8 (u:Int) n (k:Int) (iL ps)=some (iL qs)∧(qs=ps∨(qs=ps ++ [u]∧ps.length<3∧∃ j,k≤j∧j<i∧num[j]? = some u))
 | 0,_,_,_,_,h=>absurd h (qak _)
 | n+1,k,ps,h1,h2,h3=>by
  unfold zlZ;by_cases hk:k<i
  ·obtain⟨b,e,hb⟩:=zrE (num:=num) (ps:=ps) (ps8:=ps8) (u:=u) (k:=k) (by omega);rw[zao,decide_eq_true hk,cond_true,e,qaa];cases b with
   | false=>
    obtain⟨qs,e2,h4⟩:=zjx (ps8:=ps8) (u:=u) hi hn hd n (k+1) ps h1 hk (by omega);refine⟨qs,by rw[cond_false,zal (by omega),e2],?_⟩;rcases h4 with h4 | ⟨h4,h5,j,h6,h7,h8⟩
    ·exact .inl h4
    ·exact .inr ⟨h4,h5,j,by omega,h7,h8⟩
   | true=>
    obtain⟨h5,h6⟩:=hb rfl;obtain⟨qs,e2,h4⟩:=zjx (ps8:=ps8) (u:=u) hi hn hd n (k+1) (ps ++ [u]) (by simp; omega) hk (by omega);refine⟨qs,?_,.inr ⟨?_,h6,k,qal _,hk,by rw[qae (by omega),h5]⟩⟩
    ·rw[cond_true,zdT (by simp[zap]; omega),qaa,zal (by omega),← e2];simp[iL]
    rcases h4 with h4 | ⟨h4,h7,j,h8,h9,h10⟩
    ·exact h4
    exfalso
    have hj:j<num.length:=by omega
    rw[qae hj]at h10;have h12:num[j]=num[k]'(by omega):=by rw[h5]; exact qab h10
    exact qaY.1 hd k j (by omega) hj (by omega) h12.symm
  exact⟨ps,by rw[zao,decide_eq_false hk,cond_false],.inl rfl⟩
structure ParOk (num:List Nat) (i:Nat) (b:Nat) (ps:List Nat):Prop where
 len:ps.length≤3
 inc:ps.Pairwise (· < ·)
 lt:∀ p∈ps,p<b
 mem:∀ p∈ps,∃ j,j<i∧num[j]? = some p
theorem zmB{num:List Nat}{ps8:Int}{i c:Nat}(hi:i≤num.length)(hn:num.length≤5)(hc:c≤5)(hd:num.Nodup):∀(n u:Nat) (ps:List Nat),ParOk num i u ps→u≤c→c - u<n →
  ∃ qs:List Nat,znO (iL num) (i:Int) ps8 (c:Int) n (u:Int) (iL ps)=some (iL qs)∧ParOk num i c qs
 | 0,_,_,_,_,h=>absurd h (qak _)
 | n+1,u,ps,h1,h2,h3=>by
  unfold znO;by_cases hu:u<c
  ·obtain⟨qs,e,h4⟩:=zjx (ps8:=ps8) (u:=u) hi hn hd (i+2) 0 ps h1.len (qar _) (by omega);rw[show((0:Nat):Int)=0 from rfl]at e;have hq:ParOk num i (u+1) qs:=by
    rcases h4 with h4 | ⟨h4,h5,j,h6,h7,h8⟩
    ·subst h4;exact⟨h1.len,h1.inc,fun p hp=>Nat.lt_succ_of_lt (h1.lt p hp),h1.mem⟩
    subst h4;refine⟨by simp; omega,?_,?_,?_⟩
    ·rw[List.pairwise_append];exact⟨h1.inc,List.pairwise_singleton _ _,fun a ha b hb=>by rw[qa5.1 hb]; exact h1.lt a ha⟩
    ·intro p hp;rcases qbg.1 hp with hp | hp
     ·exact Nat.lt_succ_of_lt (h1.lt p hp)
     rw[qa5.1 hp]; exact qb7 _
    intro p hp;rcases qbg.1 hp with hp | hp
    ·exact h1.mem p hp
    rw[qa5.1 hp]; exact⟨j,h7,h8⟩
   obtain⟨rs,e2,h9⟩:=zmB (ps8:=ps8) hi hn hc hd n (u+1) qs hq hu (by omega);refine⟨rs,?_,h9⟩;rw[zao,decide_eq_true hu,cond_true,qaF,e,qaa,zal (by omega),e2]
  have:u=c:=by omega
  subst this;exact⟨ps,by rw[zao,decide_eq_false hu,cond_false],h1⟩
theorem zeg{ns:List NN}{v:Nat}(h:v<ns.length):zaK (ns.map nd) (v:Int)=some (nd ns[v]):=by
 rw[zaB (by simpa using h)]; simp
theorem zfH{ns:List NN}{v:Nat}{x:NN}(h:v<ns.length):zgm (ns.map nd) (v:Int) (nd x)=some ((ns.set v x).map nd):=by
 rw[zgH (by simpa using h)]; simp
theorem zs7{num:List Nat}{ps8:Int}{i:Nat}{ns:List NN}{v:Nat}(hi:i≤num.length)(hn:num.length≤5)(hl:ns.length≤5)(hd:num.Nodup)(hv:v<ns.length)(hp:ns[v].ps=[]):
  ∃ qs:List Nat,zlO (iL num) (i:Int) (v:Int) (ns.length:Int) ps8 (ns.map nd)=some ((ns.set v ⟨ns[v].c,qs,ns[v].rows⟩).map nd)∧ParOk num i ns.length qs:=by
 obtain⟨qs,e,h⟩:=zmB (ps8:=ps8) hi hn hl hd (ns.length+2) 0 [] ⟨by simp,by simp,by simp,by simp⟩ (qar _) (by omega);refine⟨qs,?_,h⟩;unfold zlO;rw[show((0:Nat):Int)=0 from rfl,show iL []=[]from rfl]at e;rw[zeg hv,qaa,show(nd ns[v]).parents.isEmpty=true by simp[nd,hp,iL],cond_true,qaF,e,qaa];exact zfH (x:=⟨ns[v].c,qs,ns[v].rows⟩) hv
structure RowsOk (g c m:Nat) (rows:List (List Nat)):Prop where
 len:rows.length=m
 row:∀ r∈rows,r.length=c∧r.sum=g
theorem zg4{ns:List NN}{v:Nat}{x:NN}(hv:v<ns.length)(hx:x.c=ns[v].c):(ns.set v x).map (·.c)=ns.map (·.c):=by
 rw[qcw,hx];apply List.ext_getElem (by simp);intro i h1 h2;rw[List.getElem_set];split
 ·subst_vars; simp
 rfl
def zdt(ns:List NN)(ps:List Nat):List Nat:=ps.map fun p=>(ns.map (·.c)).getD p 0
theorem zpQ{xs:List Nat}{p:Nat}:(iL xs).getD p 0=((xs.getD p 0:Nat):Int):=by
 simp only[iL,qbJ,qbc];cases xs[p]?<;>rfl
theorem zwD{g:Int}{ns:List NN}{v:Nat}(hl:ns.length≤8)(hv:v<ns.length)(hp:Pl ns.length ns[v].ps)(h8:ns[v].ps.length≤8):
  zaI ⟨g,ns.map nd⟩ (v:Int)=some (iL (zdt ns ns[v].ps)):=by
 unfold zaI;rw[zeg hv,qaa,zm4 (by simpa using hl),qaa];have hc:(ns.map nd).map (·.card)=iL (ns.map (·.c)):=by simp[iL,nd,qa4]
 simp only[];rw[hc,show(nd ns[v]).parents=iL ns[v].ps from rfl,zuc (by rw[zap,qaD]; exact hp) h8,qaa];congr 1
 simp only[zpQ];simp only[zdt,iL,qcM,qa4]
theorem zm7{g:Nat}{W:List Nat}{ns:List NN}{v m:Nat}(hg:g≤60)(hl:ns.length≤8)(hv:v<ns.length)(hp:Pl ns.length ns[v].ps)(h8:ns[v].ps.length≤8)(hc1:1≤ns[v].c)(hc4:ns[v].c≤4)
  (hs:∀ x∈zdt ns ns[v].ps,1≤x) (hm:zaM (zdt ns ns[v].ps)=m) (hm2:m≤1024):∀(n r:Nat) (rows:List (List Nat)),RowsOk g ns[v].c r rows→r≤m→m - r<n →
  ∃ rows',RowsOk g ns[v].c m rows'∧zn2 (g:Int) (v:Int) (iL W) (ns.map nd) (nd ns[v]) n (r:Int) (rows.map iL)=some (rows'.map iL)
 | 0,_,_,_,_,h=>absurd h (qak _)
 | n+1,r,rows,h1,h2,h3=>by
  unfold zn2;have hx:(⟨(nd ns[v]).card,(nd ns[v]).parents,rows.map iL⟩:S_api_Node)=nd ⟨ns[v].c,ns[v].ps,rows⟩:=rfl;have hpc:zaI ⟨g,(ns.set v ⟨ns[v].c,ns[v].ps,rows⟩).map nd⟩ (v:Int)=some (iL (zdt ns ns[v].ps)):=by
   rw[zwD (by simpa using hl) (by simpa using hv) (by simpa using hp) (by simpa using h8)];unfold zdt;rw[zg4 (x:=⟨ns[v].c,ns[v].ps,rows⟩) hv rfl];simp
  rw[hx,zfH hv,qaa,hpc,qaa,zpf hs (by simpa [zdt]using h8) (by omega),qaa,hm];by_cases hr:r<m
  ·have hmul:r * (ns[v].c+1)≤1024 * 5:=qb8 (by omega) (by omega);obtain⟨zs,e1,e2,e3⟩:=zs1 (ws:=W) (g:=g) (p:=r * (ns[v].c+1)) (c:=ns[v].c) hg (by omega) hc1 (by omega)
   obtain⟨rows',e4,e5⟩:=zm7 hg hl hv hp h8 hc1 hc4 hs hm hm2 (W:=W) n (r+1) (rows ++ [zs]) ⟨by simp[h1.len],by
    intro y hy;rcases qbg.1 hy with hy | hy
    ·exact h1.row y hy
    rw[qa5.1 hy]; exact⟨e1,e2⟩⟩ hr (by omega)
   refine⟨rows',e4,?_⟩;have hcard:(nd ns[v]).card=((ns[v].c:Nat):Int):=rfl;have hlen:=h1.len;rw[zao,decide_eq_true hr,cond_true,hcard,zal (by omega),← qbv,za0 (by omega),e3,qaa,zdT (by simp; omega),qaa,zal (by omega),← e5];simp
  have:r=m:=by omega
  subst this;exact⟨rows,h1,by rw[zao,decide_eq_false hr,cond_false]⟩
theorem ztR{g N:Nat}{W:List Nat}{ns:List NN}{v:Nat}(hg:g≤60)(hl:ns.length≤8)(hv:v<ns.length)(hp:Pl ns.length ns[v].ps)(h8:ns[v].ps.length≤8)(hc1:1≤ns[v].c)(hc4:ns[v].c≤4)
  (hs:∀ x∈zdt ns ns[v].ps,1≤x) (hm2:zaM (zdt ns ns[v].ps)≤1024) (hr:ns[v].rows=[]) (hN:1025≤N):
  ∃ rows,RowsOk g ns[v].c (zaM (zdt ns ns[v].ps)) rows∧zl0 N (g:Int) (v:Int) (iL W) (ns.map nd)=some ((ns.set v ⟨ns[v].c,ns[v].ps,rows⟩).map nd):=by
 obtain⟨rows,e1,e2⟩:=zm7 hg hl hv hp h8 hc1 hc4 hs rfl hm2 (W:=W) N 0 [] ⟨rfl,by simp⟩ (qar _) (by omega);refine⟨rows,e1,?_⟩;unfold zl0;rw[show((0:Nat):Int)=0 from rfl,show([]:List (List Nat)).map iL=[]from rfl]at e2;rw[zeg hv,qaa,show(nd ns[v]).rows.isEmpty=true by simp[nd,hr],cond_true,e2,qaa];exact zfH (x:=⟨ns[v].c,ns[v].ps,rows⟩) hv
structure NodeOk (num:List Nat) (g:Nat) (cs:List Nat) (j:Nat) (x:NN):Prop where
 par:ParOk num j cs.length x.ps
 rows:RowsOk g x.c (zaM (x.ps.map fun p=>cs.getD p 0)) x.rows
structure NetOk (num:List Nat) (g:Nat) (ns:List NN):Prop where
 g1:1≤g
 g2:g≤60
 n1:1≤ns.length
 n2:ns.length≤8
 card:∀ x∈ns,1≤x.c∧x.c≤4
 prod:zaM (ns.map (·.c))≤1024
 perm:PermOk ns.length num
 node:∀(j v:Nat) (x:NN),num[j]? = some v→ns[v]? = some x→NodeOk num g (ns.map (·.c)) j x
structure PieceN where
 card:Nat
 parents:Nat
 w:List Nat
structure DraftN where
 grain:Nat
 nodes:List PieceN
 order:List Nat
def znl(x:PieceN):S_haruspexref05_Piece:=⟨x.card,x.parents,iL x.w⟩
def zcm(d:DraftN):S_haruspexref05_Draft:=⟨d.grain,d.nodes.map znl,iL d.order⟩
structure DraftOk (d:DraftN):Prop where
 grain:d.grain≤255
 card:∀ x∈d.nodes,x.card≤255
 order:∀ x∈d.order,x≤255
def zjL(d:DraftN):Nat:=min (max d.nodes.length 1) 5
theorem zmg(d:DraftN):zcA (zcZ ((zcm d).nodes.length:Int) 1) 5=((zjL d:Nat):Int):=by
 simp only[zcA,zcZ,zjL,zcm,qaD];split<;>split<;>omega
def zj3(xs:List Nat):Nat:=xs.foldr (fun x a=>max 1 x * a) 1
theorem zk2:∀ {xs:List Nat} {i c:Nat},xs[i]? = some 0→1≤c→zj3 (xs.set i c)=zj3 xs * c
 | [],i,c,h,hc=>by simp at h
 | x :: xs,0,c,h,hc=>by
  have:x=0:=by simpa using h
  subst this;simp only[qcy,zj3,qcK];rw[Nat.max_eq_right hc,Nat.max_eq_left (qar _),qcf,qcE]
 | x :: xs,i+1,c,h,hc=>by
  have ih:=zk2 (xs:=xs) (i:=i) (c:=c) (by simpa using h) hc;simp only[qcz,zj3,qcK]at ih ⊢;rw[ih,qck]
theorem zmp:∀ {xs:List Nat},(∀ x∈xs,1≤x)→zj3 xs=zaM xs
 | [],_=>rfl
 | x :: xs,h=>by
  have ih:=zmp (xs:=xs) fun y hy=>h y (qat _ hy)
  have hx:=h x qau;simp only[zj3,zaM,qcK]at ih ⊢;rw[ih,Nat.max_eq_right hx]
theorem zxZ{a v:Nat}(h:a * 2 ^ v<9223372036854775808)(hv:v<64):zhO .i64 (a:Int) (v:Int)=some ((a * 2 ^ v:Nat):Int):=by
 unfold zhO;rw[if_pos (qbn v)];congr 1
 have h1:min (v:Int).toNat IntKind.i64.bits=v:=by
  rw[show IntKind.i64.bits=64 from rfl,qaF]; exact qbC (by omega)
 rw[h1];have h2:(a:Int)* ((2:Int) ^ v)=((a * 2 ^ v:Nat):Int):=by simp
 rw[h2];exact za0 h
structure L1Ok (num:List Nat) (c j a:Nat) (ns:List NN):Prop where
 len:ns.length=c
 bare:∀ x∈ns,x.ps=[]∧x.rows=[]
 prod:zj3 (ns.map (·.c))=a
 low:a * 2 ^ (c - j)≤100
 done:∀(k v:Nat),k<j→num[k]? = some v→∃ x,ns[v]? = some x∧2≤x.c∧x.c≤3
 left:∀(k v:Nat),j≤k→num[k]? = some v→∃ x,ns[v]? = some x∧x.c=0
theorem zjR{d:DraftN}(hd:DraftOk d){j:Nat}:∃(card parents:Nat) (w:List Nat),card≤255 ∧
  ((bif (decide ((j:Int)<((zcm d).nodes.length:Int)))then(
(zaK (zcm d).nodes (j:Int)).bind fun x9=>
some (x9.card,x9.parents,x9.w))
else(
some (0,0,[])):Option ((Int×Int×(List Int)))))=some ((card:Int),(parents:Int),iL w):=by
 have hl:(zcm d).nodes.length=d.nodes.length:=by simp[zcm]
 by_cases hj:j<d.nodes.length
 ·refine⟨d.nodes[j].card,d.nodes[j].parents,d.nodes[j].w,hd.card _ (qap hj),?_⟩;rw[hl,zao,decide_eq_true hj,cond_true,zaB (by rw[hl]; exact hj),qaa];simp[zcm,znl]
 refine⟨0,0,[],by omega,?_⟩;rw[hl,zao,decide_eq_false hj,cond_false];rfl
theorem zsK{d:DraftN}(hd:DraftOk d){num:List Nat}{c:Nat}(hc:zjL d=c)(hp:PermOk c num):∀(n j a:Nat) (ns:List NN),L1Ok num c j a ns→j≤c→c - j<n →
  ∃(ns':List NN) (a':Nat),L1Ok num c c a' ns'∧zbg (zcm d) (iL num) n (a:Int) (j:Int) (ns.map nd)=some (ns'.map nd)
 | 0,_,_,_,_,_,h=>absurd h (qak _)
 | n+1,j,a,ns,h1,h2,h3=>by
  have hc5:c≤5:=by rw[← hc]; exact qcq _ _
  unfold zbg;rw[zmg,hc];by_cases hj:j<c
  ·rw[zao,decide_eq_true hj,cond_true];obtain⟨card,parents,w,hcard,e⟩:=zjR hd (j:=j);rw[e,qaa];simp only[];have hjn:j<num.length:=by rw[hp.len]; exact hj
   have hv:num[j]<ns.length:=by rw[h1.len]; exact hp.lt _ (qap hjn)
   obtain⟨x0,hx0,hx00⟩:=h1.left j num[j] (qal _) (qae hjn);have hx1:ns[num[j]]=x0:=by rw[qae hv]at hx0; exact qab hx0
   have hbare:=h1.bare _ (qap hv);have hpow:1≤2 ^ (c - 1 - j):=Nat.one_le_two_pow;have hsplit:2 ^ (c - j)=2 * 2 ^ (c - 1 - j):=by rw[show c - j=(c - 1 - j)+1 by omega,Nat.pow_succ,qcE]
   have hlow:=h1.low;have hle:a * 2 ^ (c - 1 - j)≤100:=qay (Nat.mul_le_mul_left a (by omega)) hlow;have ha:a≤100:=qay (qbe a hpow) hle;have step:∀ b:Nat,2≤b→b≤3→a * b * 2 ^ (c - 1 - j)≤100→∃(ns':List NN) (a':Nat),L1Ok num c c a' ns' ∧
     ((zaK (iL num) (j:Int)).bind fun x14=>(zaK (ns.map nd) x14).bind fun x16=>(zgm (ns.map nd) x14 (S_api_Node.mk (b:Int) x16.parents x16.rows)).bind fun y18=>
      zbg (zcm d) (iL num) n (w64 ((a:Int)* (b:Int))) (w64 ((j:Int)+1)) y18)=some (ns'.map nd):=by
    intro b hb1 hb2 hb3;have hab:a * b≤100:=qay (qbe _ hpow) hb3
    obtain⟨ns',a',f1,f2⟩:=zsK hd hc hp n (j+1) (a * b) (ns.set num[j] ⟨b,ns[num[j]].ps,ns[num[j]].rows⟩) {
     len:=by simpa using h1.len
     bare:=fun y hy=>by
      rcases qbj hy with hy | hy
      ·exact h1.bare y hy
      subst hy; exact hbare
     prod:=by
      rw[qcw,zk2 (c:=b) (by rw[qbc,qae hv,hx1]; simp[hx00]) (by omega),h1.prod]
     low:=by rw[show c - (j+1)=c - 1 - j by omega]; exact hb3
     done:=fun k v hk hkv=>by
      by_cases hkj:k=j
      ·subst hkj;rw[qae hjn]at hkv;have:=qab hkv;subst this;exact⟨_,qaw hv,hb1,hb2⟩
      obtain⟨x,g1,g2⟩:=h1.done k v (by omega) hkv;refine⟨x,?_,g2⟩;rw[qam,g1];intro hh;have hk':=(qac.1 hkv);have hkl:k<num.length:=hk'.1;exact qaY.1 hp.nod k j hkl hjn (by omega) (by rw[hk'.2]; exact hh.symm)
     left:=fun k v hk hkv=>by
      obtain⟨x,g1,g2⟩:=h1.left k v (by omega) hkv;refine⟨x,?_,g2⟩;rw[qam,g1];intro hh;have hk':=(qac.1 hkv);have hkl:k<num.length:=hk'.1
      exact qaY.1 hp.nod j k hjn hkl (by omega) (by rw[hk'.2]; exact hh) } hj (by omega)
    refine⟨ns',a',f1,?_⟩
    rw[zbY hjn,qaa,zeg hv,qaa,show S_api_Node.mk (b:Int) (nd ns[num[j]]).parents (nd ns[num[j]]).rows=nd ⟨b,ns[num[j]].ps,ns[num[j]].rows⟩from rfl,
     zfH hv,qaa,← qbv,za0 (by omega),zal (by omega),f2]
   have hw1:w64 (2+w64 ((card:Int).tmod 2))=((2+card % 2:Nat):Int):=by
    rw[show((card:Int).tmod 2)=((card % 2:Nat):Int)from rfl,za0 (by omega),show(2:Int)+((card % 2:Nat):Int)=((2+card % 2:Nat):Int) by omega,za0 (by omega)]
   have hac:a * (2+card % 2)≤100 * 3:=qb8 ha (by omega);have hbig:a * (2+card % 2)* 2 ^ (c - 1 - j)≤300 * 2 ^ 4:=qb8 hac (qa1 (by decide) (by omega));have hcc:w64 (((c:Nat):Int) - 1)=((c - 1:Nat):Int):=by rw[show((c:Nat):Int) - 1=((c - 1:Nat):Int) by omega,za0 (by omega)]
   have hcj:w64 (((c - 1:Nat):Int) - (j:Int))=((c - 1 - j:Nat):Int):=by rw[show((c - 1:Nat):Int) - (j:Int)=((c - 1 - j:Nat):Int) by omega,za0 (by omega)]
   rw[hw1,hcc,hcj,zet (by omega),← qbv,za0 (by omega),zxZ (by omega) (by omega),qaa];by_cases hbg:100<a * (2+card % 2)* 2 ^ (c - 1 - j)
   ·obtain⟨ns',a',f1,f2⟩:=step 2 (by omega) (by omega) (by rw[qck,← hsplit]; exact hlow);refine⟨ns',a',f1,?_⟩;rw[show decide ((100:Int)<((a * (2+card % 2)* 2 ^ (c - 1 - j):Nat):Int))=true from decide_eq_true (by omega),cond_true,qaa];exact f2
   obtain⟨ns',a',f1,f2⟩:=step (2+card % 2) (by omega) (by omega) (by omega);refine⟨ns',a',f1,?_⟩;rw[show decide ((100:Int)<((a * (2+card % 2)* 2 ^ (c - 1 - j):Nat):Int))=false from decide_eq_false (by omega),cond_false,qaa];exact f2
  have:j=c:=by omega
  subst this;exact⟨ns,a,h1,by rw[zao,decide_eq_false hj,cond_false]⟩
structure L2Ok (num:List Nat) (g c:Nat) (cs:List Nat) (i:Nat) (ns:List NN):Prop where
 len:ns.length=c
 cards:ns.map (·.c)=cs
 done:∀(k v:Nat) (x:NN),k<i→num[k]? = some v→ns[v]? = some x→NodeOk num g cs k x
 left:∀(k v:Nat) (x:NN),i≤k→num[k]? = some v→ns[v]? = some x→x.ps=[]∧x.rows=[]
theorem zf9{m:Nat}(hm:1≤m):∀ {xs:List Nat},(∀ x∈xs,x≤m)→zaM xs≤m ^ xs.length
 | [],_=>qal 1
 | x :: xs,h=>by
  have ih:=zf9 hm (xs:=xs) fun y hy=>h y (qat _ hy)
  rw[qaN,Nat.pow_succ,qcE];exact qb8 (h x qau) ih
theorem zop{xs:List Nat}(h:xs.Nodup){i j v w:Nat}(hi:xs[i]? = some v)(hj:xs[j]? = some w)(hne:i≠j):v≠w:=by
 obtain⟨h1,h2⟩:=qac.1 hi;obtain⟨h3,h4⟩:=qac.1 hj;intro he;rcases Nat.lt_or_gt_of_ne hne with hlt | hlt
 ·exact qaY.1 h i j h1 h3 hlt (by rw[h2,h4,he])
 exact qaY.1 h j i h3 h1 hlt (by rw[h2,h4,he])
theorem zr2{d:DraftN}(hd:DraftOk d){num:List Nat}{c N:Nat}{cs:List Nat}(hc:zjL d=c)(hp:PermOk c num)(hs:∀ x∈cs,1≤x∧x≤3)(hN:1025≤N):∀(n i:Nat) (ns:List NN),L2Ok num (1+d.grain % 60) c cs i ns→i≤c→c - i<n →
  ∃ ns':List NN,L2Ok num (1+d.grain % 60) c cs c ns'∧zbB N (zcm d) (iL num) n (i:Int) (ns.map nd)=some (ns'.map nd)
 | 0,_,_,_,_,h=>absurd h (qak _)
 | n+1,i,ns,h1,h2,h3=>by
  have hc5:c≤5:=by rw[← hc]; exact qcq _ _
  unfold zbB;rw[zmg,hc];by_cases hi:i<c
  ·rw[zao,decide_eq_true hi,cond_true];obtain⟨card,parents,w,hcard,e⟩:=zjR hd (j:=i);rw[e,qaa];simp only[];have hin:i<num.length:=by rw[hp.len]; exact hi
   have hget:num[i]? = some num[i]:=qae hin;have hlen:=h1.len;have hcl:cs.length=c:=by rw[← h1.cards,qaD,h1.len]
   have hv:num[i]<ns.length:=by rw[h1.len]; exact hp.lt _ (qap hin)
   obtain⟨b1,b2⟩:=h1.left i num[i] ns[num[i]] (qal _) hget (qae hv);obtain⟨qs,e2,hq⟩:=zs7 (num:=num) (ps8:=(parents:Int)) (i:=i) (ns:=ns) (v:=num[i]) (by omega) (by rw[hp.len]; omega) (by omega) hp.nod hv b1;rw[h1.len]at e2 hq;have hg:w64 (1+w64 ((zcm d).grain.tmod 60))=((1+d.grain % 60:Nat):Int):=by
    rw[show((zcm d).grain.tmod 60)=((d.grain % 60:Nat):Int)from rfl,za0 (by omega),show(1:Int)+((d.grain % 60:Nat):Int)=((1+d.grain % 60:Nat):Int) by omega,za0 (by omega)]
   have hset:(ns.set num[i] ⟨ns[num[i]].c,qs,ns[num[i]].rows⟩)[num[i]]'(by simpa using hv)=⟨ns[num[i]].c,qs,ns[num[i]].rows⟩:=by simp
   have hcs1:(ns.set num[i] ⟨ns[num[i]].c,qs,ns[num[i]].rows⟩).map (·.c)=cs:=by rw[zg4 (x:=⟨ns[num[i]].c,qs,ns[num[i]].rows⟩) hv rfl,h1.cards]
   have hcv:1≤ns[num[i]].c∧ns[num[i]].c≤3:=hs _ (by rw[← h1.cards]; exact qaz.2 ⟨_,qap hv,rfl⟩);have hco:zdt (ns.set num[i] ⟨ns[num[i]].c,qs,ns[num[i]].rows⟩) qs=qs.map fun p=>cs.getD p 0:=by unfold zdt; rw[hcs1]
   have hqs:∀ x∈(qs.map fun p=>cs.getD p 0),1≤x∧x≤3:=by
    intro x hx;obtain⟨p,hpq,rfl⟩:=qaz.1 hx;have hpl:p<cs.length:=by rw[hcl]; exact hq.lt p hpq
    refine hs _ ?_;simp[hpl]
   have hprod:zaM (qs.map fun p=>cs.getD p 0)≤3 ^ 3:=by
    refine qay (zf9 (m:=3) (by omega) fun x hx=>(hqs x hx).2) ?_;rw[qaD];exact qa1 (by decide) hq.len
   obtain⟨rows,r1,r2⟩:=ztR (g:=1+d.grain % 60) (N:=N) (W:=w) (ns:=ns.set num[i] ⟨ns[num[i]].c,qs,ns[num[i]].rows⟩) (v:=num[i]) (by omega) (by simp; omega) (by simpa using hv)
    (by rw[hset]; intro p hpq; rw[qan,h1.len]; exact hq.lt p hpq) (by rw[hset]; have:=hq.len; simp; omega) (by rw[hset]; exact hcv.1) (by rw[hset]; have:=hcv.2; simp; omega)
    (by rw[hset,hco]; exact fun x hx=>(hqs x hx).1) (by rw[hset,hco]; exact qay hprod (by decide)) (by rw[hset]; exact b2) hN
   simp only[hset,hco,qbA]at r1 r2
   obtain⟨ns',f1,f2⟩:=zr2 hd hc hp hs hN n (i+1) (ns.set num[i] ⟨ns[num[i]].c,qs,rows⟩) {
    len:=by simpa using h1.len
    cards:=by rw[zg4 (x:=⟨ns[num[i]].c,qs,rows⟩) hv rfl,h1.cards]
    done:=fun k v x hk hkv hx=>by
     by_cases hki:k=i
     ·subst hki;rw[hget]at hkv;have:=qab hkv;subst this;rw[qaw hv]at hx;have:=qab hx;subst this;exact⟨by rw[hcl]; exact hq,r1⟩
     rw[qam (zop hp.nod hget hkv (by omega))]at hx;exact h1.done k v x (by omega) hkv hx
    left:=fun k v x hk hkv hx=>by
     rw[qam (zop hp.nod hget hkv (by omega))]at hx
     exact h1.left k v x (by omega) hkv hx } hi (by omega)
   refine⟨ns',f1,?_⟩;rw[zbY hin,qaa,e2,qaa,hg,r2,qaa,zal (by omega),f2]
  have:i=c:=by omega
  subst this;exact⟨ns,h1,by rw[zao,decide_eq_false hi,cond_false]⟩
theorem zrA{d:DraftN}(hd:DraftOk d){N:Nat}(hN:1025≤N):
  ∃(num:List Nat) (ns:List NN),NetOk num (1+d.grain % 60) ns∧ns.length≤5∧zbH N (zcm d)=some ⟨((1+d.grain % 60:Nat):Int),ns.map nd⟩:=by
 have hc5:zjL d≤5:=qcq _ _;have hc1:1≤zjL d:=by unfold zjL; omega
 obtain⟨num,hp,e1⟩:=ztp (c:=zjL d) (N:=N) (os:=d.order) (wh:=0) hc5 (by omega) hd.order;have hpl:=hp.len;have h0:∀ v,v<zjL d→(List.replicate (zjL d) (⟨0,[],[]⟩:NN))[v]? = some ⟨0,[],[]⟩:=fun v hv=>by simp[hv]
 obtain⟨ns1,a,h1,e2⟩:=zsK hd rfl hp (zjL d+2) 0 1 (List.replicate (zjL d) ⟨0,[],[]⟩) {
  len:=by simp
  bare:=fun x hx=>by rw[(qbX.1 hx).2]; exact⟨rfl,rfl⟩
  prod:=by
   rw[qca];generalize zjL d=c;induction c with
   | zero=>rfl
   | succ c ih=>rw[qa6]; simp only[zj3,qcK]at ih ⊢; rw[ih]; rfl
  low:=by
   have:2 ^ (zjL d - 0)≤2 ^ 5:=qa1 (by decide) (by omega);omega
  done:=fun k v hk hkv=>absurd hk (qak _)
  left:=fun k v hk hkv=>⟨_,h0 v (hp.lt v (qav hkv)),rfl⟩ } (qar _) (by omega)
 have hcards:∀ x∈ns1,2≤x.c∧x.c≤3:=by
  intro x hx;obtain⟨v,hv⟩:=qbF hx;have hvl:v<zjL d:=by rw[← h1.len]; exact(qac.1 hv).1
  obtain⟨k,hk⟩:=qbF (hp.all v hvl);obtain⟨y,g1,g2⟩:=h1.done k v (by rw[← hpl]; exact(qac.1 hk).1) hk;rw[hv]at g1;have:=qab g1;subst this;exact g2
 have hcs:∀ x∈ns1.map (·.c),1≤x∧x≤3:=by
  intro x hx;obtain⟨y,hy,rfl⟩:=qaz.1 hx;have:=hcards y hy;exact⟨by omega,this.2⟩
 obtain⟨ns2,h2,e3⟩:=zr2 hd rfl hp hcs hN (zjL d+2) 0 ns1 ⟨h1.len,rfl,fun k v x hk=>absurd hk (qak _),fun k v x hk hkv hx=>h1.bare x (qav hx)⟩ (qar _) (by omega);have hl2:=h2.len;have hlow:=h1.low;refine⟨num,ns2,⟨by omega,by omega,by omega,by omega,?_,?_,by rw[h2.len]; exact hp,?_⟩,by omega,?_⟩
 ·intro x hx;have:=hcs x.c (by rw[← h2.cards]; exact qaz.2 ⟨x,hx,rfl⟩);omega
 ·rw[h2.cards,← zmp fun x hx=>(hcs x hx).1,h1.prod];rw[qbZ,Nat.pow_zero]at hlow;omega
 ·intro j v x hj hx;rw[h2.cards];exact h2.done j v x (by rw[← hpl]; exact(qac.1 hj).1) hj hx
 have hg:w64 (1+w64 ((zcm d).grain.tmod 60))=((1+d.grain % 60:Nat):Int):=by
  rw[show((zcm d).grain.tmod 60)=((d.grain % 60:Nat):Int)from rfl,za0 (by omega),show(1:Int)+((d.grain % 60:Nat):Int)=((1+d.grain % 60:Nat):Int) by omega,za0 (by omega)]
 have hz:List.replicate (zjL d) (S_api_Node.mk 0 [] [])=(List.replicate (zjL d) (⟨0,[],[]⟩:NN)).map nd:=by rw[qca]; rfl
 have e2':=e2;have e3':=e3;rw[show((0:Nat):Int)=0 from rfl]at e2' e3';rw[show((1:Nat):Int)=1 from rfl]at e2';unfold zbH;rw[zmg,zeV (by omega),qaa,zeV (by omega),qaa,show(zcm d).order=iL d.order from rfl,e1,qaa,zau,hz,e2',qaa,e3',qaa,hg]
def zbb(xs:List Nat):Nat:=xs.foldl (fun m p=>m ||| 2 ^ p) 0
theorem zju(xs:List Nat)(p:Nat):zbb (xs ++ [p])=zbb xs ||| 2 ^ p:=by simp[zbb]
theorem zkR:∀(xs:List Nat) (m i:Nat),(xs.foldl (fun m p=>m ||| 2 ^ p) m).testBit i=(m.testBit i || decide (i∈xs))
 | [],m,i=>by simp
 | x :: xs,m,i=>by
  rw[qbU,zkR xs,qbl,qbp,Bool.or_assoc];congr 1
  by_cases h:x=i
  ·simp[h]
  simp[h,show ¬ i=x from fun q=>h q.symm]
theorem zcU(xs:List Nat)(i:Nat):(zbb xs).testBit i=decide (i∈xs):=by
 unfold zbb; rw[zkR]; simp
theorem zmQ:∀(xs:List Nat) (m:Nat),m<18446744073709551616→(∀ x∈xs,x<64)→xs.foldl (fun m p=>m ||| 2 ^ p) m<18446744073709551616
 | [],m,h,_=>h
 | x :: xs,m,h,hx=>zmQ xs _ (qbd (n:=64) h (qaW (by decide) (hx x qau))) fun y hy=>hx y (qat _ hy)
theorem zcu{xs:List Nat}(h:∀ x∈xs,x<64):zbb xs<18446744073709551616:=zmQ xs 0 (by decide) h
def Sub(a b:Nat):Prop:=∀ i,a.testBit i=true→b.testBit i=true
theorem zkF{a b:Nat}(ha:a<18446744073709551616)(hb:b<18446744073709551616):diff a b=0↔Sub a b:=by
 constructor
 ·intro h i hi;have:=zgI (i:=i) ha hb;rw[h,hi]at this;simpa using this
 intro h;apply qbG;intro i;rw[zgI ha hb,Nat.zero_testBit];cases hi:a.testBit i with
 | false=>rfl
 | true=>rw[h i hi]; rfl
theorem zho{cs ps:List Nat}{nodes:S_api_Net}{sets order:List Int}{x:S_api_Node}(hx:x.parents=iL ps)(hp:Pl cs.length ps)(hl:ps.length≤8)(hc:∀ p∈ps,1≤cs.getD p 0):∀(n i a:Nat),i≤ps.length →
  a * zaM ((ps.drop i).map fun p=>cs.getD p 0)≤65536→ps.length - i<n →
  zaV x ⟨nodes,iL cs,sets,order⟩ n (a:Int) (i:Int)=some ((a * zaM ((ps.drop i).map fun p=>cs.getD p 0):Nat):Int)
 | 0,_,_,_,_,h=>absurd h (qak _)
 | n+1,i,a,h1,h2,h3=>by
  unfold zaV;rw[hx,zap];by_cases hi:i<ps.length
  ·have e2:a * zaM ((ps.drop i).map fun p=>cs.getD p 0)=a * cs.getD ps[i] 0 * zaM ((ps.drop (i+1)).map fun p=>cs.getD p 0):=by
    rw[qas hi]; exact(qck _ _ _).symm
   rw[e2]at h2;have hb:ps[i]<cs.length:=hp _ (qap hi);have hq:1≤zaM ((ps.drop (i+1)).map fun p=>cs.getD p 0):=zhF fun x hx=>by
    obtain⟨p,hp1,rfl⟩:=qaz.1 hx;exact hc p (qcn hp1)
   have hle:a * cs.getD ps[i] 0≤65536:=qay (qbe _ hq) h2;have he:cs[ps[i]]=cs.getD ps[i] 0:=by simp[hb]
   rw[zao,decide_eq_true hi,cond_true,zbY hi,qaa,zbY hb,qaa,he,← qbv,za0 (by omega),zal (by omega),
    zho hx hp hl hc n (i+1) _ hi h2 (by omega),e2]
  rw[zao,decide_eq_false hi,cond_false,qaO (by omega)];simp[zaM]
theorem zlc{y:Int×List Int}{zs:List Nat}(hy:y.2=iL zs)(hl:zs.length≤8):∀(n i r:Nat),i≤zs.length→(zs.drop i).sum≤r→r≤65536→zs.length - i<n →
  zaw y n (r:Int) (i:Int)=some (.go ((r - (zs.drop i).sum:Nat):Int))
 | 0,_,_,_,_,_,h=>absurd h (qak _)
 | n+1,i,r,h1,h2,hr,h3=>by
  unfold zaw;rw[hy,zap];by_cases hi:i<zs.length
  ·have e:(zs.drop i).sum=zs[i]+(zs.drop (i+1)).sum:=by rw[qas hi,qbL]
   rw[e]at h2
   rw[zao,decide_eq_true hi,cond_true,zbY hi,qaa,show decide (((zs[i]:Nat):Int)<0)=false from decide_eq_false (by omega),cond_false,qaa,
    show decide ((r:Int)<((zs[i]:Nat):Int))=false from decide_eq_false (by omega),cond_false,show((r:Int) - ((zs[i]:Nat):Int))=((r - zs[i]:Nat):Int) by omega,za0 (by omega),zal (by omega),
    zlc hy hl n (i+1) _ hi (by omega) (by omega) (by omega),e,Nat.sub_sub]
  rw[zao,decide_eq_false hi,cond_false,qaO (by omega)];simp
theorem zkQ{g c:Nat}{nw:S_net_network}{x:S_api_Node}(hg:nw.net.grain=(g:Int))(hg2:g≤60)(hc:x.card=(c:Int))(hc8:c≤8):∀(L:List (Int×List Int)),(∀ y∈L,∃ zs:List Nat,y.2=iL zs∧zs.length=c∧zs.sum=g)→
  zav nw x L=some (.go ())
 | [],_=>rfl
 | y :: L,h=>by
  obtain⟨zs,h1,h2,h3⟩:=h y qau;unfold zav;have e:=zlc h1 (by omega) (zs.length+2) 0 g (qar _) (by rw[qa9]; omega) (by omega) (by omega);rw[qa9,h3,qbZ,show((0:Nat):Int)=0 from rfl]at e;rw[hg,h1,zap,zau,e,qaa];simp only[];rw[hc,h2,show((c:Int)==(c:Int))=true by simp,cond_true,qaa,show(!((0:Int)== 0))=false from rfl,cond_false];exact zkQ hg hg2 hc hc8 L fun y hy=>h y (qat _ hy)
theorem zp9{g:Nat}{cs:List Nat}{nodes:List S_api_Node}{sets order:List Int}{x:NN}(hg2:g≤60)(hp:Pl cs.length x.ps)(hl:x.ps.length≤8)(hc:∀ p∈x.ps,1≤cs.getD p 0)(hc8:x.c≤8)
  (hm:zaM (x.ps.map fun p=>cs.getD p 0)≤65536) (hr:RowsOk g x.c (zaM (x.ps.map fun p=>cs.getD p 0)) x.rows):zaF ⟨⟨(g:Int),nodes⟩,iL cs,sets,order⟩ (nd x)=some true:=by
 unfold zaF;have e:=zho (x:=nd x) (nodes:=⟨(g:Int),nodes⟩) (sets:=sets) (order:=order) rfl hp hl hc (x.ps.length+2) 0 1 (qar _) (by simpa using hm) (by omega);rw[show((0:Nat):Int)=0 from rfl,show((1:Nat):Int)=1 from rfl,qa9,qcf]at e;have hrl:(nd x).rows.length=x.rows.length:=by simp[nd]
 rw[show(nd x).parents=iL x.ps from rfl,zap,zau,e,qaa,hrl,hr.len,show(((zaM (x.ps.map fun p=>cs.getD p 0):Nat):Int)==((zaM (x.ps.map fun p=>cs.getD p 0):Nat):Int))=true by simp,cond_true];unfold zfb;rw[qaa];have hs:zgx (nd x).rows=some ():=by
  unfold zgx;rw[if_pos (by rw[hrl,hr.len]; omega)]
 rw[hs,qaa,zkQ (g:=g) (c:=x.c) rfl hg2 rfl hc8,qaa];intro y hy;unfold zqn at hy;obtain⟨q,hq,rfl⟩:=qaz.1 hy;have hq1:q.1∈(nd x).rows:=by
  have:=List.mem_zipIdx' hq;rw[this.2]; exact qap _
 obtain⟨zs,hz,hz2⟩:=qaz.1 hq1;exact⟨zs,hz2.symm,hr.row zs hz⟩
def zcp(g:Nat)(ns:List NN):S_api_Net:=⟨(g:Int),ns.map nd⟩
theorem zpm{g P:Nat}{ns:List NN}(hn:ns.length≤8)(hc:∀ x∈ns,1≤x.c∧x.c≤4)(hP:P≤65536):∀(n:Nat) (xs ys:List NN) (a:Nat),xs ++ ys=ns→a * zaM (ys.map (·.c))=P→ys.length<n →
  zbr (zcp g ns) n (a:Int) (xs.length:Int) (iL (xs.map (·.c)++ List.replicate ys.length 0))=some (.go ((P:Int),iL (ns.map (·.c))))
 | 0,_,_,_,_,_,h=>absurd h (qak _)
 | n+1,xs,[],a,h1,h2,h3=>by
  unfold zbr;rw[qaS]at h1;subst h1;have:a=P:=by rw[← h2]; simp[zaM]
  subst this;rw[show(zcp g xs).nodes.length=xs.length by simp[zcp],zao,decide_eq_false (by omega),cond_false];simp
 | n+1,xs,y :: ys,a,h1,h2,h3=>by
  unfold zbr;have hl:(zcp g ns).nodes.length=ns.length:=by simp[zcp]
  have hxn:xs.length<ns.length:=by rw[← h1]; simp
  have hy:ns[xs.length]=y:=by subst h1; simp
  have hyc:=hc y (by rw[← h1]; simp);have e2:a * y.c * zaM (ys.map (·.c))=P:=by rw[← h2]; exact qck _ _ _
  have hq:1≤zaM (ys.map (·.c)):=zhF fun c hcm=>by
   obtain⟨z,hz,rfl⟩:=qaz.1 hcm;exact(hc z (by rw[← h1]; simp[hz])).1
  have hle:a * y.c≤P:=by rw[← e2]; exact qbe _ hq
  have ih:=zpm hn hc hP (g:=g) n (xs ++ [y]) ys (a * y.c) (by rw[← h1]; simp) e2 (by simp at h3; omega)
  rw[hl,zao,decide_eq_true hxn,cond_true,show zaK (zcp g ns).nodes (xs.length:Int)=some (nd y) by rw[← hy]; exact zeg hxn,qaa,
   show(nd y).card=(y.c:Int)from rfl,show decide ((y.c:Int)<1)=false from decide_eq_false (by omega),cond_false,qaa,show decide ((4:Int)<(y.c:Int))=false from decide_eq_false (by omega),cond_false]
  have hxl:((xs.length:Nat):Int)=(((xs.map (·.c)).length:Nat):Int):=by simp
  rw[qaN,qa6,hxl,zde,qaa,zfg,qaa,← qbv,za0 (by omega),zal (by simp; omega),← ih];simp
theorem zpG{g v:Nat}{ns:List NN}{x:S_api_Node}{ps xs ys:List Nat}(hx:x.parents=iL ps)(hn:ns.length≤8)(hv:xs.length=v)(hp:∀ p∈ps,p<ns.length∧p≠v)(hinc:ps.Pairwise (· < ·)):∀(n i:Nat) (m:Nat) (lo:Int),i≤ps.length→m<18446744073709551616 →
  (∀ p∈ps.drop i,lo<(p:Int))→ps.length - i<n →
  zbN x (zcp g ns) (v:Int) n lo (i:Int) (iL (xs ++ m :: ys))=some (.go (iL (xs ++ ((ps.drop i).foldl (fun m p=>m ||| 2 ^ p) m):: ys)))
 | 0,_,_,_,_,_,_,h=>absurd h (qak _)
 | n+1,i,m,lo,h1,h2,h4,h3=>by
  have hps:ps.length≤9223372036854775806∨True:=.inr trivial;unfold zbN;have hl:(zcp g ns).nodes.length=ns.length:=by simp[zcp]
  rw[hx,zap,hl];by_cases hi:i<ps.length
  ·have hd:ps.drop i=ps[i]:: ps.drop (i+1):=qas hi;obtain⟨hp1,hp2⟩:=hp _ (qap hi);have hlo:=h4 ps[i] (by rw[hd]; exact qau);have hsm:i≤ps[i]:=by
    have:∀(j:Nat) (hj:j<ps.length),j≤ps[j]:=by
     intro j;induction j with
     | zero=>intro hj; exact qar _
     | succ j ih=>
      intro hj;have h6:=ih (by omega);have h7:=qaY.1 hinc j (j+1) (by omega) hj (by omega);omega
    exact this i hi
   have hgt:∀ p∈ps.drop (i+1),((ps[i]:Nat):Int)<(p:Int):=by
    intro p hp;obtain⟨k,hk,rfl⟩:=qbQ.1 hp;rw[List.getElem_drop];have:=qaY.1 hinc i (i+1+k) hi (by simp at hk; omega) (by omega);omega
   have hpw:2 ^ ps[i]<18446744073709551616:=qaW (n:=64) (by decide) (by omega);have hm:m ||| 2 ^ ps[i]<18446744073709551616:=qbd (n:=64) h2 hpw;have ih:=zpG (g:=g) (ys:=ys) hx hn hv hp hinc n (i+1) (m ||| 2 ^ ps[i]) (ps[i]:Int) hi hm hgt (by omega)
   rw[zao,decide_eq_true hi,cond_true,zbY hi,qaa,show decide (((ps[i]:Nat):Int)≤lo)=false from decide_eq_false (by omega),cond_false,
    show decide (((ns.length:Nat):Int)≤((ps[i]:Nat):Int))=false from decide_eq_false (by omega),cond_false,qaa,show(((ps[i]:Nat):Int)==(v:Int))=false by simp; omega,cond_false,
    ← hv,zde,qaa,zn9 (by omega),qaa,orU h2 hpw,zfg,qaa,zal (by omega),hv,ih,hd,qbU]
  rw[zao,decide_eq_false hi,cond_false,qaO (by omega)];rfl
structure RightN (g:Nat) (ns:List NN):Prop where
 g1:1≤g
 g2:g≤60
 n1:1≤ns.length
 n2:ns.length≤8
 card:∀ x∈ns,1≤x.c∧x.c≤4
 prod:zaM (ns.map (·.c))≤1024
 inc:∀ x∈ns,x.ps.Pairwise (· < ·)
 lt:∀ x∈ns,∀ p∈x.ps,p<ns.length
 rows:∀ x∈ns,RowsOk g x.c (zaM (x.ps.map fun p=>(ns.map (·.c)).getD p 0)) x.rows
 rk:∃ rk:Nat→Nat,(∀ v,rk v≤8)∧∀ v x,ns[v]? = some x→∀ p∈x.ps,rk p<rk v
theorem zjf{n:Nat}{ps:List Nat}(h:ps.Pairwise (· < ·))(hp:∀ p∈ps,p<n):ps.length≤n:=by
 have:∀(j:Nat) (hj:j<ps.length),j≤ps[j]:=by
  intro j;induction j with
  | zero=>intro hj; exact qar _
  | succ j ih=>
   intro hj;have h6:=ih (by omega);have h7:=qaY.1 h j (j+1) (by omega) hj (by omega);omega
 cases hl:ps.length with
 | zero=>exact qar _
 | succ m=>
  have h1:=this m (by omega);have h2:=hp _ (qap (show m<ps.length by omega));omega
theorem RightN.zwZ{g:Nat}{ns:List NN}(h:RightN g ns){x:NN}(hx:x∈ns):x.ps.length≤8:=by
 have:=zjf (h.inc x hx) (h.lt x hx);have:=h.n2;omega
theorem RightN.ne{g:Nat}{ns:List NN}(h:RightN g ns){v:Nat}{x:NN}(hx:ns[v]? = some x):∀ p∈x.ps,p≠v:=by
 obtain⟨rk,_,h2⟩:=h.rk;intro p hp he;subst he;exact Nat.lt_irrefl _ (h2 p x hx p hp)
theorem RightN.zuz{g:Nat}{ns:List NN}(h:RightN g ns){x:NN}(hx:x∈ns):∀ p∈x.ps,1≤(ns.map (·.c)).getD p 0∧(ns.map (·.c)).getD p 0≤4:=by
 intro p hp;have hp1:=h.lt x hx p hp;have:=h.card ns[p] (qap hp1);simpa [hp1]using this
theorem RightN.zw1{g:Nat}{ns:List NN}(h:RightN g ns){x:NN}(hx:x∈ns):zaM (x.ps.map fun p=>(ns.map (·.c)).getD p 0)≤65536:=by
 refine qay (zf9 (m:=4) (by omega) fun y hy=>?_) ?_
 ·obtain⟨p,hp,rfl⟩:=qaz.1 hy;exact(h.zuz hx p hp).2
 rw[qaD];exact qay (qa1 (by decide) (h.zwZ hx)) (by decide)
theorem zoM{g:Nat}{ns:List NN}(h:RightN g ns):∀(n:Nat) (xs ys:List NN),xs ++ ys=ns→ys.length<n →
  zbs (zcp g ns) (iL (ns.map (·.c))) n (xs.length:Int) (iL (xs.map (fun x=>zbb x.ps)++ List.replicate ys.length 0))=some (.go (iL (ns.map fun x=>zbb x.ps)))
 | 0,_,_,_,h=>absurd h (qak _)
 | n+1,xs,[],h1,h3=>by
  unfold zbs;rw[qaS]at h1;subst h1;rw[show(zcp g xs).nodes.length=xs.length by simp[zcp],zao,decide_eq_false (by omega),cond_false];simp
 | n+1,xs,y :: ys,h1,h3=>by
  unfold zbs;have hl:(zcp g ns).nodes.length=ns.length:=by simp[zcp]
  have hxn:xs.length<ns.length:=by rw[← h1]; simp
  have hn:=h.n2;have hy:ns[xs.length]=y:=by subst h1; simp
  have hyg:ns[xs.length]? = some y:=by rw[qae hxn,hy]
  have hym:y∈ns:=qav hyg;have hcl:(ns.map (·.c)).length=ns.length:=by simp
  have hlt:∀ p∈y.ps,p<ns.length∧p≠xs.length:=fun p hp=>⟨h.lt y hym p hp,h.ne hyg p hp⟩
  have hcs:=h.zuz hym;have hpl:=h.zwZ hym;have hprod:=h.zw1 hym;have hyc:=h.card y (by rw[← h1]; simp);have ih:=zoM h n (xs ++ [y]) ys (by rw[← h1]; simp) (by simp at h3; omega);have e3:=zpG (g:=g) (ns:=ns) (x:=nd y) (xs:=xs.map fun x=>zbb x.ps) (ys:=List.replicate ys.length 0) (v:=xs.length) rfl hn (by simp) hlt (h.inc y hym) (y.ps.length+2) 0 0 (-1) (qar _) (by decide) (fun p hp=>by omega) (by omega);rw[show((0:Nat):Int)=0 from rfl,qa9]at e3;have e4:=zp9 (g:=g) (cs:=ns.map (·.c)) (nodes:=ns.map nd) (sets:=iL (xs.map (fun x=>zbb x.ps)++ zbb y.ps :: List.replicate ys.length 0)) (order:=[]) (x:=y) h.g2 (by rw[hcl]; exact fun p hp=>(hlt p hp).1) (by omega) (fun p hp=>(hcs p hp).1) (by omega) hprod (h.rows y hym)
  rw[hl,zao,decide_eq_true hxn,cond_true,show zaK (zcp g ns).nodes (xs.length:Int)=some (nd y) by rw[← hy]; exact zeg hxn,qaa,qaN,qa6,
   show(nd y).parents.length=y.ps.length by simp[nd,zap],zau,e3,qaa]
  simp only[];rw[show(y.ps.foldl (fun m p=>m ||| 2 ^ p) 0)=zbb y.ps from rfl];rw[show zcp g ns=⟨(g:Int),ns.map nd⟩from rfl]at ih ⊢;rw[e4,qaa,cond_true,zal (by omega),← ih];simp
def zfi(ms:List Nat)(mask v:Nat):Prop:=mask.testBit v=false∧Sub (ms.getD v 0) mask
structure First (ms:List Nat) (mask v:Nat):Prop where
 lt:v<ms.length
 ready:zfi ms mask v
 least:∀ u,u<v→¬ zfi ms mask u
def zcN(ms os:List Nat):Prop:=∀ k v,os[k]? = some v→First ms (zbb (os.take k)) v
theorem zcN.app{ms os:List Nat}{v:Nat}(h:zcN ms os)(hv:First ms (zbb os) v):zcN ms (os ++ [v]):=by
 intro k u hk;by_cases hl:k<os.length
 ·rw[qaj hl]at hk;rw[qb6 (by omega)];exact h k u hk
 have hk2:k=os.length:=by
  have:=(qac.1 hk).1;simp at this;omega
 subst hk2;have hu:u=v:=by simpa using hk.symm
 subst hu;simpa using hv
theorem zcN.nod{ms os:List Nat}(h:zcN ms os):os.Nodup:=by
 rw[List.Nodup,qaY];intro i j hi hj hij he;have h1:=(h j os[j] (qae hj)).ready.1;rw[zcU]at h1;have:os[j]∈os.take j:=by
  rw[← he];exact List.mem_take_iff_getElem.2 ⟨i,by omega,rfl⟩
 simp[this]at h1
theorem zcN.lt{ms os:List Nat}(h:zcN ms os):∀ x∈os,x<ms.length:=by
 intro x hx;obtain⟨k,hk⟩:=qbF hx;exact(h k x hk).lt
theorem zkC:∀ {xs ys:List Nat},xs.Nodup→(∀ x∈xs,x∈ys)→xs.length≤ys.length
 | [],_,_,_=>qar _
 | x :: xs,ys,h,hs=>by
  obtain⟨h1,h2⟩:=qce.1 h;have hx:=hs x qau;have ih:=zkC (xs:=xs) (ys:=ys.erase x) h2 fun y hy=>(List.mem_erase_of_ne (fun q:y=x=>h1 (by rw[← q]; exact hy))).2 (hs y (qat _ hy))
  rw[List.length_erase_of_mem hx]at ih;have:=List.length_pos_of_mem hx;simp only[qaN];omega
theorem zne{ms:List Nat}{mask:Nat}:∀ v,v<ms.length→zfi ms mask v→∃ u,First ms mask u:=by
 intro v;induction v using Nat.strongRecOn with
 | ind v ih=>
  intro hv hr;by_cases h:∃ u,u<v∧zfi ms mask u
  ·obtain⟨u,hu,hur⟩:=h;exact ih u hu (by omega) hur
  exact⟨v,hv,hr,fun u hu hur=>h ⟨u,hu,hur⟩⟩
def zah(ns:List NN):List Nat:=ns.map fun x=>zbb x.ps
theorem RightN.zcu{g:Nat}{ns:List NN}(h:RightN g ns):∀ m∈zah ns,m<18446744073709551616:=by
 intro m hm;obtain⟨x,hx,rfl⟩:=qaz.1 hm;refine Go.Dc.zcu fun p hp=>?_
 have:=h.lt x hx p hp;have:=h.n2;omega
theorem RightN.ready{g:Nat}{ns:List NN}(h:RightN g ns)(os:List Nat){rk:Nat→Nat}(hrk:∀ v x,ns[v]? = some x→∀ p∈x.ps,rk p<rk v):∀(j v:Nat),rk v=j→v<ns.length→v ∉ os→∃ u,u<ns.length∧zfi (zah ns) (zbb os) u:=by
 intro j;induction j using Nat.strongRecOn with
 | ind j ih=>
  intro v hj hvl hv;by_cases hp:∃ p,p∈ns[v].ps∧p ∉ os
  ·obtain⟨p,hp1,hp2⟩:=hp;have:=hrk v _ (qae hvl) p hp1;exact ih (rk p) (by omega) p rfl (h.lt _ (qap hvl) p hp1) hp2
  refine⟨v,hvl,by rw[zcU]; simp[hv],fun i hi=>?_⟩;rw[show(zah ns).getD v 0=zbb ns[v].ps by simp[zah,hvl],zcU]at hi;rw[zcU];have hi2:=of_decide_eq_true hi;refine decide_eq_true ?_;exact qaI fun hno=>hp ⟨i,hi2,hno⟩
theorem RightN.next{g:Nat}{ns:List NN}(h:RightN g ns){os:List Nat}(hl:os.length<ns.length):∃ v,First (zah ns) (zbb os) v:=by
 obtain⟨rk,_,hrk⟩:=h.rk;by_cases hs:∀ x∈List.range ns.length,x∈os
 ·have:=zkC List.nodup_range hs;rw[qcl]at this;omega
 have:∃ x,x∈List.range ns.length∧x ∉ os:=qaI fun hno=>hs fun x hx=>qaI fun hx2=>hno ⟨x,hx,hx2⟩
 obtain⟨x,hx,hxo⟩:=this;obtain⟨u,hu,hr⟩:=h.ready os hrk _ x rfl (qbr.1 hx) hxo;exact zne u (by simpa [zah]using hu) hr
theorem zkb{ms:List Nat}{mask i:Nat}{β:Type}(hm:∀ m∈ms,m<18446744073709551616)(hk:mask<18446744073709551616)(hi:i<ms.length)(h64:i<64)(l:β):
  ∃ b:Bool,(b=true↔zfi ms mask i)∧((zit .u64 (mask:Int) (i:Int)).bind fun q7=>bif ((zgv .u64 q7 1)== 0)then some (((zqR .u64 ((ms[i]:Nat):Int) (mask:Int))== 0),l)else some (false,l))=some (b,l)∧
   ((zit .u64 (mask:Int) (i:Int)).bind fun q7=>bif ((zgv .u64 q7 1)== 0)then some ((zqR .u64 ((ms[i]:Nat):Int) (mask:Int))== 0)else some false)=some b:=by
 obtain⟨q,h1,h2⟩:=zt8 (a:=mask) (v:=i) hk h64;have hmi:=hm _ (qap hi);have hg:ms.getD i 0=ms[i]:=by simp[hi]
 simp only[h1,qaa,h2,zv0];cases hb:mask.testBit i with
 | true=>exact⟨false,by simp[zfi,hb],rfl,rfl⟩
 | false=>
  refine⟨(((diff ms[i] mask:Nat):Int)== 0),?_,rfl,rfl⟩;rw[zfi,hb,hg,← zkF hmi hk];simp
theorem zhH{ms os:List Nat}{mask C v:Nat}(hn:ms.length≤8)(hm:∀ m∈ms,m<18446744073709551616)(hk:mask<18446744073709551616)(hC:os.length+1≤C)(hv:First ms mask v):∀(n i:Nat),i≤v→v - i<n →
  za9 (iL ms) (mask:Int) C n (i:Int) (iL os)=some (.brk (((mask ||| 2 ^ v:Nat):Int),iL (os ++ [v])))
 | 0,_,_,h=>absurd h (qak _)
 | n+1,i,h1,h3=>by
  unfold za9;have hvl:=hv.lt;have hi:i<ms.length:=by omega
  obtain⟨b,hb,e,_⟩:=zkb hm hk hi (by omega) (iL os);rw[zap,zao,decide_eq_true hi,cond_true,zbY hi,qaa,e,qaa];simp only[];by_cases hiv:i=v
  ·subst hiv;have hpw:2 ^ i<18446744073709551616:=qaW (n:=64) (by decide) (by omega);rw[hb.2 hv.ready,cond_true];unfold zlG;rw[if_pos (by simp[zap]; omega),qaa,zn9 (by omega),qaa,orU hk hpw];simp[iL]
  have:b=false:=by
   cases b with
   | false=>rfl
   | true=>exact absurd (hb.1 rfl) (hv.least i (by omega))
  rw[this,cond_false,zal (by omega),zhH hn hm hk hC hv n (i+1) (by omega) (by omega)]
theorem zkH{g:Nat}{ns:List NN}(h:RightN g ns):∀(n:Nat) (os:List Nat),zcN (zah ns) os→os.length≤ns.length→ns.length - os.length<n →
  ∃ os',zcN (zah ns) os'∧os'.length=ns.length∧zbl (iL (zah ns)) ns.length n ((zbb os:Nat):Int) (iL os)=some (.go (iL os'))
 | 0,_,_,_,h=>absurd h (qak _)
 | n+1,os,h1,h2,h3=>by
  unfold zbl;have hml:(zah ns).length=ns.length:=by simp[zah]
  have hn:=h.n2;rw[zap,zap,hml,zao];by_cases hl:os.length<ns.length
  ·obtain⟨v,hv⟩:=h.next hl;have hvl:=hv.lt;have hk:zbb os<18446744073709551616:=Go.Dc.zcu fun x hx=>by
    have:=h1.lt x hx;omega
   have e:=zhH (os:=os) (C:=ns.length) (by omega) h.zcu hk (by omega) hv (ns.length+2) 0 (qar _) (by omega);rw[show((0:Nat):Int)=0 from rfl]at e;obtain⟨os',g1,g2,g3⟩:=zkH h n (os ++ [v]) (h1.app hv) (by simp; omega) (by simp; omega);refine⟨os',g1,g2,?_⟩;rw[decide_eq_true hl,cond_true,zau,e,qaa];simp only[];rw[← zju,g3]
  exact⟨os,h1,by omega,by rw[decide_eq_false hl,cond_false]⟩
theorem zov{g:Nat}{ns:List NN}(h:RightN g ns):
  ∃ os,zcN (zah ns) os∧os.length=ns.length∧zbL (iL (zah ns))=some (iL os,true):=by
 have hml:(zah ns).length=ns.length:=by simp[zah]
 have hn:=h.n2;obtain⟨os,g1,g2,g3⟩:=zkH h (ns.length+2) [] (fun k v hk=>by simp at hk) (qar _) (by simp);refine⟨os,g1,g2,?_⟩;unfold zbL;rw[zap,hml];have hcap:zsk 8 ((ns.length:Nat):Int)=some ns.length:=by
  unfold zsk;rw[if_pos ⟨qbn _,by simp only[zad]; omega⟩,qaF]
 rw[hcap,qaa,show(((ns.length:Nat):Int) - ((([]:List Int).length:Nat):Int)+2).toNat=ns.length+2 by simp; omega];rw[show((zbb []:Nat):Int)=0 from rfl,show iL []=[]from rfl]at g3;rw[g3,qaa]
theorem zg3{g:Nat}{ns:List NN}(h:RightN g ns):
  ∃ os,zcN (zah ns) os∧os.length=ns.length∧zbp (zcp g ns)=some (⟨zcp g ns,iL (ns.map (·.c)),iL (zah ns),iL os⟩,0):=by
 obtain⟨os,g1,g2,g3⟩:=zov h;refine⟨os,g1,g2,?_⟩;have h1:=h.g1;have h2:=h.g2;have h3:=h.n1;have h4:=h.n2;have hl:(zcp g ns).nodes.length=ns.length:=by simp[zcp]
 have hp:=h.prod;have e1:=zpm (g:=g) (P:=zaM (ns.map (·.c))) h.n2 h.card (by omega) (ns.length+2) [] ns 1 rfl (qcf _) (by omega);have e2:=zoM h (ns.length+2) [] ns rfl (by omega);simp only[qbH,qbf,qaR]at e1 e2;rw[show((0:Nat):Int)=0 from rfl]at e1 e2;rw[show((1:Nat):Int)=1 from rfl]at e1;have hz:List.replicate ns.length (0:Int)=iL (List.replicate ns.length 0):=by simp[iL]
 unfold zbp
 rw[hl,show(zcp g ns).grain=(g:Int)from rfl,show decide ((g:Int)<1)=false from decide_eq_false (by omega),cond_false,show decide ((60:Int)<(g:Int))=false from decide_eq_false (by omega),cond_false,
  show decide (((ns.length:Nat):Int)<1)=false from decide_eq_false (by omega),cond_false,qaa,show decide ((8:Int)<((ns.length:Nat):Int))=false from decide_eq_false (by omega),cond_false,
  zeV (by omega),qaa,qaa,zau,hz,e1,qaa]
 simp only[];rw[show decide ((1024:Int)<((zaM (ns.map (·.c)):Nat):Int))=false from decide_eq_false (by omega),cond_false,e2,qaa];simp only[];rw[show(ns.map fun x=>zbb x.ps)=zah ns from rfl,g3,qaa];simp only[];rw[cond_true]
inductive Reach (ms:List Nat):Nat→Nat→Prop
 | refl (i:Nat):Reach ms i i
 | step {s p i:Nat}:(ms.getD s 0).testBit p=true→Reach ms p i→Reach ms s i
structure GOk (ms:List Nat) (rk:Nat→Nat):Prop where
 len:ms.length≤8
 lt:∀ m∈ms,m<18446744073709551616
 down:∀ v p,(ms.getD v 0).testBit p=true→p<ms.length∧rk p<rk v
structure VOk (ms:List Nat) (set r0 r:Nat):Prop where
 lt:r<18446744073709551616
 zeq:Sub r0 r
 has:Sub set r
 clo:∀ i,r.testBit i=true→r0.testBit i=false→Sub (ms.getD i 0) r
 reach:∀ i,r.testBit i=true→r0.testBit i=true∨∃ s,set.testBit s=true∧Reach ms s i
theorem zmS{a v i:Nat}:(a ||| 2 ^ v).testBit i=(a.testBit i || decide (v=i)):=by
 rw[qbl,qbp]
theorem zgk{ms:List Nat}{rk:Nat→Nat}(hg:GOk ms rk){again:Int→Int→Option Int}{set r0:Nat}(hset:set<18446744073709551616)(hin:∀ s,set.testBit s=true→s<ms.length)
  (ha:∀(v:Nat) (r:Nat),set.testBit v=true→r<18446744073709551616→∃ r2:Nat,again ((ms.getD v 0:Nat):Int) (r:Int)=some (r2:Int)∧VOk ms (ms.getD v 0) r r2):∀(n v r:Nat),r<18446744073709551616→Sub r0 r →
  (∀ s,s<v→set.testBit s=true→r.testBit s=true)→(∀ i,r.testBit i=true→r0.testBit i=false→Sub (ms.getD i 0) r)→
  (∀ i,r.testBit i=true→r0.testBit i=true∨∃ s,set.testBit s=true∧Reach ms s i)→ms.length - v<n→v≤ms.length →
  ∃ r':Nat,zfv (iL ms) again (set:Int) n (v:Int) (r:Int)=some (r':Int)∧VOk ms set r0 r'
 | 0,_,_,_,_,_,_,_,h,_=>absurd h (qak _)
 | n+1,v,r,h1,h2,h3,h4,h5,h6,h7=>by
  have hlen:=hg.len;unfold zfv;rw[zap,zao];by_cases hv:v<ms.length
  ·obtain⟨q,q1,q2⟩:=zt8 (a:=diff set r) (v:=v) (ziN _ _) (by omega);rw[decide_eq_true hv,cond_true,zv0,q1,qaa,q2,zgI hset h1];have hpw:2 ^ v<18446744073709551616:=qaW (n:=64) (by decide) (by omega);by_cases hb:(set.testBit v && !r.testBit v)=true
   ·have hb1:set.testBit v=true∧r.testBit v=false:=by simpa using hb
    obtain⟨r2,e,hr2⟩:=ha v (r ||| 2 ^ v) hb1.1 (qbd (n:=64) h1 hpw);have hk:Sub r r2:=fun i hi=>hr2.zeq i (by rw[zmS,hi]; rfl)
    have hvr:r2.testBit v=true:=hr2.zeq v (by rw[zmS]; simp);obtain⟨r',f1,f2⟩:=zgk hg hset hin ha (r0:=r0) n (v+1) r2 hr2.lt (fun i hi=>hk i (h2 i hi))
     (fun s hs hss=>by
      by_cases hsv:s=v
      ·subst hsv; exact hvr
      exact hk s (h3 s (by omega) hss))
     (fun i hi hi0=>by
      by_cases hri:r.testBit i=true
      ·exact fun p hp=>hk p (h4 i hri hi0 p hp)
      by_cases hiv:v=i
      ·subst hiv; exact hr2.has
      exact hr2.clo i hi (by rw[zmS]; simp[hri,hiv]))
     (fun i hi=>by
      rcases hr2.reach i hi with h | ⟨s,hs,hr⟩
      ·rw[zmS]at h;rcases qbz.1 h with h | h
       ·exact h5 i h
       have:=of_decide_eq_true h;subst this;exact .inr ⟨v,hb1.1,.refl v⟩
      exact .inr ⟨v,hb1.1,.step hs hr⟩) (by omega) hv
    refine⟨r',?_,f2⟩
    rw[hb,show((((true:Bool).toNat:Nat):Int)== 1)=true from rfl,cond_true,zn9 (by omega),qaa,zbY hv,qaa,orU h1 hpw,
     show ms[v]=ms.getD v 0 by simp[hv],e,qaa,zal (by omega),f1]
   have hb':(set.testBit v && !r.testBit v)=false:=by simpa using hb
   obtain⟨r',f1,f2⟩:=zgk hg hset hin ha (r0:=r0) n (v+1) r h1 h2
    (fun s hs hss=>by
     by_cases hsv:s=v
     ·subst hsv;cases hr:r.testBit s with
      | true=>rfl
      | false=>rw[hss,hr]at hb'; cases hb'
     exact h3 s (by omega) hss) h4 h5 (by omega) hv
   refine⟨r',?_,f2⟩;rw[hb',show((((false:Bool).toNat:Nat):Int)== 1)=false from rfl,cond_false,zal (by omega),f1]
  refine⟨r,by rw[decide_eq_false hv,cond_false],h1,h2,fun s hs=>h3 s (by have:=hin s hs; omega) hs,h4,h5⟩
theorem zha{ms:List Nat}{rk:Nat→Nat}(hg:GOk ms rk):∀(N set r:Nat),set<18446744073709551616→r<18446744073709551616→1≤N→(∀ s,set.testBit s=true→s<ms.length∧rk s+2≤N)→
  ∃ r':Nat,zfp (iL ms) N (set:Int) (r:Int)=some (r':Int)∧VOk ms set r r'
 | 0,_,_,_,_,h,_=>absurd h (by omega)
 | N+1,set,r,h1,h2,h3,h4=>by
  unfold zfp;rw[zap]
  have:=zgk hg (again:=zfp (iL ms) N) (set:=set) (r0:=r) h1 (fun s hs=>(h4 s hs).1) (fun v r1 hv hr1=>by
   have h5:=(h4 v hv);refine zha hg N (ms.getD v 0) r1 ?_ hr1 (by omega) fun p hp=>?_
   ·rw[show ms.getD v 0=ms[v]'h5.1 by simp[h5.1]];exact hg.lt _ (qap _)
   have:=hg.down v p hp
   exact⟨this.1,by omega⟩) (ms.length+2) 0 r h2 (fun i hi=>hi) (fun s hs=>absurd hs (qak _)) (fun i hi hi0=>by rw[hi]at hi0; cases hi0) (fun i hi=>.inl hi) (by omega) (qar _)
  exact this
theorem zml{ms:List Nat}{c s i:Nat}(h:Reach ms s i)(hs:c.testBit s=true)(hc:∀ i,c.testBit i=true→Sub (ms.getD i 0) c):c.testBit i=true:=by
 induction h with
 | refl i=>exact hs
 | step h1 h2 ih=>exact ih (hc _ hs _ h1)
theorem zie{ms:List Nat}{rk:Nat→Nat}(hg:GOk ms rk)(hrk:∀ v,v<ms.length→rk v≤8){N set:Nat}(hN:10≤N)(h1:set<18446744073709551616)(h2:∀ s,set.testBit s=true→s<ms.length):
  ∃ r':Nat,zcV N (iL ms) (set:Int)=some (r':Int)∧r'<18446744073709551616∧∀ i,r'.testBit i=true↔∃ s,set.testBit s=true∧Reach ms s i:=by
 obtain⟨r',e,h⟩:=zha hg N set 0 h1 (by decide) (by omega) fun s hs=>⟨h2 s hs,by have:=hrk s (h2 s hs); omega⟩
 refine⟨r',e,h.lt,fun i=>⟨fun hi=>?_,fun⟨s,hs,hr⟩=>?_⟩⟩
 ·rcases h.reach i hi with h0 | h0
  ·simp at h0
  exact h0
 exact zml hr (h.has s hs) fun j hj=>h.clo j hj (by simp)
theorem RightN.gok{g:Nat}{ns:List NN}(h:RightN g ns):∃ rk:Nat→Nat,GOk (zah ns) rk∧∀ v,rk v≤8:=by
 have hml:(zah ns).length=ns.length:=by simp[zah]
 have hn:=h.n2;obtain⟨rk,h1,h2⟩:=h.rk;refine⟨rk,⟨by omega,h.zcu,fun v p hp=>?_⟩,h1⟩;by_cases hv:v<ns.length
 ·rw[show(zah ns).getD v 0=zbb ns[v].ps by simp[zah,hv],zcU]at hp;have hp:=of_decide_eq_true hp;exact⟨by rw[hml]; exact h.lt _ (qap hv) p hp,h2 v _ (qae hv) p hp⟩
 rw[show(zah ns).getD v 0=0 by simp[zah,hv]]at hp;simp at hp
theorem zuI{g:Nat}{ns:List NN}(h:RightN g ns){N set:Nat}(hN:10≤N)(h2:∀ s,set.testBit s=true→s<ns.length)(h1:set<2 ^ ns.length):
  ∃ r:Nat,zaL N (zcp g ns) (set:Int)=some ((r:Int),0)∧r<18446744073709551616∧zcV N (iL (zah ns)) (set:Int)=some (r:Int)∧∀ i,r.testBit i=true↔∃ s,set.testBit s=true∧Reach (zah ns) s i:=by
 have hml:(zah ns).length=ns.length:=by simp[zah]
 have hn:=h.n2;obtain⟨rk,hg,hrk⟩:=h.gok;have h64:set<18446744073709551616:=qa8 h1 (qa1 (n:=2) (by decide) (show ns.length≤64 by omega));obtain⟨r,e,hr,hi⟩:=zie hg (fun v _=>hrk v) hN h64 fun s hs=>by rw[hml]; exact h2 s hs
 obtain⟨os,_,_,e2⟩:=zg3 h;refine⟨r,?_,hr,e,hi⟩;unfold zaL;rw[e2,qaa];simp only[]
 rw[show((0:Int)== 0)=true from rfl,cond_true,show(zcp g ns).nodes.length=ns.length by simp[zcp],zv9 (by omega),qaa,
  show set >>> ns.length=0 by rw[qbk]; exact qct h1,show(((0:Nat):Int)== 0)=true from rfl,cond_true,e,qaa]
theorem zjr{xs:List Nat}{i j y:Nat}(h:i<xs.length):(xs.set i y).getD j 0=if i=j then y else xs.getD j 0:=by
 simp only[qbJ,qcj];split
 ·rename_i hij;subst hij;simp[h]
 rfl
theorem zdb{xs:List Nat}(h:∀ m∈xs,m<18446744073709551616)(i:Nat):xs.getD i 0<18446744073709551616:=by
 by_cases hi:i<xs.length
 ·rw[show xs.getD i 0=xs[i] by simp[hi]]; exact h _ (qap hi)
 rw[show xs.getD i 0=0 by simp[hi]]; decide
theorem zd1{xs:List Nat}{i:Nat}(h:i<xs.length):zaK (iL xs) (i:Int)=some ((xs.getD i 0:Nat):Int):=by
 rw[zbY h]; simp[h]
theorem zpI{b:Bool}{v j:Nat}:(b.toNat * 2 ^ v).testBit j=(b && decide (v=j)):=by
 cases b with
 | false=>simp
 | true=>simp[qbp]
theorem zxN{b:Bool}{v:Nat}(hv:v<64):zhO .u64 ((b.toNat:Nat):Int) (v:Int)=some ((b.toNat * 2 ^ v:Nat):Int):=by
 cases b with
 | true=>rw[show(((true:Bool).toNat:Nat):Int)=1 from rfl,zn9 hv,show(true:Bool).toNat * 2 ^ v=2 ^ v from qcf _]
 | false=>
  unfold zhO;rw[if_pos (qbn v)];simp[IntKind.wrap];intro h;cases h
theorem zqt{r1:S_net_network×Int}{n x v:Nat}{ds0:List Nat}(hr:r1.1.sets.length=n)(hn:n≤8)(hv:v<n)(hx:x<18446744073709551616):∀(m k:Nat) (ds:List Nat),ds.length=n→(∀ d∈ds,d<18446744073709551616)→
  (∀ i j,i<n→(ds.getD i 0).testBit j=((ds0.getD i 0).testBit j || (decide (i<k) && x.testBit i && decide (v=j))))→k≤n→n - k<m →
  ∃ ds',ds'.length=n∧(∀ d∈ds',d<18446744073709551616)∧(∀ i j,i<n→(ds'.getD i 0).testBit j=((ds0.getD i 0).testBit j || (x.testBit i && decide (v=j))))∧zbf r1 (x:Int) (v:Int) m (k:Int) (iL ds)=some (iL ds')
 | 0,_,_,_,_,_,_,h=>absurd h (qak _)
 | m+1,k,ds,h1,h2,h3,h4,h5=>by
  unfold zbf;rw[hr,qaF,zao];by_cases hk:k<n
  ·obtain⟨q,q1,q2⟩:=zt8 (a:=x) (v:=k) hx (by omega);have hpw:(x.testBit k).toNat * 2 ^ v<18446744073709551616:=by
    have:2 ^ v<2 ^ 64:=qaW (by decide) (by omega);cases x.testBit k with
    | true=>simpa using this
    | false=>simp
   have hdk:=zdb h2 k;have hor:ds.getD k 0 ||| (x.testBit k).toNat * 2 ^ v<18446744073709551616:=qbd (n:=64) hdk hpw;obtain⟨ds',f1,f2,f3,f4⟩:=zqt (r1:=r1) (ds0:=ds0) hr hn hv hx m (k+1) (ds.set k (ds.getD k 0 ||| (x.testBit k).toNat * 2 ^ v)) (by simpa using h1)
    (fun d hd=>by
     rcases qbj hd with hd | hd
     ·exact h2 d hd
     rw[hd]; exact hor)
    (fun i j hi=>by
     rw[zjr (by omega)];by_cases hik:k=i
     ·subst hik;rw[if_pos rfl,qbl,h3 k j hi,zpI];simp
     rw[if_neg hik,h3 i j hi];have:decide (i<k+1)=decide (i<k):=by simp; omega
     rw[this]) hk (by omega)
   refine⟨ds',f1,f2,f3,?_⟩;rw[decide_eq_true hk,cond_true,zd1 (by omega),qaa,q1,qaa,q2,zxN (by omega),qaa,orU hdk hpw,zg0 (by omega),qaa,zal (by omega),f4]
  refine⟨ds,h1,h2,fun i j hi=>?_,by rw[decide_eq_false hk,cond_false]⟩;rw[h3 i j hi,decide_eq_true (show i<k by omega),qbW]
theorem zow{r1:S_net_network×Int}{ms:List Nat}(hr:r1.1.sets=iL ms)(hn:ms.length≤8)(hm:∀ m∈ms,m<18446744073709551616):∀(m k:Nat) (ds:List Nat),ds.length=ms.length→(∀ d∈ds,d<18446744073709551616)→
  (∀ i j,i<ms.length→(ds.getD i 0).testBit j=(decide (j<k) && (ms.getD j 0).testBit i))→k≤ms.length→ms.length - k<m →
  ∃ ds',ds'.length=ms.length∧(∀ d∈ds',d<18446744073709551616)∧(∀ i j,i<ms.length→(ds'.getD i 0).testBit j=(decide (j<ms.length) && (ms.getD j 0).testBit i))∧zbe r1 m (k:Int) (iL ds)=some (iL ds')
 | 0,_,_,_,_,_,_,h=>absurd h (qak _)
 | m+1,k,ds,h1,h2,h3,h4,h5=>by
  unfold zbe;have hrl:r1.1.sets.length=ms.length:=by rw[hr,zap]
  rw[hrl,zao];by_cases hk:k<ms.length
  ·obtain⟨d1,g1,g2,g3,g4⟩:=zqt (r1:=r1) (x:=ms.getD k 0) (ds0:=ds) hrl hn hk (zdb hm k) (ms.length+2) 0 ds h1 h2 (fun i j hi=>by simp) (qar _) (by omega)
   obtain⟨ds',f1,f2,f3,f4⟩:=zow hr hn hm m (k+1) d1 g1 g2 (fun i j hi=>by
    rw[g3 i j hi,h3 i j hi];by_cases hkj:k=j
    ·subst hkj; simp
    have:decide (j<k+1)=decide (j<k):=by simp; omega
    rw[this]; simp[hkj]) hk (by omega)
   refine⟨ds',f1,f2,f3,?_⟩;rw[show((0:Nat):Int)=0 from rfl]at g4;rw[decide_eq_true hk,cond_true,hr,zd1 hk,qaa,qaF,zau,g4,qaa,zal (by omega),f4]
  have:k=ms.length:=by omega
  subst this;exact⟨ds,h1,h2,h3,by rw[decide_eq_false hk,cond_false]⟩
theorem Reach.tr{ms:List Nat}{a b c:Nat}(h1:Reach ms a b)(h2:Reach ms b c):Reach ms a c:=by
 induction h1 with
 | refl=>exact h2
 | step e _ ih=>exact .step e (ih h2)
theorem zk3{ms ds:List Nat}(h:∀ i j,(ds.getD i 0).testBit j=true→(ms.getD j 0).testBit i=true){a b:Nat}(hr:Reach ds a b):Reach ms b a:=by
 induction hr with
 | refl i=>exact .refl i
 | step e _ ih=>exact ih.tr (.step (h _ _ e) (.refl _))
theorem GOk.zxy{ms:List Nat}{rk:Nat→Nat}(hg:GOk ms rk)(hrk:∀ v,rk v≤8){ds:List Nat}(h1:ds.length=ms.length)(h2:∀ d∈ds,d<18446744073709551616)
  (h3:∀ i j,i<ms.length→(ds.getD i 0).testBit j=(decide (j<ms.length) && (ms.getD j 0).testBit i)):GOk ds (fun v=>8 - rk v):=by
 refine⟨by rw[h1]; exact hg.len,h2,fun v p hp=>?_⟩;by_cases hv:v<ms.length
 ·rw[h3 v p hv]at hp;obtain⟨k1,k2⟩:=Bool.and_eq_true_iff.1 hp;have k1:=of_decide_eq_true k1;have k3:=hg.down p v k2;have k4:=hrk p;exact⟨by omega,show 8 - rk p<8 - rk v by omega⟩
 rw[show ds.getD v 0=0 by simp[h1,hv]]at hp;simp at hp
theorem zsM{g:Nat}{ns:List NN}(h:RightN g ns){N set:Nat}(hN:10≤N)(h2:∀ s,set.testBit s=true→s<ns.length)(h1:set<2 ^ ns.length):
  ∃ r:Nat,zaC N (zcp g ns) (set:Int)=some ((r:Int),0)∧r<18446744073709551616∧∀ i,r.testBit i=true↔∃ s,set.testBit s=true∧Reach (zah ns) i s:=by
 have hml:(zah ns).length=ns.length:=by simp[zah]
 have hn:=h.n2;obtain⟨rk,hg,hrk⟩:=h.gok;have h64:set<18446744073709551616:=qa8 h1 (qa1 (n:=2) (by decide) (show ns.length≤64 by omega));obtain⟨os,_,_,e2⟩:=zg3 h;obtain⟨ds,d1,d2,d3,d4⟩:=zow (r1:=(⟨zcp g ns,iL (ns.map (·.c)),iL (zah ns),iL os⟩,0)) (ms:=zah ns) rfl (by omega) h.zcu (ns.length+2) 0 (List.replicate ns.length 0) (by simp[hml])
  (fun d hd=>by rw[(qbX.1 hd).2]; decide) (fun i j hi=>by simp[qbE]; split<;>simp) (qar _) (by omega)
 obtain⟨r,e,hr,hi⟩:=zie (hg.zxy hrk d1 d2 d3) (fun v _=>Nat.sub_le 8 _) hN h64 fun s hs=>by rw[d1,hml]; exact h2 s hs
 refine⟨r,?_,hr,fun i=>?_⟩
 ·have hz:List.replicate ns.length (0:Int)=iL (List.replicate ns.length 0):=by simp[iL]
  rw[show((0:Nat):Int)=0 from rfl]at d4;unfold zaC;rw[e2,qaa];simp only[]
  rw[show((0:Int)== 0)=true from rfl,cond_true,show(zcp g ns).nodes.length=ns.length by simp[zcp],zv9 (by omega),qaa,
   show set >>> ns.length=0 by rw[qbk]; exact qct h1,show(((0:Nat):Int)== 0)=true from rfl,cond_true,zap,hml,zeV (by omega),qaa,zau,hz,d4,qaa,e,qaa]
 rw[hi];have k1:∀ i j,(ds.getD i 0).testBit j=true→((zah ns).getD j 0).testBit i=true:=fun i j hij=>by
  by_cases hil:i<(zah ns).length
  ·rw[d3 i j hil]at hij;exact(Bool.and_eq_true_iff.1 hij).2
  rw[show ds.getD i 0=0 by simp[d1,hil]]at hij;simp at hij
 have k2:∀ i j,((zah ns).getD i 0).testBit j=true→(ds.getD j 0).testBit i=true:=fun i j hij=>by
  have hj:=(hg.down i j hij).1;have hil:i<(zah ns).length:=qaI fun hno=>by
   rw[show(zah ns).getD i 0=0 by simp[hno]]at hij;simp at hij
  rw[d3 j i hj,hij,decide_eq_true hil];rfl
 exact⟨fun⟨s,hs,hr⟩=>⟨s,hs,zk3 k1 hr⟩,fun⟨s,hs,hr⟩=>⟨s,hs,zk3 k2 hr⟩⟩
def zr0(ms:List Nat)(v:Nat):Nat:=ms.getD v 0 ||| 2 ^ v
theorem zq8{F i j:Nat}(hF:F<18446744073709551616)(hi:i<64):(diff F (2 ^ i)).testBit j=(F.testBit j && !decide (i=j)):=by
 rw[zgI hF (qaW (n:=64) (by decide) hi),qbp]
theorem ziV{p0:S_net_network}{n x w:Nat}{ds0:List Nat}(hr:p0.sets.length=n)(hn:n≤8)(hx:x<18446744073709551616)(hw:w<18446744073709551616):∀(m k:Nat) (ds:List Nat),ds.length=n→(∀ d∈ds,d<18446744073709551616)→
  (∀ i j,i<n→(ds.getD i 0).testBit j=((ds0.getD i 0).testBit j || (decide (i<k) && (x ||| w).testBit i && (x ||| w).testBit j && !decide (i=j))))→k≤n→n - k<m →
  ∃ ds',ds'.length=n∧(∀ d∈ds',d<18446744073709551616)∧(∀ i j,i<n→(ds'.getD i 0).testBit j=((ds0.getD i 0).testBit j || ((x ||| w).testBit i && (x ||| w).testBit j && !decide (i=j))))∧
   za5 p0 (x:Int) (w:Int) m (k:Int) (iL ds)=some (iL ds')
 | 0,_,_,_,_,_,_,h=>absurd h (qak _)
 | m+1,k,ds,h1,h2,h3,h4,h5=>by
  unfold za5;have hF:x ||| w<18446744073709551616:=qbd (n:=64) hx hw;rw[hr,qaF,zao,orU hx hw];by_cases hk:k<n
  ·obtain⟨q,q1,q2⟩:=zt8 (a:=x ||| w) (v:=k) hF (by omega);rw[decide_eq_true hk,cond_true,q1,qaa,q2];have hd:=zdb h2 k;cases hb:(x ||| w).testBit k with
   | false=>
    obtain⟨ds',f1,f2,f3,f4⟩:=ziV (p0:=p0) (ds0:=ds0) hr hn hx hw m (k+1) ds h1 h2 (fun i j hi=>by
     rw[h3 i j hi];by_cases hik:i=k
     ·subst hik; simp[hb]
     have:decide (i<k+1)=decide (i<k):=by simp; omega
     rw[this]) hk (by omega)
    refine⟨ds',f1,f2,f3,?_⟩;rw[show((((false:Bool).toNat:Nat):Int)== 1)=false from rfl,cond_false,qaa,zal (by omega),f4]
   | true=>
    have hor:ds.getD k 0 ||| diff (x ||| w) (2 ^ k)<18446744073709551616:=qbd (n:=64) hd (ziN _ _);obtain⟨ds',f1,f2,f3,f4⟩:=ziV (p0:=p0) (ds0:=ds0) hr hn hx hw m (k+1) (ds.set k (ds.getD k 0 ||| diff (x ||| w) (2 ^ k))) (by simpa using h1)
     (fun d hd=>by
      rcases qbj hd with hd | hd
      ·exact h2 d hd
      rw[hd]; exact hor)
     (fun i j hi=>by
      rw[zjr (by omega)];by_cases hik:k=i
      ·subst hik;rw[if_pos rfl,qbl,h3 k j hi,zq8 hF (by omega),hb];simp
      rw[if_neg hik,h3 i j hi];have:decide (i<k+1)=decide (i<k):=by simp; omega
      rw[this]) hk (by omega)
    refine⟨ds',f1,f2,f3,?_⟩;rw[show((((true:Bool).toNat:Nat):Int)== 1)=true from rfl,cond_true,zd1 (by omega),qaa,zn9 (by omega),qaa,zv0,orU hd (ziN _ _),zg0 (by omega),qaa,qaa,zal (by omega),f4]
  refine⟨ds,h1,h2,fun i j hi=>?_,by rw[decide_eq_false hk,cond_false]⟩;rw[h3 i j hi,decide_eq_true (show i<k by omega),qbW]
theorem znd{p0:S_net_network}{ms:List Nat}(hr:p0.sets=iL ms)(hn:ms.length≤8)(hm:∀ m∈ms,m<18446744073709551616):∀(m k:Nat) (ds:List Nat),ds.length=ms.length→(∀ d∈ds,d<18446744073709551616)→
  (∀ i j,i<ms.length→((ds.getD i 0).testBit j=true↔i≠j∧∃ u,u<k∧(zr0 ms u).testBit i=true∧(zr0 ms u).testBit j=true))→k≤ms.length→ms.length - k<m →
  ∃ ds',ds'.length=ms.length∧(∀ d∈ds',d<18446744073709551616)∧(∀ i j,i<ms.length→((ds'.getD i 0).testBit j=true↔i≠j∧∃ u,u<ms.length∧(zr0 ms u).testBit i=true∧(zr0 ms u).testBit j=true))∧
   za4 p0 m (k:Int) (iL ds)=some (iL ds')
 | 0,_,_,_,_,_,_,h=>absurd h (qak _)
 | m+1,k,ds,h1,h2,h3,h4,h5=>by
  unfold za4;have hrl:p0.sets.length=ms.length:=by rw[hr,zap]
  rw[hrl,zao];by_cases hk:k<ms.length
  ·have hpw:2 ^ k<18446744073709551616:=qaW (n:=64) (by decide) (by omega);obtain⟨d1,g1,g2,g3,g4⟩:=ziV (p0:=p0) (x:=ms.getD k 0) (w:=2 ^ k) (ds0:=ds) hrl hn (zdb hm k) hpw (ms.length+2) 0 ds h1 h2 (fun i j hi=>by simp) (qar _) (by omega)
   obtain⟨ds',f1,f2,f3,f4⟩:=znd hr hn hm m (k+1) d1 g1 g2 (fun i j hi=>by
    rw[g3 i j hi,qbz,h3 i j hi];constructor
    ·rintro(⟨a1,u,a2,a3⟩| a)
     ·exact⟨a1,u,by omega,a3⟩
     simp only[qag,qbK,decide_eq_false_iff_not]at a;exact⟨a.2,k,by omega,a.1.1,a.1.2⟩
    rintro⟨a1,u,a2,a3,a4⟩;by_cases huk:u=k
    ·subst huk;right;simp only[qag,qbK,decide_eq_false_iff_not];exact⟨⟨a3,a4⟩,a1⟩
    exact .inl ⟨a1,u,by omega,a3,a4⟩) hk (by omega)
   refine⟨ds',f1,f2,f3,?_⟩;rw[show((0:Nat):Int)=0 from rfl]at g4;rw[decide_eq_true hk,cond_true,hr,zd1 hk,qaa,zn9 (by omega),qaa,qaF,zau,g4,qaa,zal (by omega),f4]
  have:k=ms.length:=by omega
  subst this;exact⟨ds,h1,h2,h3,by rw[decide_eq_false hk,cond_false]⟩
structure MoralOk (ms ds:List Nat):Prop where
 len:ds.length=ms.length
 lt:∀ d∈ds,d<18446744073709551616
 bit:∀ i j,i<ms.length→((ds.getD i 0).testBit j=true↔i≠j∧∃ u,u<ms.length∧(zr0 ms u).testBit i=true∧(zr0 ms u).testBit j=true)
theorem zpR{p0:S_net_network}{ms:List Nat}(hr:p0.sets=iL ms)(hn:ms.length≤8)(hm:∀ m∈ms,m<18446744073709551616):∃ ds,MoralOk ms ds∧zaS p0=some (iL ds):=by
 obtain⟨ds,d1,d2,d3,d4⟩:=znd hr hn hm (ms.length+2) 0 (List.replicate ms.length 0) (by simp) (fun d hd=>by rw[(qbX.1 hd).2]; decide)
  (fun i j hi=>by simp[qbE]; split<;>simp) (qar _) (by omega)
 refine⟨ds,⟨d1,d2,d3⟩,?_⟩;have hz:List.replicate ms.length (0:Int)=iL (List.replicate ms.length 0):=by simp[iL]
 rw[show((0:Nat):Int)=0 from rfl]at d4;unfold zaS;rw[hr,zap,zeV (by omega),qaa,zau,hz,d4,qaa]
theorem zq4{g:Nat}{ns:List NN}(h:RightN g ns):∃ ds,MoralOk (zah ns) ds∧zb5 (zcp g ns)=some (iL ds,0)∧
  ∀ v,v<ns.length→za3 (zcp g ns) (v:Int)=some (((ds.getD v 0:Nat):Int),0):=by
 have hml:(zah ns).length=ns.length:=by simp[zah]
 have hn:=h.n2;obtain⟨os,_,_,e2⟩:=zg3 h;obtain⟨ds,k1,k2⟩:=zpR (p0:=⟨zcp g ns,iL (ns.map (·.c)),iL (zah ns),iL os⟩) (ms:=zah ns) rfl (by omega) h.zcu;refine⟨ds,k1,?_,fun v hv=>?_⟩
 ·unfold zb5;rw[e2,qaa];simp only[];rw[show((0:Int)== 0)=true from rfl,cond_true,k2,qaa]
 unfold za3;have hl:=k1.len;rw[e2,qaa];simp only[]
 rw[show((0:Int)== 0)=true from rfl,cond_true,show decide ((v:Int)<0)=false from decide_eq_false (by omega),cond_false,qaa,show(zcp g ns).nodes.length=ns.length by simp[zcp],
  show decide (((ns.length:Nat):Int)≤(v:Int))=false from decide_eq_false (by omega),cond_false,k2,qaa,zd1 (by omega),qaa]
theorem ztl{n:Nat}{os:List Nat}(hd:os.Nodup)(hl:os.length=n)(hlt:∀ x∈os,x<n):∀ v,v<n→v∈os:=by
 intro v hv;refine qaI fun hno=>?_
 have:=zkC (xs:=v :: os) (ys:=List.range n) (qce.2 ⟨hno,hd⟩) fun y hy=>by
  rcases qaQ.1 hy with rfl | hy
  ·exact qbr.2 hv
  exact qbr.2 (hlt y hy)
 rw[qcl,qaN]at this;omega
theorem zcN.zv1{ms os:List Nat}(h:zcN ms os)(hl:os.length=ms.length):∀ v p,v<ms.length→(ms.getD v 0).testBit p=true→os.idxOf p<os.idxOf v:=by
 intro v p hv hp;have hmem:=ztl h.nod hl h.lt v hv;have hlt:=List.idxOf_lt_length_iff.2 hmem;have hget:os[os.idxOf v]? = some v:=by rw[qae hlt]; simp
 have h1:=(h _ v hget).ready.2 p hp;rw[zcU]at h1;obtain⟨j,hj,hjp⟩:=List.mem_take_iff_getElem.1 (of_decide_eq_true h1);have hjl:j<os.length:=by omega
 have hpm:p∈os:=by rw[← hjp]; exact qap _
 have hpl:=List.idxOf_lt_length_iff.2 hpm;have:os.idxOf p=j:=by
  have hd:=h.nod;refine qaI fun hne=>?_
  exact zop hd (i:=os.idxOf p) (j:=j) (v:=p) (w:=p) (by rw[qae hpl]; simp) (by rw[qae hjl,hjp]) hne rfl
 omega
def iter(f:Nat→Nat)(v:Nat):Nat→Nat
 | 0=>v
 | k+1=>f (iter f v k)
theorem zuG{n:Nat}(s:Nat→Nat)(h:∀ k,s k<n):∃ i j,i<j∧s i=s j:=by
 refine qaI fun hno=>?_
 have hd:((List.range (n+1)).map s).Nodup:=by
  rw[List.Nodup,qaY];intro i j hi hj hij he;simp only[List.getElem_map,List.getElem_range]at he;exact hno ⟨i,j,hij,he⟩
 have:=zkC hd (ys:=List.range n) fun x hx=>by
  obtain⟨k,_,rfl⟩:=qaz.1 hx;exact qbr.2 (h k)
 simp at this;omega
theorem zlB{ms os:List Nat}(hb:∀ v p,(ms.getD v 0).testBit p=true→p<ms.length)(hl:os.length<ms.length)(hd:os.Nodup)(hno:∀ v,v<ms.length→¬ zfi ms (zbb os) v):
  ∃ v p,v<ms.length∧(ms.getD v 0).testBit p=true∧Reach ms p v:=by
 have hf:∀ v,∃ p,v<ms.length→v ∉ os→(ms.getD v 0).testBit p=true∧p<ms.length∧p ∉ os:=by
  intro v;by_cases hv:v<ms.length∧v ∉ os
  ·have h1:¬ Sub (ms.getD v 0) (zbb os):=fun hs=>hno v hv.1 ⟨by rw[zcU]; simp[hv.2],hs⟩
   have:∃ p,(ms.getD v 0).testBit p=true∧(zbb os).testBit p≠true:=qaI fun hn=>h1 fun i hi=>qaI fun hi2=>hn ⟨i,hi,hi2⟩
   obtain⟨p,h2,h3⟩:=this;rw[zcU]at h3;exact⟨p,fun _ _=>⟨h2,hb v p h2,by simpa using h3⟩⟩
  exact⟨0,fun h1 h2=>absurd ⟨h1,h2⟩ hv⟩
 have hx:∃ v,v<ms.length∧v ∉ os:=by
  refine qaI fun hn=>?_
  have:=zkC List.nodup_range (xs:=List.range ms.length) (ys:=os) fun x hx=>qaI fun hx2=>hn ⟨x,qbr.1 hx,hx2⟩
  rw[qcl]at this;omega
 obtain⟨v0,hv0,hv1⟩:=hx
 let f:Nat→Nat:=fun v=>Classical.choose (hf v)
 have hfs:∀ v,v<ms.length→v ∉ os→(ms.getD v 0).testBit (f v)=true∧f v<ms.length∧f v ∉ os:=fun v=>Classical.choose_spec (hf v)
 have hin:∀ k,iter f v0 k<ms.length∧iter f v0 k ∉ os:=by
  intro k;induction k with
  | zero=>exact⟨hv0,hv1⟩
  | succ k ih=>exact(hfs _ ih.1 ih.2).2
 obtain⟨i,j,hij,he⟩:=zuG (iter f v0) fun k=>(hin k).1
 have hr:∀ d k,Reach ms (iter f v0 k) (iter f v0 (k+d)):=by
  intro d;induction d with
  | zero=>intro k; exact .refl _
  | succ d ih=>
   intro k;have:=ih (k+1);rw[show k+1+d=k+(d+1) by omega]at this;exact .step (hfs _ (hin k).1 (hin k).2).1 this
 refine⟨iter f v0 i,iter f v0 (i+1),(hin i).1,(hfs _ (hin i).1 (hin i).2).1,?_⟩;have:=hr (j - (i+1)) (i+1);rw[show i+1+(j - (i+1))=j by omega,← he]at this;exact this
theorem zn7{ms:List Nat}{rk:Nat→Nat}(h:∀ v p,(ms.getD v 0).testBit p=true→rk p<rk v){a b:Nat}(hr:Reach ms a b):rk b≤rk a:=by
 induction hr with
 | refl=>exact qal _
 | step e _ ih=>exact qay ih (Nat.le_of_lt (h _ _ e))
def cnt(n s:Nat):Nat:=(List.range n).countP (s.testBit ·)
theorem zvk(n s:Nat):cnt n s≤n:=by
 have:=List.countP_le_length (p:=(s.testBit ·)) (l:=List.range n);rw[qcl]at this;exact this
theorem zks{p q:Nat→Bool}:∀ {xs:List Nat},(∀ x∈xs,p x=true→q x=true)→(∃ x∈xs,p x=false∧q x=true)→xs.countP p<xs.countP q
 | [],_,h=>by obtain⟨x,hx,_⟩:=h; cases hx
 | y :: ys,h1,h2=>by
  have hle:ys.countP p≤ys.countP q:=List.countP_mono_left fun x hx=>h1 x (qat _ hx)
  rw[List.countP_cons,List.countP_cons];obtain⟨x,hx,h3,h4⟩:=h2;rcases qaQ.1 hx with rfl | hx
  ·simp only[h3,h4]; simp; omega
  have ih:=zks (xs:=ys) (fun x hx=>h1 x (qat _ hx)) ⟨x,hx,h3,h4⟩;cases hp:p y with
  | false=>simp only[qaL,if_false]; split<;>omega
  | true=>simp only[h1 y qau hp,if_true]; omega
theorem zua{n s t:Nat}(h1:Sub s t)(h2:∃ x,x<n∧s.testBit x=false∧t.testBit x=true):cnt n s<cnt n t:=by
 obtain⟨x,h3,h4,h5⟩:=h2;exact zks (fun x _ hx=>h1 x hx) ⟨x,qbr.2 h3,h4,h5⟩
theorem zpn{n s:Nat}(h:n≤cnt n s):∀ x,x<n→s.testBit x=true:=by
 intro x hx;have h1:cnt n s=(List.range n).length:=by rw[qcl]; exact Nat.le_antisymm (zvk n s) h
 exact List.countP_eq_length.1 h1 x (qbr.2 hx)
theorem zeL{n:Nat}(F:Nat→Nat)(h1:∀ s,Sub s (F s))(h2:∀ s,(∀ x,s.testBit x=true→x<n)→∀ x,(F s).testBit x=true→x<n):∀(k s:Nat),(∀ x,s.testBit x=true→x<n)→
  F (iter F s k)=iter F s k∨k≤cnt n (iter F s k)
 | 0,s,_=>.inr (qar _)
 | k+1,s,h=>by
  have hin:∀ j,∀ x,(iter F s j).testBit x=true→x<n:=by
   intro j;induction j with
   | zero=>exact h
   | succ j ih=>exact h2 _ ih
  rcases zeL F h1 h2 k s h with h3 | h3
  ·exact .inl (by show F (F (iter F s k))=F (iter F s k); rw[h3,h3])
  by_cases he:F (iter F s k)=iter F s k
  ·exact .inl (by show F (F (iter F s k))=F (iter F s k); rw[he,he])
  refine .inr (qcb h3 (zua (h1 _) ?_));refine qaI fun hno=>he ?_
  apply qbG;intro i;cases hi:(iter F s k).testBit i with
  | true=>exact h1 _ i hi
  | false=>
   cases hf:(F (iter F s k)).testBit i with
   | false=>rfl
   | true=>exact absurd ⟨i,hin (k+1) i hf,hi,hf⟩ hno
end Go.Dc
