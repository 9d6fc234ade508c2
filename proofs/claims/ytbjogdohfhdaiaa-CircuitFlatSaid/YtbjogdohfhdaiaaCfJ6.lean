/-
 Plain laws: numbers and sets of bits. Conditions: none.
-/
import Derived.Test.YtbjogdohfhdaiaaCfJ5
set_option linter.unusedSimpArgs false
set_option linter.unusedVariables false
namespace Go.Dc
open Go Go.Mx Go.Lx
variable{n:Nat}
theorem zaF(h:n<9223372036854775808):w64 (n:Int)=(n:Int):=wrap64 (by omega) (by omega)
theorem zfV{n:Int}(h1:-9223372036854775808<=n)(h2:n<9223372036854775808):w64 n=n:=wrap64 h1 h2
theorem zak(h:n+1<9223372036854775808):w64 ((n:Int)+1)=((n+1:Nat):Int):=by
 rw[zfV (by omega) (by omega)]; omega
theorem zx4(n:Nat):IntKind.u64.wrap (n:Int)=((n % 18446744073709551616:Nat):Int):=by
 simp only[IntKind.wrap,IntKind.bits,IntKind.signed]; simp
theorem zbu(h:n<18446744073709551616):IntKind.u64.wrap (n:Int)=(n:Int):=by
 rw[zx4,qbz h]
variable{a b:Nat}
theorem zBk(ha:a<18446744073709551616)(hb:b<18446744073709551616):ziu .u64 (a:Int) (b:Int)=((a &&& b:Nat):Int):=by
 have h:(BitVec.ofInt 64 (a:Int) &&& BitVec.ofInt 64 (b:Int)).toNat=a &&& b:=by
  simp only[qcR,BitVec.toNat_and,BitVec.toNat_ofNat];rw[qbz ha,qbz hb]
 show IntKind.u64.wrap ((BitVec.ofInt 64 (a:Int) &&& BitVec.ofInt 64 (b:Int)).toNat:Int)=_;rw[h];exact zbu (qcG Nat.and_le_left ha)
theorem orU(ha:a<18446744073709551616)(hb:b<18446744073709551616):orI .u64 (a:Int) (b:Int)=((a ||| b:Nat):Int):=by
 have h:(BitVec.ofInt 64 (a:Int)||| BitVec.ofInt 64 (b:Int)).toNat=a ||| b:=by
  simp only[qcR,BitVec.toNat_or,BitVec.toNat_ofNat];rw[qbz ha,qbz hb]
 show IntKind.u64.wrap ((BitVec.ofInt 64 (a:Int)||| BitVec.ofInt 64 (b:Int)).toNat:Int)=_;rw[h];exact zbu (qbV (n:=64) ha hb)
def diff(a b:Nat):Nat:=(BitVec.ofNat 64 a &&& ~~~ BitVec.ofNat 64 b).toNat
theorem zyI(a b:Nat):diff a b<18446744073709551616:=(BitVec.ofNat 64 a &&& ~~~ BitVec.ofNat 64 b).isLt
theorem zDm(a b:Nat):zBP .u64 (a:Int) (b:Int)=((diff a b:Nat):Int):=by
 show IntKind.u64.wrap ((BitVec.ofInt 64 (a:Int) &&& ~~~ BitVec.ofInt 64 (b:Int)).toNat:Int)=_;rw[qcR,qcR];exact zbu (zyI a b)
variable{i:Nat}
theorem zqg(ha:a<18446744073709551616)(hb:b<18446744073709551616):(diff a b).testBit i=(a.testBit i && !b.testBit i):=by
 unfold diff;rw[BitVec.testBit_toNat,BitVec.getLsbD_and,BitVec.getLsbD_not,BitVec.getLsbD_ofNat,BitVec.getLsbD_ofNat];by_cases hi:i<64
 .simp[hi]
 have:a.testBit i=false:=Nat.testBit_lt_two_pow (qbb ha (qbu (n:=2) (by decide) (show 64<=i by omega)));simp[hi,this]
variable{v:Nat}
theorem zBQ(hv:v<64):zo9 .u64 1 (v:Int)=some ((2 ^ v:Nat):Int):=by
 unfold zo9;rw[if_pos (by omega)];congr 1
 have h1:min (v:Int).toNat IntKind.u64.bits=v:=by
  rw[show IntKind.u64.bits=64 from rfl,qaq]; exact qbd (by omega)
 rw[h1,Int.one_mul];have h2:((2:Int) ^ v)=((2 ^ v:Nat):Int):=by simp
 rw[h2];exact zbu (qbJ (by decide) hv)
theorem zC1(hv:v<64):zkk .u64 (a:Int) (v:Int)=some ((a >>> v:Nat):Int):=by
 unfold zkk;rw[if_pos (by omega)];congr 1
 have h1:min (v:Int).toNat IntKind.u64.bits=v:=by
  rw[show IntKind.u64.bits=64 from rfl,qaq]; exact qbd (by omega)
 rw[h1,qcq];have h2:((2:Int) ^ v)=((2 ^ v:Nat):Int):=by simp
 rw[h2,Int.fdiv_eq_ediv_of_nonneg _ (qaF _)];rfl
theorem zDq(a v:Nat):((a >>> v) &&& 1)=(a.testBit v).toNat:=by
 rw[Nat.and_one_is_mod,Nat.testBit_eq_decide_div_mod_eq,qcq];have h:=Nat.mod_two_eq_zero_or_one (a / 2 ^ v);rcases h with h | h<;>simp[h]
theorem zD1(ha:a<18446744073709551616)(hv:v<64):∃ q:Int,zkk .u64 (a:Int) (v:Int)=some q/\ziu .u64 q 1=((a.testBit v).toNat:Int):=by
 refine⟨_,zC1 hv,?_⟩;rw[show(1:Int)=((1:Nat):Int)from rfl,zBk (qcG (by rw[qcq]; exact Nat.div_le_self _ _) ha) (by decide),zDq]
variable {α:Type}
theorem zvp{xs:List α}:zaC xs (i:Int)=xs[i]?:=by
 unfold zaC;rw[if_pos (qaF i),qaq]
theorem zax{xs:List α}(h:i<xs.length):zaC xs (i:Int)=some (xs[i]'h):=by
 rw[zvp,qac h]
theorem zd7{xs:List α}{v:α}(h:i<xs.length):zd2 xs (i:Int) v=some (xs.set i v):=by
 unfold zd2;rw[if_pos (by omega),qaq]
theorem zcm{xs ys:List α}(h:(xs.length+ys.length)* b<=70368744177664):zc2 b xs ys=some (xs ++ ys):=by
 unfold zc2;rw[if_pos (by simp only[zah]; omega)]
theorem zdT{z:α}(h:n * b<=70368744177664):zd5 b (n:Int) z=some (List.replicate n z):=by
 have h2:(n:Int)* (b:Int)<=zah:=by
  rw[<- qa4]; simp only[zah]; omega
 unfold zd5;rw[if_pos ⟨qaF n,h2⟩,qaq]
theorem zp1{xs:List α}(h:xs.length * b<=70368744177664):zfk b xs=some xs:=by
 unfold zfk;rw[if_pos (by simp only[zah]; omega)]
theorem zaq:decide ((i:Int)<(n:Int))=decide (i<n):=by simp
theorem zaJ(n:Nat):((n:Int) - 0+2).toNat=n+2:=by omega
def iL(xs:List Nat):List Int:=xs.map (λx:Nat=>(x:Int))
theorem zam(xs:List Nat):(iL xs).length=xs.length:=by simp[iL]
variable{xs:List Nat}
theorem zm1(h:i<xs.length):(iL xs)[i]'(by rw[zam]; exact h)=((xs[i]:Nat):Int):=by simp[iL]
theorem zaz(h:i<xs.length):zaC (iL xs) (i:Int)=some ((xs[i]:Nat):Int):=by
 rw[zax (by rw[zam]; exact h),zm1 h]
def zae(xs:List Nat):Nat:=xs.foldr (· * ·) 1
theorem zdH{xs:List Nat}(h:∀ x∈xs,1<=x):1<=zae xs:=by
 induction xs with
 | nil=>exact qap 1
 | cons x xs ih=>exact qa9 (h x qao) (ih λy hy=>h y (qai _ hy))
theorem zDK(h:i<n):decide ((i:Int)<(n:Int))=true:=qdn (by omega)
theorem zDZ(n:Nat):decide ((n:Int)<(n:Int))=false:=qdo (by omega)
theorem zuu(k:Nat):iL (List.replicate k 0)=List.replicate k 0:=by simp[iL]
theorem zs6{p0:S_api_Net}(hl:p0.nodes.length<=8):∀(n i:Nat) (acc:List Int),i<=p0.nodes.length->acc.length<=i->p0.nodes.length - i<n ->
  zcM p0 n (i:Int) acc=some (acc ++ (p0.nodes.drop i).map (·.card))
 | 0,_,_,_,_,h=>absurd h (qan _)
 | n+1,i,acc,h1,h2,h3=>by
  unfold zcM;by_cases hi:i<p0.nodes.length
  .rw[zaq,qdn hi,qdl,zax hi,qaa,zcm (by simp; omega),qaa,zak (by omega),
    zs6 hl n (i+1) _ hi (by simp; omega) (by omega),qat hi]
   rw[qaI]; rfl
  rw[zaq,qdo hi,qdm,qaD (by omega)];simp
theorem zvt{p0:S_api_Net}(hl:p0.nodes.length<=8):zdO p0=some (p0.nodes.map (·.card)):=by
 unfold zdO;rw[zaJ];have h:=zs6 hl (p0.nodes.length+2) 0 [] (qaw _) (qap _) (by omega);rw[show((0:Nat):Int)=0 from rfl]at h;rw[h];simp
def Pl(n:Nat)(xs:List Nat):Prop:=∀ x∈xs,x<n
theorem zC3{cs:List Int}{ps:List Nat}(hp:Pl cs.length ps)(hl:ps.length<=8):∀(n i:Nat) (acc:List Int),i<=ps.length->acc.length<=i->ps.length - i<n ->
  zes (iL ps) cs n (i:Int) acc=some (acc ++ (ps.drop i).map λp=>cs.getD p 0)
 | 0,_,_,_,_,h=>absurd h (qan _)
 | n+1,i,acc,h1,h2,h3=>by
  unfold zes;rw[zam];by_cases hi:i<ps.length
  .have hb:ps[i]<cs.length:=hp _ (qas hi)
   rw[zaq,qdn hi,qdl,zaz hi,qaa,zax hb,qaa,zcm (by simp; omega),qaa,zak (by omega),
    zC3 hp hl n (i+1) _ hi (by simp; omega) (by omega),qat hi]
   rw[qaI,qaS,show cs.getD ps[i] 0=cs[ps[i]] by simp[hb]]; rfl
  rw[zaq,qdo hi,qdm,qaD (by omega)];simp
variable{ps:List Nat}
theorem zCU{cs:List Int}(hp:Pl cs.length ps)(hl:ps.length<=8):zgE cs (iL ps)=some (ps.map λp=>cs.getD p 0):=by
 unfold zgE;rw[zam,zaJ];have h:=zC3 hp hl (ps.length+2) 0 [] (qaw _) (qap _) (by omega);rw[show((0:Nat):Int)=0 from rfl]at h;rw[h];simp
theorem zxd{cs:List Nat}(hc:∀ x∈cs,1<=x)(hl:cs.length<=8):∀(n i a:Nat),i<=cs.length->a * zae (cs.drop i)<=65536->cs.length - i<n ->
  zc4 (iL cs) n (a:Int) (i:Int)=some ((a * zae (cs.drop i):Nat):Int)
 | 0,_,_,_,_,h=>absurd h (qan _)
 | n+1,i,a,h1,h2,h3=>by
  unfold zc4;rw[zam];by_cases hi:i<cs.length
  .have e:cs.drop i=cs[i]:: cs.drop (i+1):=qat hi;have e2:a * zae (cs.drop i)=a * cs[i] * zae (cs.drop (i+1)):=by rw[e]; exact(qbj _ _ _).symm
   rw[e2]at h2;have hq:1<=zae (cs.drop (i+1)):=zdH λx hx=>hc x (qcc hx)
   have hle:a * cs[i]<=65536:=qax (qa7 _ hq) h2
   rw[zaq,qdn hi,qdl,zaz hi,qaa,zak (by omega),show((a:Int)* ((cs[i]:Nat):Int))=((a * cs[i]:Nat):Int) by simp,
    zaF (by omega),zxd hc hl n (i+1) _ hi h2 (by omega),e2]
  rw[zaq,qdo hi,qdm,qaD (by omega)];simp[zae]
theorem zzm{cs:List Nat}(hc:∀ x∈cs,1<=x)(hl:cs.length<=8)(hp:zae cs<=65536):zen (iL cs)=some ((zae cs:Nat):Int):=by
 unfold zen;rw[zam,zaJ];have h:=zxd hc hl (cs.length+2) 0 1 (qaw _) (by simpa using hp) (by omega);rw[show((0:Nat):Int)=0 from rfl,show((1:Nat):Int)=1 from rfl]at h;rw[h];simp
theorem zuI(h:i<xs.length):zd2 (iL xs) (i:Int) (v:Int)=some (iL (xs.set i v)):=by
 rw[zd7 (by rw[zam]; exact h)]; simp[iL]
theorem zuU:∀ {xs:List Nat} {i k:Nat} (h:i<xs.length),(xs.set i (xs[i]+k)).sum=xs.sum+k
 | [],i,k,h=>absurd h (qan _)
 | x :: xs,0,k,h=>by simp; omega
 | x :: xs,i+1,k,h=>by
  have:=zuU (xs:=xs) (i:=i) (k:=k) (by simpa using h);simp only[qbL,qc6,qci,this];omega
theorem zjJ:∀ {xs:List Nat} {i:Nat} (h:i<xs.length),xs[i]<=xs.sum
 | [],i,h=>absurd h (qan _)
 | x :: xs,0,h=>by simp
 | x :: xs,i+1,h=>by
  have:=zjJ (xs:=xs) (i:=i) (by simpa using h);simp only[qc6,qci];omega
variable{xs0 bs:List Nat}{x:Nat}
theorem zdw:zaC (iL (xs0 ++ x :: bs)) ((xs0.length:Nat):Int)=some (x:Int):=by
 rw[zaz (by simp)]; simp
variable{y:Nat}
theorem zgX:zd2 (iL (xs0 ++ x :: bs)) ((xs0.length:Nat):Int) (y:Int)=some (iL (xs0 ++ y :: bs)):=by
 rw[zuI (by simp)]; simp
theorem zoF(hb:0<b):znx (a:Int) (b:Int)=some ((a % b:Nat):Int):=by
 unfold znx;have:((b:Int)== 0)=false:=by simp; omega
 rw[this,qdm]; rfl
theorem zC5{ws:List Nat}{g p c:Nat}(hp:p<=65536)(hc:c<=8):∀(n:Nat) (xs0:List Nat) (k:Nat),xs0.length+k=c->xs0.sum<=7 * xs0.length->k<n ->
  ∃ zs:List Nat,zs.length=c/\zs.sum<=7 * c/\zcG (c:Int) (iL ws) (p:Int) n ((xs0.sum:Nat):Int) (xs0.length:Int) (iL (xs0 ++ List.replicate k 0))=some (((zs.sum:Nat):Int),iL zs)
 | 0,_,_,_,_,h=>absurd h (qan _)
 | n+1,xs0,0,h1,h2,h3=>by
  refine⟨xs0,by simpa using h1,by rw[<- h1]; simpa using h2,?_⟩;unfold zcG;rw[zaq,qdo (by omega),qdm];simp
 | n+1,xs0,k+1,h1,h2,h3=>by
  have step:∀ a:Nat,a<=7->∃ zs:List Nat,zs.length=c/\zs.sum<=7 * c/\zcG (c:Int) (iL ws) (p:Int) n (w64 (((xs0.sum:Nat):Int)+(a:Int))) (w64 ((xs0.length:Int)+1)) (iL (xs0 ++ a :: List.replicate k 0))=some (((zs.sum:Nat):Int),iL zs):=by
   intro a ha;obtain⟨zs,e1,e2,e3⟩:=zC5 (ws:=ws) (g:=g) hp hc n (xs0 ++ [a]) k (by simp; omega) (by simp; omega) (by omega);refine⟨zs,e1,e2,?_⟩;rw[zak (by omega),<- qbY,zaF (by omega),<- e3];simp
  unfold zcG;rw[zaq,qdn (by omega),qdl,zam,qaU];by_cases h0:0<ws.length
  .have hq:(p+xs0.length) % ws.length<ws.length:=qbM _ h0;obtain⟨zs,e1,e2,e3⟩:=step (ws[(p+xs0.length) % ws.length] % 8) (by omega);refine⟨zs,e1,e2,?_⟩
   rw[show decide ((0:Int)<(ws.length:Int))=true by simpa using h0,qdl,<- qbY,zaF (by omega),zoF h0,qaa,zaz hq,qaa,zdw,
    qaa,show(((ws[(p+xs0.length) % ws.length]:Nat):Int).tmod 8)=((ws[(p+xs0.length) % ws.length] % 8:Nat):Int)from rfl,zaF (by omega),zgX,
    qaa,qaa,zdw,qaa,e3]
  obtain⟨zs,e1,e2,e3⟩:=step 0 (by omega);refine⟨zs,e1,e2,?_⟩;rw[show decide ((0:Int)<(ws.length:Int))=false by simpa using h0,qdm,qaa,zdw,qaa,e3]
theorem zB3{g t c:Nat}(hg:g<=60)(hc:c<=8)(ht:t<=65536):∀(n:Nat) (xs0 bs:List Nat) (m:Nat) (v:Nat),xs0.length+bs.length=c->xs0.sum * t+g * bs.sum<=g * t->bs.sum<=t->xs0.sum<=g->v<c->bs.length<n ->
  ∃(zs:List Nat) (v':Nat),zs.length=c/\zs.sum<=g/\v'<c/\zc7 (c:Int) (g:Int) (t:Int) n ((g - xs0.sum:Nat):Int) (v:Int) (xs0.length:Int) (iL (xs0 ++ bs))=some (((g - zs.sum:Nat):Int),(v':Int),iL zs)
 | 0,_,_,_,_,_,_,_,_,_,h=>absurd h (qan _)
 | n+1,xs0,[],m,v,h1,h2,h2b,h3,h4,h5=>by
  refine⟨xs0,v,by simpa using h1,h3,h4,?_⟩;unfold zc7;rw[zaq,qdo (by simp at h1; omega),qdm];simp
 | n+1,xs0,b :: bs,m,v,h1,h2,h2b,h3,h4,h5=>by
  simp only[qaH,qc6]at h1 h2 h2b h5;unfold zc7;rw[zaq,qdn (by omega),qdl,zdw,qaa];by_cases h0:0<b
  .have hb:b<=t:=by omega
   have hgb:g * b<=60 * 65536:=qa9 hg (by omega);have hd:g * b / t * t<=g * b:=Nat.div_mul_le_self _ _;have hs:xs0.sum+g * b / t<=g:=by
    have h6:(xs0.sum+g * b / t)* t<=g * t:=by
     rw[qaT];have:g * (b+bs.sum)=g * b+g * bs.sum:=qc9 _ _ _;omega
    exact qcj h6 (by omega)
   obtain⟨zs,v',e1,e2,e3,e4⟩:=zB3 hg hc ht n (xs0 ++ [g * b / t]) bs m xs0.length (by simp; omega) (by
    have:g * (b+bs.sum)=g * b+g * bs.sum:=qc9 _ _ _
    simp only[List.sum_append,qc6,List.sum_nil,qbo,qaT]; omega) (by omega) (by simpa using hs) (by omega) (by omega)
   refine⟨zs,v',e1,e2,e3,?_⟩;have hq:zqO .i64 (w64 ((g:Int)* (b:Int))) (t:Int)=some ((g * b / t:Nat):Int):=by
    unfold zqO;have:((t:Int)== 0)=false:=by simp; omega
    rw[this,qdm,<- qa4,zaF (by omega)];have hle:g * b / t<=g * b:=Nat.div_le_self _ _;exact congrArg some (zaF (n:=g * b / t) (by omega))
   rw[show decide ((0:Int)<(b:Int))=true by simpa using h0,qdl,hq,qaa,zgX,qaa,qaa];simp only[];rw[zdw,qaa,zak (by omega),show(((g - xs0.sum:Nat):Int) - ((g * b / t:Nat):Int))=((g - (xs0.sum+g * b / t):Nat):Int) by omega,zaF (qcG (Nat.sub_le _ _) (by omega)),<- e4];simp
  have hb:b=0:=by omega
  subst hb;obtain⟨zs,v',e1,e2,e3,e4⟩:=zB3 hg hc ht n (xs0 ++ [0]) bs m v (by simp; omega) (by simp at h2 ⊢; omega) (by omega) (by simpa using h3) h4 (by omega);refine⟨zs,v',e1,e2,e3,?_⟩;rw[show decide ((0:Int)<((0:Nat):Int))=false from rfl,qdm,qaa];simp only[];rw[zdw,qaa,zak (by omega),<- Int.ofNat_sub (by omega),zaF (by omega),<- e4];simp
variable{c:Nat}
theorem zyE{ws:List Nat}{g p:Nat}(hg:g<=60)(hp:p<=65536)(h1:1<=c)(hc:c<=8):
  ∃ zs:List Nat,zs.length=c/\zs.sum=g/\zfq (g:Int) (c:Int) (iL ws) (p:Int)=some (iL zs):=by
 obtain⟨zs,e1,e2,e3⟩:=zC5 (ws:=ws) (g:=g) hp hc (c+2) [] c (by simp) (by simp) (by omega);obtain⟨ys,v,f1,f2,f3,f4⟩:=zB3 (g:=g) (t:=zs.sum) (c:=c) hg hc (by omega) (c+2) [] zs 0 0 (by simp[e1]) (by simp) (qap _) (by simp) (by omega) (by omega);have hv:v<ys.length:=by omega
 refine⟨ys.set v (ys[v]+(g - ys.sum)),by simp[f1],by rw[zuU]; omega,?_⟩;unfold zfq;have hz:List.replicate c (0:Int)=iL (List.replicate c 0):=by simp[iL]
 simp only[qbe,List.sum_nil,qaN,qcI]at e3 f4;rw[zdT (by omega),qaa,hz,zaJ];rw[show((0:Nat):Int)=0 from rfl]at e3 f4;rw[e3,qaa];simp only[];rw[f4,qaa];simp only[];rw[zaz hv,qaa,<- qbY,zaF,zuI hv,qaa];have:ys[v]<=ys.sum:=zjJ hv;omega
theorem zsq{c w:Nat}{os:List Int}{wh:Int}(hc:c<=5):∀(n i:Nat) (acc:List Int),acc.length=i->i<=c->c - i<n ->
  ∃ zs:List Int,zs.length=c/\za9 ⟨List.replicate c 0,wh,os⟩ n (i:Int) acc=some zs
 | 0,_,_,_,_,h=>absurd h (qan _)
 | n+1,i,acc,h1,h2,h3=>by
  unfold za9;simp only[List.length_replicate];by_cases hi:i<c
  .obtain⟨zs,e1,e2⟩:=zsq (w:=w) (os:=os) (wh:=wh) hc n (i+1) (acc ++ [1]) (by simp[h1]) hi (by omega);refine⟨zs,e1,?_⟩
   rw[zaq,qdn hi,qdl,qaa,show decide ((i:Int)<5)=true by simp; omega,qdl,zax (by simpa using hi),qaa,
    List.getElem_replicate,show w64 (1+w64 ((0:Int).tmod 4))=1 from rfl,zcm (by simp; omega),qaa,zak (by omega),e2]
  exact⟨acc,by omega,by rw[zaq,qdo hi,qdm,qaa,qdm]⟩
variable{N:Nat}
theorem zvO{os:List Int}{wh:Int}(hc:c<=5)(hN:6<=N):∃ zs:List Int,zs.length=c/\zbD N ⟨List.replicate c 0,wh,os⟩=some zs:=by
 obtain⟨zs,e1,e2⟩:=zsq (w:=0) (os:=os) (wh:=wh) hc N 0 [] rfl (qaw _) (by omega);refine⟨zs,e1,?_⟩;unfold zbD;rw[show((0:Nat):Int)=0 from rfl]at e2;rw[e2,qaa]
structure PermOk (c:Nat) (xs:List Nat):Prop where
 len:xs.length=c
 nod:xs.Nodup
 lt:∀ x∈xs,x<c
 all:∀ x,x<c->x∈xs
theorem zmJ{α:Type}{xs:List α}(h1:a<=b)(h2:b<=xs.length):ze8 xs (a:Int) (b:Int)=some ((xs.drop a).take (b - a)):=by
 unfold ze8;rw[if_pos (by omega)];simp
theorem zxP{c N:Nat}{os:List Nat}{wh:Int}(hc:c<=5)(hN:6<=N)(ho:∀ o∈os,o<=255):∀(n i:Nat) (xs:List Nat),PermOk i xs->i<=c->c - i<n ->
  ∃ zs:List Nat,PermOk c zs/\zav N ⟨List.replicate c 0,wh,iL os⟩ n (i:Int) (iL xs)=some (iL zs)
 | 0,_,_,_,_,h=>absurd h (qan _)
 | n+1,i,xs,h1,h2,h3=>by
  unfold zav;obtain⟨z0,z1,z2⟩:=zvO (os:=iL os) (wh:=wh) hc hN;rw[z2,qaa,z1];by_cases hi:i<c
  .have step:∀ q:Nat,q<=i->∃ zs:List Nat,PermOk c zs/\((ze8 (iL xs) 0 (q:Int)).bind λy9=>
     (zfk 8 y9).bind λy11=>(zc2 8 y9 [(i:Int)]).bind λy13=>(ze8 (iL xs) (q:Int) (iL xs).length).bind λy15=>(zc2 8 y13 y15).bind λy17=>
     zav N ⟨List.replicate c 0,wh,iL os⟩ n (w64 ((i:Int)+1)) y17)=some (iL zs):=by
    intro q hq;have hl:=h1.len;have hp:List.Perm (xs.take q ++ i :: xs.drop q) (i :: xs):=by
     refine List.perm_middle.trans ?_;rw[qco]
    obtain⟨zs,e1,e2⟩:=zxP (wh:=wh) hc hN ho n (i+1) (xs.take q ++ i :: xs.drop q) ⟨by rw[hp.length_eq]; simp[hl],hp.nodup_iff.2 (qc4.2 ⟨λhx=>qce _ (h1.lt _ hx),h1.nod⟩),
     λx hx=>by
      rcases qbc.1 (hp.mem_iff.1 hx)with h | h
      .omega
      have:=h1.lt _ h; omega,
     λx hx=>hp.mem_iff.2 (by
      by_cases hxi:x=i
      .exact qbc.2 (.inl hxi)
      exact qai _ (h1.all _ (by omega)))⟩ hi (by omega)
    refine⟨zs,e1,?_⟩
    rw[show(0:Int)=((0:Nat):Int)from rfl,zmJ (qaw _) (by rw[zam]; omega),qaa,zp1 (by simp[zam]; omega),qaa,
     zcm (by simp[zam]; omega),qaa,zmJ (by rw[zam]; omega) (qap _),qaa,zcm (by simp[zam]; omega),qaa,zak (by omega),<- e2]
    congr 1
    simp[iL,qaV]
   rw[zaq,qdn hi,qdl];simp only[zam (os)];by_cases hio:i<os.length
   .have hq:os[i] % (i+1)<=i:=Nat.lt_succ_iff.1 (qbM _ (qdc _));have hb:=ho _ (qas hio);obtain⟨zs,e1,e2⟩:=step _ hq;refine⟨zs,e1,?_⟩;rw[zaq,qdn hio,qdl,zaz hio,qaa,zaF (by omega),zak (by omega),zoF (by omega),qaa,qaa,<- zak (by omega)];exact e2
   obtain⟨zs,e1,e2⟩:=step 0 (qaw _);refine⟨zs,e1,?_⟩;rw[zaq,qdo hio,qdm,qaa];exact e2
  have:i=c:=by omega
  subst this;exact⟨xs,h1,by rw[zaq,qdo hi,qdm]⟩
theorem zzc{os:List Nat}{wh:Int}(hc:c<=5)(hN:6<=N)(ho:∀ o∈os,o<=255):
  ∃ zs:List Nat,PermOk c zs/\zaV N ⟨List.replicate c 0,wh,iL os⟩=some (iL zs):=by
 obtain⟨zs,e1,e2⟩:=zxP (wh:=wh) hc hN ho N 0 [] ⟨rfl,List.nodup_nil,by simp,by simp⟩ (qaw _) (by omega);refine⟨zs,e1,?_⟩;unfold zaV;rw[show((0:Nat):Int)=0 from rfl,show iL []=[]from rfl]at e2;rw[e2,qaa]
structure NN where
 c:Nat
 ps:List Nat
 rows:List (List Nat)
def nd(x:NN):S_api_Node:=⟨x.c,iL x.ps,x.rows.map iL⟩
theorem zpe(k:IntKind)(a:Int):∃ q,zkk k a (v:Int)=some q:=by
 unfold zkk;rw[if_pos (qaF v)];exact⟨_,rfl⟩
variable{num:List Nat}{k:Nat}
theorem zwh{ps8:Int}{u:Nat}(hk:k<num.length):∃ b,zwt (iL num) ps8 (u:Int) (k:Int) (iL ps)=some b/\(b=true->num[k]=u/\ps.length<3):=by
 unfold zwt;rw[zaz hk,qaa];by_cases h:num[k]=u
 .obtain⟨q,e⟩:=zpe .u8 ps8 (v:=k % 18446744073709551616);rw[show(((num[k]:Nat):Int)==(u:Int))=true by simp[h],qdl,zx4,e,qaa];cases ziu .u8 q 1 == 1 with
  | true=>exact⟨_,rfl,λh2=>⟨h,by rw[zam]at h2; have:=qds h2; omega⟩⟩
  | false=>exact⟨_,rfl,λh2=>by cases h2⟩
 rw[show(((num[k]:Nat):Int)==(u:Int))=false by simp; omega,qdm];exact⟨_,rfl,λh2=>by cases h2⟩
theorem zk1{num:List Nat}{ps8:Int}{u i:Nat}(hi:i<=num.length)(hn:num.length<=5)(hd:num.Nodup):∀(n k:Nat) (ps:List Nat),ps.length<=3->k<=i->i - k<n ->
  ∃ qs:List Nat,zor (iL num) (i:Int) ps8 (u:Int) n (k:Int) (iL ps)=some (iL qs)/\(qs=ps\/(qs=ps ++ [u]/\ps.length<3/\∃ j,k<=j/\j<i/\num[j]? = some u))
 | 0,_,_,_,_,h=>absurd h (qan _)
 | n+1,k,ps,h1,h2,h3=>by
  unfold zor;by_cases hk:k<i
  .obtain⟨b,e,hb⟩:=zwh (num:=num) (ps:=ps) (ps8:=ps8) (u:=u) (k:=k) (by omega);rw[zaq,qdn hk,qdl,e,qaa];cases b with
   | false=>
    obtain⟨qs,e2,h4⟩:=zk1 (ps8:=ps8) (u:=u) hi hn hd n (k+1) ps h1 hk (by omega);refine⟨qs,by rw[qdm,zak (by omega),e2],?_⟩;rcases h4 with h4 | ⟨h4,h5,j,h6,h7,h8⟩
    .exact .inl h4
    .exact .inr ⟨h4,h5,j,by omega,h7,h8⟩
   | true=>
    obtain⟨h5,h6⟩:=hb rfl;obtain⟨qs,e2,h4⟩:=zk1 (ps8:=ps8) (u:=u) hi hn hd n (k+1) (ps ++ [u]) (by simp; omega) hk (by omega);refine⟨qs,?_,.inr ⟨?_,h6,k,qap _,hk,by rw[qac (by omega),h5]⟩⟩
    .rw[qdl,zcm (by simp[zam]; omega),qaa,zak (by omega),<- e2];simp[iL]
    rcases h4 with h4 | ⟨h4,h7,j,h8,h9,h10⟩
    .exact h4
    exfalso
    have hj:j<num.length:=by omega
    rw[qac hj]at h10;have h12:num[j]=num[k]'(by omega):=by rw[h5]; exact qal h10
    exact qbr.1 hd k j (by omega) hj (by omega) h12.symm
  exact⟨ps,by rw[zaq,qdo hk,qdm],.inl rfl⟩
structure ParOk (num:List Nat) (i:Nat) (b:Nat) (ps:List Nat):Prop where
 len:ps.length<=3
 inc:ps.Pairwise (· < ·)
 lt:∀ p∈ps,p<b
 mem:∀ p∈ps,∃ j,j<i/\num[j]? = some p
theorem zpk{num:List Nat}{ps8:Int}{i c:Nat}(hi:i<=num.length)(hn:num.length<=5)(hc:c<=5)(hd:num.Nodup):∀(n u:Nat) (ps:List Nat),ParOk num i u ps->u<=c->c - u<n ->
  ∃ qs:List Nat,zqp (iL num) (i:Int) ps8 (c:Int) n (u:Int) (iL ps)=some (iL qs)/\ParOk num i c qs
 | 0,_,_,_,_,h=>absurd h (qan _)
 | n+1,u,ps,h1,h2,h3=>by
  unfold zqp;by_cases hu:u<c
  .obtain⟨qs,e,h4⟩:=zk1 (ps8:=ps8) (u:=u) hi hn hd (i+2) 0 ps h1.len (qaw _) (by omega);rw[show((0:Nat):Int)=0 from rfl]at e;have hq:ParOk num i (u+1) qs:=by
    rcases h4 with h4 | ⟨h4,h5,j,h6,h7,h8⟩
    .subst h4;exact⟨h1.len,h1.inc,λp hp=>qcN (h1.lt p hp),h1.mem⟩
    subst h4;refine⟨by simp; omega,?_,?_,?_⟩
    .rw[qcP];exact⟨h1.inc,List.pairwise_singleton _ _,λa ha b hb=>by rw[qbf.1 hb]; exact h1.lt a ha⟩
    .intro p hp;rcases qbv.1 hp with hp | hp
     .exact qcN (h1.lt p hp)
     rw[qbf.1 hp]; exact qaW _
    intro p hp;rcases qbv.1 hp with hp | hp
    .exact h1.mem p hp
    rw[qbf.1 hp]; exact⟨j,h7,h8⟩
   obtain⟨rs,e2,h9⟩:=zpk (ps8:=ps8) hi hn hc hd n (u+1) qs hq hu (by omega);refine⟨rs,?_,h9⟩;rw[zaq,qdn hu,qdl,qaq,e,qaa,zak (by omega),e2]
  have:u=c:=by omega
  subst this;exact⟨ps,by rw[zaq,qdo hu,qdm],h1⟩
variable{ns:List NN}
theorem zcq(h:v<ns.length):zaC (ns.map nd) (v:Int)=some (nd ns[v]):=by
 rw[zax (by simpa using h)]; simp
theorem zgH{x:NN}(h:v<ns.length):zd2 (ns.map nd) (v:Int) (nd x)=some ((ns.set v x).map nd):=by
 rw[zd7 (by simpa using h)]; simp
theorem zzu{ps8:Int}(hi:i<=num.length)(hn:num.length<=5)(hl:ns.length<=5)(hd:num.Nodup)(hv:v<ns.length)(hp:ns[v].ps=[]):
  ∃ qs:List Nat,zov (iL num) (i:Int) (v:Int) (ns.length:Int) ps8 (ns.map nd)=some ((ns.set v ⟨ns[v].c,qs,ns[v].rows⟩).map nd)/\ParOk num i ns.length qs:=by
 obtain⟨qs,e,h⟩:=zpk (ps8:=ps8) hi hn hl hd (ns.length+2) 0 [] ⟨by simp,by simp,by simp,by simp⟩ (qaw _) (by omega);refine⟨qs,?_,h⟩;unfold zov;rw[show((0:Nat):Int)=0 from rfl,show iL []=[]from rfl]at e;rw[zcq hv,qaa,show(nd ns[v]).parents.isEmpty=true by simp[nd,hp,iL],qdl,qaq,e,qaa];exact zgH (x:=⟨ns[v].c,qs,ns[v].rows⟩) hv
structure RowsOk (g c m:Nat) (rows:List (List Nat)):Prop where
 len:rows.length=m
 row:∀ r∈rows,r.length=c/\r.sum=g
theorem zi4{x:NN}(hv:v<ns.length)(hx:x.c=ns[v].c):(ns.set v x).map (·.c)=ns.map (·.c):=by
 rw[qct,hx];apply qcX (by simp);intro i h1 h2;rw[List.getElem_set];split
 .subst_vars; simp
 rfl
def zdu(ns:List NN)(ps:List Nat):List Nat:=ps.map λp=>(ns.map (·.c)).getD p 0
theorem zyq{p:Nat}:(iL xs).getD p 0=((xs.getD p 0:Nat):Int):=by
 simp only[iL,qaj,qaO];cases xs[p]?<;>rfl
theorem zCK{g:Int}(hl:ns.length<=8)(hv:v<ns.length)(hp:Pl ns.length ns[v].ps)(h8:ns[v].ps.length<=8):
  zbf ⟨g,ns.map nd⟩ (v:Int)=some (iL (zdu ns ns[v].ps)):=by
 unfold zbf;rw[zcq hv,qaa,zvt (by simpa using hl),qaa];have hc:(ns.map nd).map (·.card)=iL (ns.map (·.c)):=by simp[iL,nd,qbG]
 simp only[];rw[hc,show(nd ns[v]).parents=iL ns[v].ps from rfl,zCU (by rw[zam,qaX]; exact hp) h8,qaa];congr 1
 simp only[zyq];simp only[zdu,iL,List.map_map,qbG]
theorem zqd{g:Nat}{W:List Nat}{ns:List NN}{v m:Nat}(hg:g<=60)(hl:ns.length<=8)(hv:v<ns.length)(hp:Pl ns.length ns[v].ps)(h8:ns[v].ps.length<=8)(hc1:1<=ns[v].c)(hc4:ns[v].c<=4)
  (hs:∀ x∈zdu ns ns[v].ps,1<=x) (hm:zae (zdu ns ns[v].ps)=m) (hm2:m<=1024):∀(n r:Nat) (rows:List (List Nat)),RowsOk g ns[v].c r rows->r<=m->m - r<n ->
  ∃ rows',RowsOk g ns[v].c m rows'/\zre (g:Int) (v:Int) (iL W) (ns.map nd) (nd ns[v]) n (r:Int) (rows.map iL)=some (rows'.map iL)
 | 0,_,_,_,_,h=>absurd h (qan _)
 | n+1,r,rows,h1,h2,h3=>by
  unfold zre;have hx:(⟨(nd ns[v]).card,(nd ns[v]).parents,rows.map iL⟩:S_api_Node)=nd ⟨ns[v].c,ns[v].ps,rows⟩:=rfl;have hpc:zbf ⟨g,(ns.set v ⟨ns[v].c,ns[v].ps,rows⟩).map nd⟩ (v:Int)=some (iL (zdu ns ns[v].ps)):=by
   rw[zCK (by simpa using hl) (by simpa using hv) (by simpa using hp) (by simpa using h8)];unfold zdu;rw[zi4 (x:=⟨ns[v].c,ns[v].ps,rows⟩) hv rfl];simp
  rw[hx,zgH hv,qaa,hpc,qaa,zzm hs (by simpa [zdu]using h8) (by omega),qaa,hm];by_cases hr:r<m
  .have hmul:r * (ns[v].c+1)<=1024 * 5:=qa9 (by omega) (by omega);obtain⟨zs,e1,e2,e3⟩:=zyE (ws:=W) (g:=g) (p:=r * (ns[v].c+1)) (c:=ns[v].c) hg (by omega) hc1 (by omega)
   obtain⟨rows',e4,e5⟩:=zqd hg hl hv hp h8 hc1 hc4 hs hm hm2 (W:=W) n (r+1) (rows ++ [zs]) ⟨by simp[h1.len],by
    intro y hy;rcases qbv.1 hy with hy | hy
    .exact h1.row y hy
    rw[qbf.1 hy]; exact⟨e1,e2⟩⟩ hr (by omega)
   refine⟨rows',e4,?_⟩;have hcard:(nd ns[v]).card=((ns[v].c:Nat):Int):=rfl;have hlen:=h1.len;rw[zaq,qdn hr,qdl,hcard,zak (by omega),<- qa4,zaF (by omega),e3,qaa,zcm (by simp; omega),qaa,zak (by omega),<- e5];simp
  have:r=m:=by omega
  subst this;exact⟨rows,h1,by rw[zaq,qdo hr,qdm]⟩
theorem zys{g:Nat}{W:List Nat}{ns:List NN}{v:Nat}(hg:g<=60)(hl:ns.length<=8)(hv:v<ns.length)(hp:Pl ns.length ns[v].ps)(h8:ns[v].ps.length<=8)(hc1:1<=ns[v].c)(hc4:ns[v].c<=4)(hs:∀ x∈zdu ns ns[v].ps,1<=x)(hm2:zae (zdu ns ns[v].ps)<=1024)(hr:ns[v].rows=[])(hN:1025<=N):
  ∃ rows,RowsOk g ns[v].c (zae (zdu ns ns[v].ps)) rows/\znS N (g:Int) (v:Int) (iL W) (ns.map nd)=some ((ns.set v ⟨ns[v].c,ns[v].ps,rows⟩).map nd):=by
 obtain⟨rows,e1,e2⟩:=zqd hg hl hv hp h8 hc1 hc4 hs rfl hm2 (W:=W) N 0 [] ⟨rfl,by simp⟩ (qaw _) (by omega);refine⟨rows,e1,?_⟩;unfold znS;rw[show((0:Nat):Int)=0 from rfl,show([]:List (List Nat)).map iL=[]from rfl]at e2;rw[zcq hv,qaa,show(nd ns[v]).rows.isEmpty=true by simp[nd,hr],qdl,e2,qaa];exact zgH (x:=⟨ns[v].c,ns[v].ps,rows⟩) hv
def dig:List Nat->Nat->List Nat
 | [],_=>[]
 | _ :: cs,i=>i / zae cs :: dig cs (i % zae cs)
theorem zcT:∀(cs:List Nat) (i:Nat),(dig cs i).length=cs.length
 | [],_=>rfl
 | _ :: cs,i=>by simp[dig,zcT cs]
def zeM:List Nat->List Nat->Prop
 | [],[]=>True
 | c :: cs,x :: xs=>x<c/\c<=8/\zeM cs xs
 | _,_=>False
theorem zeM.len:∀ {cs xs:List Nat},zeM cs xs->xs.length=cs.length
 | [],[],_=>rfl
 | c :: cs,x :: xs,h=>by simp[h.2.2.len]
theorem zeM.snoc:∀ {cs xs:List Nat} {c x:Nat},zeM (cs ++ [c]) (xs ++ [x])->xs.length=cs.length->zeM cs xs/\x<c/\c<=8
 | [],[],c,x,h,_=>⟨qdk,h.1,h.2.1⟩
 | c :: cs,x :: xs,_,_,h,hl=>by
  obtain⟨h1,h2,h3⟩:=h;obtain⟨g1,g2⟩:=h3.snoc (by simpa using hl);exact⟨⟨h1,h2,g1⟩,g2⟩
theorem zfB{cs:List Nat}(h:∀ c∈cs,1<=c/\c<=8):0<zae cs:=zdH λc hc=>(h c hc).1
theorem zfe:∀ {cs:List Nat} {i:Nat},(∀ c∈cs,1<=c/\c<=8)->i<zae cs->zeM cs (dig cs i)
 | [],_,_,_=>trivial
 | c :: cs,i,h,hi=>by
  have hc:=h c qao;have hp:=zfB λd hd=>h d (qai c hd)
  refine⟨?_,hc.2,zfe (λd hd=>h d (qai c hd)) (qbM _ hp)⟩;have h1:i<c * zae cs:=hi;exact Nat.div_lt_of_lt_mul (by rw[qbx]; exact h1)
def nxt:List Nat->List Nat->Option (List Nat)
 | c :: cs,v :: vs=>match nxt cs vs with
  | some vs'=>some (v :: vs')
  | none=>if v+1<c then some ((v+1):: List.replicate vs.length 0)else none
 | _,_=>none
theorem ziJ:∀ {cs vs:List Nat} {c v:Nat},vs.length=cs.length->v+1<c->nxt (cs ++ [c]) (vs ++ [v])=some (vs ++ [v+1])
 | [],[],c,v,_,h=>by simp[nxt,h]
 | d :: cs,u :: vs,c,v,hl,h=>by
  simp only[qaL,nxt,ziJ (show vs.length=cs.length by simpa using hl) h]
theorem zhB:∀ {cs vs:List Nat} {c v:Nat},vs.length=cs.length->¬ v+1<c->nxt (cs ++ [c]) (vs ++ [v])=(nxt cs vs).map (· ++ [0])
 | [],[],c,v,_,h=>by simp[nxt,h]
 | d :: cs,u :: vs,c,v,hl,h=>by
  simp only[qaL,nxt,zhB (show vs.length=cs.length by simpa using hl) h];cases hn:nxt cs vs with
  | some vs'=>rfl
  | none=>
   simp only[qc3];by_cases hu:u+1<d
   .rw[if_pos hu,if_pos hu];simp[List.replicate_succ']
   rw[if_neg hu,if_neg hu]; rfl
theorem zlg:∀(cs:List Nat),dig cs 0=List.replicate cs.length 0
 | []=>rfl
 | c :: cs=>by simp[dig,zlg cs,qaU]
theorem zsv:∀ {cs:List Nat} {i:Nat},(∀ c∈cs,1<=c/\c<=8)->i<zae cs->nxt cs (dig cs i)=if i+1<zae cs then some (dig cs (i+1))else none
 | [],i,_,hi=>by
  have:i=0:=by simpa [zae]using hi
  subst this;simp[nxt,zae]
 | c :: cs,i,h,hi=>by
  have hp:=zfB λd hd=>h d (qai c hd)
  have hm:=qbM i hp;have ih:=zsv (λd hd=>h d (qai c hd)) hm;have hi':i<c * zae cs:=hi;simp only[dig,nxt,ih];have hdm:=qcs i (zae cs);generalize hq:i / zae cs=q at *;generalize hr:i % zae cs=r at *;have hprod:zae (c :: cs)=c * zae cs:=rfl;by_cases h1:r+1<zae cs
  .rw[if_pos h1];have e1:(i+1) / zae cs=q:=by
    rw[<- hdm,qbi,Nat.mul_add_div hp,Nat.div_eq_of_lt h1,qbo]
   have e2:(i+1) % zae cs=r+1:=by
    rw[<- hdm,qbi,Nat.mul_add_mod,qbz h1]
   have hqc:q<c:=by rw[<- hq]; exact Nat.div_lt_of_lt_mul (by rw[qbx]; exact hi')
   have h2:i+1<zae (c :: cs):=by
    rw[hprod];have:(q+1)* zae cs<=c * zae cs:=qaE _ hqc;rw[qaT,qbS,qbx q]at this;omega
   rw[if_pos h2,e1,e2]
  rw[if_neg h1];have hr1:r+1=zae cs:=by omega
  have hi1:i+1=zae cs * (q+1):=by rw[qc9,qbI]; omega
  simp only;have h4:(q+1<c)↔(i+1<zae (c :: cs)):=by
   rw[hprod,hi1,qbx c];exact(Nat.mul_lt_mul_left hp).symm
  by_cases h5:q+1<c
  .rw[if_pos h5,if_pos (h4.1 h5),hi1,Nat.mul_div_cancel_left _ hp,Nat.mul_mod_right,zlg,zcT]
  rw[if_neg h5,if_neg (λh=>h5 (h4.2 h))]
variable{ys:List Nat}
theorem zcO(h:xs.length=k):zaC (iL (xs ++ x :: ys)) (k:Int)=some (x:Int):=by
 subst h;rw[zaz (by simp)];simp
theorem zfC(h:xs.length=k):zd2 (iL (xs ++ x :: ys)) (k:Int) (y:Int)=some (iL (xs ++ y :: ys)):=by
 subst h;rw[zd7 (by rw[zam]; simp)];simp[iL]
theorem zrC(h:xs.length=k+1):∃ ys y,xs=ys ++ [y]/\ys.length=k:=by
 have hne:xs≠[]:=by rintro rfl; simp at h
 exact⟨xs.dropLast,xs.getLast hne,(List.dropLast_concat_getLast hne).symm,by simp[h]⟩
theorem zsm(cs:List Nat):∀ a:Nat,(iL cs).foldl (· * ·) (a:Int)=((a * zae cs:Nat):Int):=by
 induction cs with
 | nil=>intro a; simp[iL,zae]
 | cons c cs ih=>
  intro a;show(iL cs).foldl (· * ·) ((a:Int)* (c:Int))=_;rw[<- qa4,ih,qbj];rfl
abbrev U64:Nat:=18446744073709551616
def WB(s:List Nat):Prop:=s.length=16/\∀ w∈s,w<U64
def zdZ(s:List Nat)(j:Nat):Bool:=(s.getD (j / 64) 0).testBit (j % 64)
def orW(s o:List Nat):List Nat:=List.zipWith (· ||| ·) s o
def zlU(s o:List Nat):List Nat:=List.zipWith (· &&& ·) s o
def zwp(s o:List Nat):Bool:=(zlU s o).all (· == 0)
abbrev SS(ss:List (List Nat)):List (List Int):=ss.map iL
variable{s o:List Nat}
theorem zp3(f:Nat->Nat->Nat)(hf:f 0 0=0)(h:s.length=o.length)(k:Nat):(List.zipWith f s o).getD k 0=f (s.getD k 0) (o.getD k 0):=by
 rw[qaj,qaj,qaj,List.getElem?_zipWith];by_cases hk:k<s.length
 .rw[qac hk,qac (h ▸ hk)]; rfl
 rw[qaP (by omega),qaP (by omega)]; exact hf.symm
theorem zkX(h:s.length=o.length)(j:Nat):zdZ (orW s o) j=(zdZ s j || zdZ o j):=by
 unfold zdZ orW;rw[zp3 _ rfl h,Nat.testBit_or]
theorem zlA(h:s.length=o.length)(j:Nat):zdZ (zlU s o) j=(zdZ s j && zdZ o j):=by
 unfold zdZ zlU;rw[zp3 _ rfl h,Nat.testBit_and]
theorem WB.or(hs:WB s)(ho:WB o):WB (orW s o):=by
 refine⟨by simp[orW,hs.1,ho.1],λw hw=>?_⟩;obtain⟨i,hi,rfl⟩:=qbl.1 hw;simp only[orW,List.getElem_zipWith];exact qbV (n:=64) (hs.2 _ (qas _)) (ho.2 _ (qas _))
theorem WB.and(hs:WB s)(ho:WB o):WB (zlU s o):=by
 refine⟨by simp[zlU,hs.1,ho.1],λw hw=>?_⟩;obtain⟨i,hi,rfl⟩:=qbl.1 hw;simp only[zlU,List.getElem_zipWith];exact qcG Nat.and_le_left (hs.2 _ (qas _))
def zW:List Nat:=List.replicate 16 0
theorem zlB:WB zW:=⟨by simp[zW],λw hw=>by rw[qb9 hw]; decide⟩
theorem zjL(j:Nat):zdZ zW j=false:=by
 unfold zdZ zW;rw[qaj,qbX];split<;>simp
theorem zwE(hs:WB s)(ho:WB o):zwp s o=true↔∀ j,j<1024->¬(zdZ s j=true/\zdZ o j=true):=by
 have hl:s.length=o.length:=hs.1.trans ho.1.symm;have hw:=hs.and ho;unfold zwp;rw[qa2];constructor
 .intro h j hj ⟨h1,h2⟩;have h3:zdZ (zlU s o) j=true:=by rw[zlA hl,h1,h2]; rfl
  have h4:(zlU s o).getD (j / 64) 0=0:=by
   have hk:j / 64<(zlU s o).length:=by rw[hw.1]; omega
   rw[qaj,qac hk];exact beq_iff_eq.1 (h _ (qas hk))
  unfold zdZ at h3;rw[h4,qck]at h3;cases h3
 intro h w hm;obtain⟨i,hi,rfl⟩:=qbl.1 hm;have h16:i<16:=by rw[<- hw.1]; exact hi
 rw[qdp];refine qcS λb=>?_
 rw[qck];by_cases hb:b<64
 .have h1:=h (64 * i+b) (by omega);have h2:zdZ (zlU s o) (64 * i+b)=(zlU s o)[i].testBit b:=by
   unfold zdZ;rw[show(64 * i+b) / 64=i by omega,show(64 * i+b) % 64=b by omega,qaj,qac hi];rfl
  rw[<- h2,zlA hl];cases h3:zdZ s (64 * i+b)with
  | false=>rfl
  | true=>
   cases h4:zdZ o (64 * i+b)with
   | false=>rfl
   | true=>exact absurd ⟨h3,h4⟩ h1
 exact Nat.testBit_lt_two_pow (qbb (hw.2 _ hm) (qbu (n:=2) (by decide) (show 64<=b by omega)))
variable{ss:List (List Nat)}
theorem zq7(h:i<ss.length):zaC (SS ss) (i:Int)=some (iL ss[i]):=by
 rw[zax (by simpa using h)]; simp
theorem getSet{x:List Nat}(h:i<ss.length):zaC (SS (ss.set i x)) (i:Int)=some (iL x):=by
 rw[zq7 (by simpa using h)]; simp
theorem zAD{x y:List Nat}(h:i<ss.length):zd2 (SS (ss.set i x)) (i:Int) (iL y)=some (SS (ss.set i y)):=by
 rw[zd7 (by simpa using h)]; simp[SS,qct]
theorem zst{f:Int->Int}{w w':Nat}{pre suf:List Nat}(hi:i<ss.length)(hf:f (w:Int)=(w':Int)):
  zu1 f (SS (ss.set i (pre ++ w :: suf))) (i:Int) (pre.length:Int)=some (SS (ss.set i (pre ++ w' :: suf))):=by
 unfold zu1;rw[getSet hi,qaa,zcO rfl,qaa,hf,zfC rfl,qaa,zAD hi]
theorem zA0{ss:List (List Nat)}{i:Nat}(hi:i<ss.length):∀(suf sufo pre preo:List Nat) (n:Nat),suf.length=sufo.length->pre.length=preo.length->pre.length+suf.length=16->(∀ w∈suf,w<U64)->(∀ w∈sufo,w<U64)->suf.length<n ->
  nz1 (iL (preo ++ sufo)) (i:Int) n (pre.length:Int) (SS (ss.set i (pre ++ suf)))=some (SS (ss.set i (pre ++ orW suf sufo)))
 | _,_,_,_,0,_,_,_,_,_,h=>absurd h (qan _)
 | [],[],pre,preo,n+1,_,_,h3,_,_,_=>by
  unfold nz1;rw[qdo (by simp at h3; omega),qdm]; rfl
 | w :: suf,o :: sufo,pre,preo,n+1,h1,h2,h3,h4,h5,h6=>by
  have h3':pre.length+(suf.length+1)=16:=h3;unfold nz1;rw[qdn (by omega),qdl,zcO h2.symm,qaa,zst (f:=λx=>orI .u64 x (o:Int)) hi (orU (h4 w qao) (h5 o qao)),qaa,zak (by omega)];have e:=zA0 hi suf sufo (pre ++ [w ||| o]) (preo ++ [o]) n (by simpa using h1) (by simp[h2]) (by simp; omega) (λx hx=>h4 x (qai _ hx)) (λx hx=>h5 x (qai _ hx)) (by simpa using h6);simpa [orW]using e
theorem zB4(hi:i<ss.length)(hs:WB s)(ho:WB o):nz1 (iL o) (i:Int) 18 0 (SS (ss.set i s))=some (SS (ss.set i (orW s o))):=
 zA0 hi s o [] [] 18 (hs.1.trans ho.1.symm) rfl (by simp[hs.1]) hs.2 ho.2 (by rw[hs.1]; decide)
theorem zsR{ss:List (List Nat)}{i:Nat}(hi:i<ss.length)(ap:Bool):∀(suf sufo pre preo:List Nat) (n:Nat),suf.length=sufo.length->pre.length=preo.length->pre.length+suf.length=16->(∀ w∈suf,w<U64)->(∀ w∈sufo,w<U64)->suf.length<n ->
  nz3 4 (iL (preo ++ sufo)) (i:Int) n (pre.length:Int) (SS (ss.set i (pre ++ suf))) ap=some (SS (ss.set i (pre ++ zlU suf sufo)),ap)
 | _,_,_,_,0,_,_,_,_,_,h=>absurd h (qan _)
 | [],[],pre,preo,n+1,_,_,h3,_,_,_=>by
  unfold nz3;rw[qdo (by simp at h3; omega),qdm]; rfl
 | w :: suf,o :: sufo,pre,preo,n+1,h1,h2,h3,h4,h5,h6=>by
  have h3':pre.length+(suf.length+1)=16:=h3;unfold nz3;rw[qdn (by omega),qdl,zcO h2.symm,qaa,show((4:Int)== 4)=true from rfl,qdl,zst (f:=λx=>ziu .u64 x (o:Int)) hi (zBk (h4 w qao) (h5 o qao)),qaa,zak (by omega)];have e:=zsR hi ap suf sufo (pre ++ [w &&& o]) (preo ++ [o]) n (by simpa using h1) (by simp[h2]) (by simp; omega) (λx hx=>h4 x (qai _ hx)) (λx hx=>h5 x (qai _ hx)) (by simpa using h6);simpa [zlU]using e
theorem zpb(a:Nat):(((a:Nat):Int)== 0)=(a == 0):=by
 rw[qbE]; simp
theorem zxL{ss:List (List Nat)}{i:Nat}(hi:i<ss.length){kind:Int}(hk:(kind == 4)=false):∀(suf sufo pre preo:List Nat) (n:Nat) (ap:Bool),suf.length=sufo.length->pre.length=preo.length->pre.length+suf.length=16->(∀ w∈suf,w<U64)->(∀ w∈sufo,w<U64)->suf.length<n ->
  nz3 kind (iL (preo ++ sufo)) (i:Int) n (pre.length:Int) (SS (ss.set i (pre ++ suf))) ap=some (SS (ss.set i (pre ++ orW suf sufo)),ap && zwp suf sufo)
 | _,_,_,_,0,_,_,_,_,_,_,h=>absurd h (qan _)
 | [],[],pre,preo,n+1,ap,_,_,h3,_,_,_=>by
  unfold nz3;rw[qdo (by simp at h3; omega),qdm];cases ap<;>rfl
 | w :: suf,o :: sufo,pre,preo,n+1,ap,h1,h2,h3,h4,h5,h6=>by
  have h3':pre.length+(suf.length+1)=16:=h3;unfold nz3
  rw[qdn (by omega),qdl,zcO h2.symm,qaa,hk,qdm,getSet hi,qaa,zcO rfl,qaa,zst (f:=λx=>orI .u64 x (o:Int)) hi (orU (h4 w qao) (h5 o qao)),qaa,zak (by omega),
   zBk (h4 w qao) (h5 o qao),zpb]
  have e:=zxL hi hk suf sufo (pre ++ [w ||| o]) (preo ++ [o]) n (bif ap then(w &&& o)== 0 else false) (by simpa using h1) (by simp[h2]) (by simp; omega) (λx hx=>h4 x (qai _ hx)) (λx hx=>h5 x (qai _ hx)) (by simpa using h6);have e2:((bif ap then(w &&& o)== 0 else false) && zwp suf sufo)=(ap && zwp (w :: suf) (o :: sufo)):=by
   unfold zwp zlU;cases ap<;>simp
  rw[e2]at e;simpa [orW]using e
def zeT(kind:Int)(r:List Nat×Bool)(o:List Nat):List Nat×Bool:=bif kind == 4 then(zlU r.1 o,r.2)else(orW r.1 o,r.2 && zwp r.1 o)
theorem zB0(hi:i<ss.length)(kind:Int)(hs:WB s)(ho:WB o)(ap:Bool):
  nz3 kind (iL o) (i:Int) 18 0 (SS (ss.set i s)) ap=some (SS (ss.set i (zeT kind (s,ap) o).1),(zeT kind (s,ap) o).2):=by
 unfold zeT;have hl:s.length<18:=by rw[hs.1]; decide
 cases hk:(kind == 4)with
 | true=>
  have h4:=beq_iff_eq.1 hk;subst h4;exact zsR hi ap s o [] [] 18 (hs.1.trans ho.1.symm) rfl (by simp[hs.1]) hs.2 ho.2 hl
 | false=>exact zxL hi hk s o [] [] 18 ap (hs.1.trans ho.1.symm) rfl (by simp[hs.1]) hs.2 ho.2 hl
theorem zvd{kind:Int}{r:List Nat×Bool}(h:WB r.1)(ho:WB o):WB (zeT kind r o).1:=by
 unfold zeT;cases hk:(kind == 4)
 .exact h.or ho
 exact h.and ho
theorem zA9{ss:List (List Nat)}{i:Nat}(hi:i<ss.length){os:List (List Nat)}(ho:∀ o∈os,WB o)(hn:os.length<4000000):∀(n j:Nat) (s:List Nat),WB s->j<=os.length->os.length - j<n ->
  nz2 (SS os) (i:Int) n (j:Int) (SS (ss.set i s))=some (SS (ss.set i ((os.drop j).foldl orW s)))
 | 0,_,_,_,_,h=>absurd h (qan _)
 | n+1,j,s,hs,h1,h2=>by
  unfold nz2;rw[show(SS os).length=os.length by simp,zaq];by_cases hj:j<os.length
  .have hw:=ho _ (qas hj);rw[qdn hj,qdl,zq7 hj,qaa,zB4 hi hs hw,qaa,zak (by omega),zA9 hi ho hn n (j+1) _ (hs.or hw) hj (by omega),qat hj];rfl
  rw[qdo hj,qdm,qaD (by omega)]; rfl
theorem zzp{ss:List (List Nat)}{i:Nat}(hi:i<ss.length)(hw:∀ s∈ss,WB s){g:S_api_Gate}{ar:List Nat}(hg:g.args=iL ar)(ha:∀ a∈ar,a<i)(hn:ar.length<4000000):∀(n j:Nat) (s:List Nat) (ap:Bool),WB s->j<=ar.length->ar.length - j<n ->
  nz4 g (i:Int) n (j:Int) (SS (ss.set i s)) ap=some (SS (ss.set i (((ar.drop j).map λa=>ss.getD a []).foldl (zeT g.kind) (s,ap)).1),(((ar.drop j).map λa=>ss.getD a []).foldl (zeT g.kind) (s,ap)).2)
 | 0,_,_,_,_,_,h=>absurd h (qan _)
 | n+1,j,s,ap,hs,h1,h2=>by
  unfold nz4;rw[hg,zam,zaq];by_cases hj:j<ar.length
  .have h3:=ha _ (qas hj);have h4:ar[j]<ss.length:=by omega
   have h5:=hw _ (qas h4);have h6:zaC (SS (ss.set i s)) ((ar[j]:Nat):Int)=some (iL ss[ar[j]]):=by
    rw[zq7 (by simpa using h4),List.getElem_set_ne (by omega)]
   have h7:ss.getD ar[j] []=ss[ar[j]]:=by rw[qaj,qac h4]; rfl
   rw[qdn hj,qdl,zaz hj,qaa,h6,qaa,zB0 hi _ hs h5,qaa,zak (by omega)];simp only;rw[zzp hi hw hg ha hn n (j+1) _ _ (zvd hs h5) hj (by omega),qat hj,qaS,qbO,h7]
  rw[qdo hj,qdm,qaD (by omega)]; rfl
theorem bb1(a b:Bool)(n:Nat):¬(a=true/\b=true)->(a || b).toNat+n<=1->a.toNat+(n+if b=true then 1 else 0)<=1:=by
 cases a<;>cases b<;>simp<;>omega
theorem bb2(a b:Bool)(n:Nat):a.toNat+(n+if b=true then 1 else 0)<=1->¬(a=true/\b=true)/\(a || b).toNat+n<=1:=by
 cases a<;>cases b<;>simp<;>omega
theorem zAA{kind:Int}(hk:(kind == 4)=false):∀(os:List (List Nat)) (s:List Nat) (ap:Bool),WB s->(∀ o∈os,WB o)->
  (∀ j,zdZ (os.foldl (zeT kind) (s,ap)).1 j=(zdZ s j || os.any λo=>zdZ o j))/\WB (os.foldl (zeT kind) (s,ap)).1 /\
  ((os.foldl (zeT kind) (s,ap)).2=true↔ap=true/\∀ j,j<1024->(zdZ s j).toNat+os.countP (λo=>zdZ o j)<=1)
 | [],s,ap,hs,_=>by
  refine⟨λj=>by simp,hs,?_⟩;have:∀ j,(zdZ s j).toNat+0<=1:=λj=>by cases zdZ s j<;>decide
  simp only[List.foldl_nil,List.countP_nil];exact⟨λh=>⟨h,λj _=>this j⟩,λh=>h.1⟩
 | o :: os,s,ap,hs,ho=>by
  have h1:=ho o qao;have e:zeT kind (s,ap) o=(orW s o,ap && zwp s o):=by unfold zeT; rw[hk,qdm]
  rw[qbO,e];obtain⟨a1,a2,a3⟩:=zAA hk os (orW s o) (ap && zwp s o) (hs.or h1) λx hx=>ho x (qai _ hx)
  refine⟨λj=>by rw[a1,zkX (hs.1.trans h1.1.symm),qcO,Bool.or_assoc],a2,a3.trans ?_⟩;rw[qae,zwE hs h1];constructor
  .rintro⟨⟨b1,b2⟩,b3⟩;refine⟨b1,λj hj=>?_⟩;have c2:=b3 j hj;rw[zkX (hs.1.trans h1.1.symm)]at c2;rw[List.countP_cons];exact bb1 _ _ _ (b2 j hj) c2
  rintro⟨b1,b2⟩;have c:∀ j,j<1024->_:=λj hj=>bb2 _ _ _ (by have:=b2 j hj; rwa [List.countP_cons]at this)
  exact⟨⟨b1,λj hj=>(c j hj).1⟩,λj hj=>by rw[zkX (hs.1.trans h1.1.symm)]; exact(c j hj).2⟩
theorem zAE:∀(os:List (List Nat)) (s:List Nat) (ap:Bool),WB s->(∀ o∈os,WB o)->
  (∀ j,zdZ (os.foldl (zeT 4) (s,ap)).1 j=(zdZ s j && os.all λo=>zdZ o j))/\WB (os.foldl (zeT 4) (s,ap)).1/\(os.foldl (zeT 4) (s,ap)).2=ap
 | [],s,ap,hs,_=>⟨λj=>by simp,hs,rfl⟩
 | o :: os,s,ap,hs,ho=>by
  have h1:=ho o qao;have e:zeT 4 (s,ap) o=(zlU s o,ap):=rfl;rw[qbO,e];obtain⟨a1,a2,a3⟩:=zAE os (zlU s o) ap (hs.and h1) λx hx=>ho x (qai _ hx)
  exact⟨λj=>by rw[a1,zlA (hs.1.trans h1.1.symm),qb5,Bool.and_assoc],a2,a3⟩
theorem zBd:∀(os:List (List Nat)) (s:List Nat),WB s->(∀ o∈os,WB o)->(∀ j,zdZ (os.foldl orW s) j=(zdZ s j || os.any λo=>zdZ o j))/\WB (os.foldl orW s)
 | [],s,hs,_=>⟨λj=>by simp,hs⟩
 | o :: os,s,hs,ho=>by
  have h1:=ho o qao;rw[qbO];obtain⟨a1,a2⟩:=zBd os (orW s o) (hs.or h1) λx hx=>ho x (qai _ hx)
  exact⟨λj=>by rw[a1,zkX (hs.1.trans h1.1.symm),qcO,Bool.or_assoc],a2⟩
theorem zo4:∀(k:Nat) (xs cx cy zs:List Nat),xs.length=k->cx.length=k->zeM cx xs->k<=12 ->
  match nxt cx xs with
  | none=>zie (iL (cx ++ cy)) k (iL (xs ++ zs))=some (iL (List.replicate k 0 ++ zs),-1)
  | some xs'=>∃(r:List Int) (q:Nat) (v:Int),zie (iL (cx ++ cy)) k (iL (xs ++ zs))=some (r,(q:Int))/\zaC r (q:Int)=some v/\zd2 r (q:Int) (w64 (v+1))=some (iL (xs' ++ zs))
 | 0,xs,cx,cy,zs,hx,hc,_,_=>by
  obtain rfl:xs=[]:=qa5.1 hx;obtain rfl:cx=[]:=qa5.1 hc;rfl
 | k+1,xs,cx,cy,zs,hx,hc,hb,hk=>by
  obtain⟨xs,x,rfl,lx⟩:=zrC hx;obtain⟨cx,c,rfl,lc⟩:=zrC hc;obtain⟨hb1,hb2,hb3⟩:=hb.snoc (lx.trans lc.symm);simp only[qaI,qcm];unfold zie;rw[zcO lx,qaa,zcO lc,qaa,zfV (by omega) (by omega)];by_cases h1:x+1<c
  .rw[show(((x:Nat):Int)==((c:Nat):Int) - 1)=false from beq_eq_false_iff_ne.2 (by omega),qdm,ziJ (lx.trans lc.symm) h1];refine⟨_,k,_,rfl,zcO lx,?_⟩;rw[zak (by omega),zfC lx];simp
  rw[show(((x:Nat):Int)==((c:Nat):Int) - 1)=true from beq_iff_eq.2 (by omega),qdl,show(0:Int)=((0:Nat):Int)from rfl,zfC lx,qaa,zhB (lx.trans lc.symm) h1];have ih:=zo4 k xs cx (c :: cy) (0 :: zs) lx lc hb1 (by omega);cases hn:nxt cx xs with
  | none=>
   rw[hn]at ih;simp only[qc3]at ih ⊢;rw[ih];simp[List.replicate_succ']
  | some xs'=>
   rw[hn]at ih;simp only[qaM]at ih ⊢;obtain⟨r,q,v,e1,e2,e3⟩:=ih;exact⟨r,q,v,e1,e2,by rw[e3]; simp⟩
theorem zAK{cs:List Nat}(hc:∀ c∈cs,1<=c/\c<=8)(hl:cs.length<=12)(hp:zae cs<=4096):∀(m i n:Nat),i+(m+1)=zae cs->m<n ->
  zzE (iL cs) n (iL (dig cs i)) (i:Int)=some ((List.range' i (m+1)).map λj:Nat=>((j:Int),iL (dig cs j)))
 | m,i,0,_,h=>absurd h (qan _)
 | m,i,n+1,hi,hn=>by
  have h:=zo4 cs.length (dig cs i) cs [] [] (zcT _ _) rfl (zfe hc (by omega)) hl;simp only[qaY]at h;rw[zsv hc (by omega)]at h;unfold zzE;rw[zam];cases m with
  | zero=>
   rw[if_neg (by omega)]at h;simp only at h;rw[h,qaa];rfl
  | succ m=>
   rw[if_pos (by omega)]at h;simp only at h;obtain⟨r,q,v,e1,e2,e3⟩:=h;rw[e1,qaa];simp only;rw[qdo (by omega),qdm,e2,qaa,e3,qaa,zak (by omega),zAK hc hl hp m (i+1) n (by omega) (by omega)];rfl
theorem zCX{cs:List Nat}(hc:∀ c∈cs,1<=c/\c<=8)(hl:cs.length<=12)(hp:zae cs<=4096):zBH (iL cs)=some ((List.range' 0 (zae cs)).map λj:Nat=>((j:Int),iL (dig cs j))):=by
 have hpos:=zfB hc;obtain⟨m,hm⟩:∃ m,zae cs=m+1:=⟨zae cs - 1,by omega⟩;unfold zBH zeh;rw[if_pos (by rw[zam]; omega),qaa,zam,zdT (by omega),qaa];have h:=zsm cs 1;rw[qbS]at h;rw[show((1:Nat):Int)=1 from rfl]at h;rw[h,qaq,<- zuu,<- zlg];have e:=zAK hc hl hp m 0 (zae cs) (by omega) (by omega);rw[hm]at e ⊢;exact e
theorem zeM.get:∀ {cs xs:List Nat},zeM cs xs->∀(v:Nat) (h1:v<xs.length) (h2:v<cs.length),xs[v]<cs[v]
 | [],[],_,v,h1,_=>absurd h1 (qan _)
 | c :: cs,x :: xs,h,0,_,_=>h.1
 | c :: cs,x :: xs,h,v+1,h1,h2=>h.2.2.get v (by simpa using h1) (by simpa using h2)
def zu4(s:List Nat)(j:Nat):List Nat:=s.set (j / 64) (s.getD (j / 64) 0 ||| 2 ^ (j % 64))
theorem zye(hs:WB s)(j:Nat):WB (zu4 s j):=by
 refine⟨by simp[zu4,hs.1],λw hw=>?_⟩;rcases qbg hw with hw | rfl
 .exact hs.2 w hw
 refine qbV (n:=64) ?_ (qbJ (by decide) (qbM _ (by decide)));rw[qaj];by_cases hk:j / 64<s.length
 .rw[qac hk]; exact hs.2 _ (qas hk)
 rw[qaP (by omega)]; decide
variable{j:Nat}
theorem zrW(hs:s.length=16)(hj:j<1024)(t:Nat):zdZ (zu4 s j) t=(zdZ s t || t == j):=by
 have hk:j / 64<s.length:=by rw[hs]; omega
 unfold zdZ zu4;by_cases h:t / 64=j / 64
 .rw[h,qaj,qaC hk,qbP,Nat.testBit_or,qcx];congr 1
  rw[qbE,qdr,qdp];omega
 rw[qaj,qar (by omega),<- qaj,show(t == j)=false from beq_eq_false_iff_ne.2 (by omega),Bool.or_false]
theorem zvY(hs:WB s)(hj:j<1024):zkd (iL s) (j:Int)=some (iL (zu4 s j)):=by
 have hk:j / 64<s.length:=by rw[hs.1]; omega
 have e1:((j:Int).tmod 64)=((j % 64:Nat):Int):=rfl;have e2:((j:Int).tdiv 64)=((j / 64:Nat):Int):=rfl;have e3:s.getD (j / 64) 0=s[j / 64]:=by rw[qaj,qac hk]; rfl
 unfold zkd zu4
 rw[e1,e2,zBQ (qbM _ (by decide)),qaa,zaF (by omega),zaz hk,qaa,orU (hs.2 _ (qas hk)) (qbJ (by decide) (qbM _ (by decide)):2 ^ (j % 64)<2 ^ 64),
  zd7 (by rw[zam]; exact hk),e3]
 simp[iL,qct]
abbrev RR(rr:List (List (List Nat))):List (List (List Int)):=rr.map SS
def lit(rr:List (List (List Nat)))(v x:Nat):List Nat:=(rr.getD v []).getD x []
structure LI (cs:List Nat) (f:Nat->Nat) (rr:List (List (List Nat))):Prop where
 len:rr.length=cs.length
 row:∀ v,v<cs.length->(rr.getD v []).length=cs.getD v 0
 wb:∀ v x,v<cs.length->x<cs.getD v 0->WB (lit rr v x)
 bit:∀ v x t,v<cs.length->x<cs.getD v 0->zdZ (lit rr v x) t=(decide (t<f v) && (dig cs t).getD v 0 == x)
variable{f:Nat->Nat}{rr:List (List (List Nat))}
theorem LI.congr{cs:List Nat}{g:Nat->Nat}(h:LI cs f rr)(e:∀ v,v<cs.length->f v=g v):LI cs g rr:=
 ⟨h.len,h.row,h.wb,λv x t hv hx=>by rw[h.bit v x t hv hx,e v hv]⟩
theorem zap{α:Type}{xs:List α}{d:α}(h:i<xs.length):xs.getD i d=xs[i]:=by rw[qaj,qac h]; rfl
theorem zdX{α:Type}(xs:List α)(i j:Nat)(x d:α)(h:i<xs.length):(xs.set i x).getD j d=if j=i then x else xs.getD j d:=by
 rw[qaj];split
 .next e=>subst e; rw[qaC h]; rfl
 next e=>rw[qar (by omega),<- qaj]
theorem zvK{cs:List Nat}(h:LI cs f rr)(hv:v<cs.length)(hx:x<cs.getD v 0)(hj:j<1024)(hf:f v=j)(hd:(dig cs j).getD v 0=x):
  ∃ rr',zjH (RR rr) (v:Int) (x:Int) (j:Int)=some (RR rr')/\LI cs (λu=>if u=v then j+1 else f u) rr':=by
 have hv':v<rr.length:=by rw[h.len]; exact hv
 have e1:rr.getD v []=rr[v]:=zap hv';have hr:=h.row v hv;have hx':x<rr[v].length:=by rw[<- e1,hr]; exact hx
 have hw:=h.wb v x hv hx;have e2:lit rr v x=rr[v][x]:=by unfold lit; rw[e1,zap hx']
 refine⟨rr.set v (rr[v].set x (zu4 (lit rr v x) j)),?_,?_⟩
 .unfold zjH;have g1:zaC (RR rr) (v:Int)=some (SS rr[v]):=by rw[zax (by simpa using hv')]; simp
  rw[g1,qaa,zq7 hx',qaa,<- e2,zvY hw hj,qaa,zd7 (by simpa using hx'),qaa,zd7 (by simpa using hv')];simp[RR,SS,qct]
 have el:∀ u y,lit (rr.set v (rr[v].set x (zu4 (lit rr v x) j))) u y=if u=v/\y=x then zu4 (lit rr v x) j else lit rr u y:=by
  intro u y;show((rr.set v (rr[v].set x (zu4 (lit rr v x) j))).getD u []).getD y []=_;rw[zdX _ _ _ _ _ hv'];by_cases hu:u=v
  .subst hu;rw[if_pos rfl,zdX _ _ _ _ _ hx'];by_cases hy:y=x
   .rw[if_pos hy,if_pos ⟨rfl,hy⟩]
   rw[if_neg hy,if_neg (λa=>hy a.2)]; unfold lit; rw[e1]
  rw[if_neg hu,if_neg (λa=>hu a.1)]; rfl
 refine⟨by simp[h.len],λu hu=>?_,λu y hu hy=>?_,λu y t hu hy=>?_⟩
 .rw[zdX _ _ _ _ _ hv'];split
  .next e=>subst e; rw[qaG,<- e1,hr]
  exact h.row u hu
 .rw[el];split
  .exact zye hw j
  exact h.wb u y hu hy
 rw[el];by_cases hu':u=v
 .subst hu';rw[if_pos rfl];by_cases hy':y=x
  .subst hy';rw[if_pos ⟨rfl,rfl⟩,zrW hw.1 hj,h.bit u y t hu hy,hf];by_cases ht:t=j
   .subst ht;rw[show(t == t)=true from qdq t,Bool.or_true,qdn (qaW t),hd,qdq]; rfl
   rw[show(t == j)=false from beq_eq_false_iff_ne.2 ht,Bool.or_false,show decide (t<j+1)=decide (t<j)from decide_eq_decide.2 (by omega)]
  rw[if_neg (λa=>hy' a.2),h.bit u y t hu hy,hf];by_cases ht:t=j
  .subst ht;rw[show((dig cs t).getD u 0 == y)=false from beq_eq_false_iff_ne.2 (by rw[hd]; omega),qcf,qcf]
  rw[show decide (t<j+1)=decide (t<j)from decide_eq_decide.2 (by omega)]
 rw[if_neg (λa=>hu' a.1),if_neg hu',h.bit u y t hu hy]
theorem zxU{cs:List Nat}(hc:∀ c∈cs,1<=c/\c<=8)(hl:cs.length<=12){j:Nat}(hj:j<zae cs)(hp:zae cs<=1024):∀(n v:Nat) (rr:List (List (List Nat))),LI cs (λu=>if u<v then j+1 else j) rr->v<=cs.length->cs.length - v<n ->
  ∃ rr',zxC (j:Int) (iL (dig cs j)) n (v:Int) (RR rr)=some (RR rr')/\LI cs (λ_=>j+1) rr'
 | 0,_,_,_,_,h=>absurd h (qan _)
 | n+1,v,rr,h,h1,h2=>by
  unfold zxC;rw[zam,zcT,zaq];by_cases hv:v<cs.length
  .have hd:v<(dig cs j).length:=by rw[zcT]; exact hv
   have e:(dig cs j).getD v 0=(dig cs j)[v]:=zap hd;have hb:(dig cs j)[v]<cs.getD v 0:=by
    rw[zap hv];exact zeM.get (zfe hc hj) v hd hv
   obtain⟨rr1,q1,q2⟩:=zvK h hv hb (by omega) (if_neg (qce v)) e;rw[qdn hv,qdl,zaz hd,qaa,q1,qaa,zak (by omega)]
   exact zxU hc hl hj hp n (v+1) rr1 (q2.congr λu _=>by
    show(if u=v then j+1 else if u<v then j+1 else j)=(if u<v+1 then j+1 else j)
    (repeat' split)<;> omega) hv (by omega)
  rw[qdo hv,qdm];exact⟨rr,rfl,h.congr λu hu=>if_pos (by omega)⟩
theorem zxA{cs:List Nat}(hc:∀ c∈cs,1<=c/\c<=8)(hl:cs.length<=12)(hp:zae cs<=1024):∀(m i:Nat) (rr:List (List (List Nat))),i+m=zae cs->LI cs (λ_=>i) rr ->
  ∃ rr',zxD ((List.range' i m).map λj:Nat=>((j:Int),iL (dig cs j))) (RR rr)=some (RR rr')/\LI cs (λ_=>zae cs) rr'
 | 0,i,rr,hi,h=>⟨rr,rfl,by rw[<- hi]; exact h⟩
 | m+1,i,rr,hi,h=>by
  obtain⟨rr1,q1,q2⟩:=zxU hc hl (j:=i) (by omega) hp (cs.length+2) 0 rr (h.congr λu _=>(if_neg (qan u)).symm) (qaw _) (by omega);obtain⟨rr2,q3,q4⟩:=zxA hc hl hp m (i+1) rr1 (by omega) q2;refine⟨rr2,?_,q4⟩;rw[List.range'_succ,qaS];unfold zxD;rw[zam,zcT];rw[show((0:Nat):Int)=0 from rfl]at q1;rw[q1,qaa,q3]
theorem zno:∀ {cs:List Nat},(∀ c∈cs,c<=8)->zeC (iL cs)=some (RR (cs.map λc=>List.replicate c zW))
 | [],_=>rfl
 | c :: cs,h=>by
  have h8:=h c qao;show(zd5 128 (c:Int) z16).bind (λr=>(zeC (iL cs)).map λl=>r :: l)=_;rw[zdT (by omega),qaa,zno λd hd=>h d (qai _ hd)];have e:z16=iL zW:=rfl;simp[RR,SS,e]
theorem zq0{cs:List Nat}(hc:∀ c∈cs,1<=c/\c<=8)(hl:cs.length<=12)(hp:zae cs<=1024):∃ rr,zaW (iL cs)=some (RR rr)/\LI cs (λ_=>zae cs) rr:=by
 have h0:LI cs (λ_=>0) (cs.map λc=>List.replicate c zW):=by
  have e:∀ v,v<cs.length->(cs.map λc=>List.replicate c zW).getD v []=List.replicate (cs.getD v 0) zW:=by
   intro v hv;rw[zap (by simpa using hv),zap hv]; simp
  have e2:∀ v x,v<cs.length->x<cs.getD v 0->lit (cs.map λc=>List.replicate c zW) v x=zW:=by
   intro v x hv hx;unfold lit;rw[e v hv,zap (by simpa using hx)]; simp
  refine⟨by simp,λv hv=>by rw[e v hv]; simp,λv x hv hx=>by rw[e2 v x hv hx]; exact zlB,λv x t hv hx=>?_⟩;rw[e2 v x hv hx,zjL,qdo (qan t)]; rfl
 obtain⟨rr,q1,q2⟩:=zxA hc hl hp (zae cs) 0 _ (by omega) h0;refine⟨rr,?_,q2⟩;unfold zaW zeh;rw[if_pos (by rw[zam]; omega),qaa,zam,zdT (by omega),qaa,zno λc h=>(hc c h).2,qaa,zCX hc hl (by omega),qaa,q1]
inductive GtOk (cs:List Nat) (i:Nat):S_api_Gate->Prop
 | num (n:Nat) (h:n<=4611686018427387903):GtOk cs i ⟨1,0,0,(n:Int),[]⟩
 | is (v x:Nat) (hv:v<cs.length) (hx:x<cs.getD v 0):GtOk cs i ⟨2,(v:Int),(x:Int),0,[]⟩
 | op (k:Int) (hk:k=3\/k=4) (ar:List Nat) (ne:ar≠[]) (inc:ar.Pairwise (· < ·)) (lt:∀ a∈ar,a<i):GtOk cs i ⟨k,0,0,0,iL ar⟩
theorem zgW:∀ {ar:List Nat} {b i:Nat},ar.Pairwise (· < ·)->(∀ a∈ar,b<=a/\a<i)->ar.length+b<=max b i
 | [],b,i,_,_=>by simp; omega
 | a :: ar,b,i,h,hl=>by
  have h1:=hl a qao;have h2:=zgW (b:=a+1) (i:=i) (qbp.1 h).2 λx hx=>⟨(qbp.1 h).1 x hx,(hl x (qai _ hx)).2⟩
  simp only[qaH];omega
def vg(d:List Nat)(acc:List Bool)(g:S_api_Gate):Bool:=
 bif g.kind == 1 then decide (0<g.n)else bif g.kind == 2 then((d.getD g.var.toNat 0:Nat):Int)== g.val
 else bif g.kind == 4 then g.args.all (λa=>acc.getD a.toNat false)else g.args.any (λa=>acc.getD a.toNat false)
def pg(acc:List Bool)(g:S_api_Gate):Bool:=bif g.kind == 3 then decide (g.args.countP (λa=>acc.getD a.toNat false)<=1)else true
def okD(d:List Nat):List S_api_Gate->List Bool->Bool
 | [],_=>true
 | g :: gs,acc=>pg acc g && okD d gs (acc ++ [vg d acc g])
theorem LI.all{cs:List Nat}(hc:∀ c∈cs,1<=c/\c<=8)(h1:1<=cs.length){rr:List (List (List Nat))}(h:LI cs (λ_=>zae cs) rr):
  (∀ o∈rr.getD 0 [],WB o)/\(rr.getD 0 []).length<=8/\∀ j,((rr.getD 0 []).any λo=>zdZ o j)=decide (j<zae cs):=by
 have hr:=h.row 0 h1;have h8:cs.getD 0 0<=8:=by rw[zap h1]; exact(hc _ (qas h1)).2
 have e:∀ x,x<(rr.getD 0 []).length->lit rr 0 x=(rr.getD 0 []).getD x []:=λx _=>rfl
 refine⟨λo ho=>?_,by omega,λj=>?_⟩
 .obtain⟨x,hx,rfl⟩:=qbl.1 ho;have:=h.wb 0 x h1 (by omega);rw[e x hx,zap hx]at this;exact this
 rw[qbE,qcY,qdr];constructor
 .rintro⟨o,ho,hj⟩;obtain⟨x,hx,rfl⟩:=qbl.1 ho;have:=h.bit 0 x j h1 (by omega);rw[e x hx,zap hx,hj]at this;have h3:=(qae _ _ ▸ this.symm:_/\_).1;exact qds h3
 intro hj;have hb:=zfe hc hj;have hd:0<(dig cs j).length:=by rw[zcT]; exact h1
 have hx:(dig cs j).getD 0 0<cs.getD 0 0:=by rw[zap hd,zap h1]; exact hb.get 0 hd h1
 have hx':(dig cs j).getD 0 0<(rr.getD 0 []).length:=by omega
 refine⟨_,qas hx',?_⟩;have:=h.bit 0 ((dig cs j).getD 0 0) j h1 hx;rw[e _ hx',zap hx',qdn hj,qdq]at this;exact this
theorem zxn(a b:Nat):(((a:Nat):Int)==((b:Nat):Int))=(a == b):=by
 rw[qbE,qdp,qdp]; omega
theorem zwZ(ar:List Nat)(f:Nat->Bool):((iL ar).any λa=>f a.toNat)=ar.any f:=by simp[iL,List.any_map,qbG]
theorem zw3(ar:List Nat)(f:Nat->Bool):((iL ar).all λa=>f a.toNat)=ar.all f:=by simp[iL,List.all_map,qbG]
theorem zi1(ar:List Nat)(f:Nat->Bool):((iL ar).countP λa=>f a.toNat)=ar.countP f:=by simp[iL,qdj,qbG]
theorem zAm{cs:List Nat}(hc:∀ c∈cs,1<=c/\c<=8)(h1:1<=cs.length)(hp:zae cs<=1024)(h:LI cs (λ_=>zae cs) rr){ss:List (List Nat)}(hi:i<ss.length)(hw:∀ s∈ss,WB s)(hz:ss.getD i []=zW)(h4:ss.length<=4000){g:S_api_Gate}(hg:GtOk cs i g)(acc:Nat->List Bool)(ha:∀ t j,t<i->zdZ (ss.getD t []) j=(decide (j<zae cs) && (acc j).getD t false))(ap:Bool):
  ∃ s0 s1 ap1,nzF (RR rr) g (i:Int) (SS ss)=some (SS (ss.set i s0))/\nz4 g (i:Int) (g.args.length+2) 0 (SS (ss.set i s0)) ap=some (SS (ss.set i s1),ap1)/\WB s1 /\
   (∀ j,zdZ s1 j=(decide (j<zae cs) && vg (dig cs j) (acc j) g))/\(ap1=true↔ap=true/\∀ j,j<zae cs->pg (acc j) g=true):=by
 have hset:ss=ss.set i zW:=by
  have e:ss[i]=zW:=by rw[<- hz,zap hi]
  rw[<- e]; simp
 have h0:0<rr.length:=by rw[h.len]; exact h1
 have hrow:zaC (RR rr) 0=some (SS (rr.getD 0 [])):=by
  rw[show(0:Int)=((0:Nat):Int)from rfl,zax (by simpa using h0),zap h0]; simp
 obtain⟨u1,u2,u3⟩:=h.all hc h1;have hall:nz2 (SS (rr.getD 0 [])) (i:Int) ((SS (rr.getD 0 [])).length+2) 0 (SS ss)=some (SS (ss.set i ((rr.getD 0 []).foldl orW zW))):=by
  have:=zA9 hi u1 (by omega) ((rr.getD 0 []).length+2) 0 zW zlB (qaw _) (by omega);rw[<- hset]at this;simpa using this
 obtain⟨f1,f2⟩:=zBd (rr.getD 0 []) zW zlB u1;have f1':∀ j,zdZ ((rr.getD 0 []).foldl orW zW) j=decide (j<zae cs):=λj=>by rw[f1,zjL,qb4,u3]
 have hnil:∀(g:S_api_Gate) (s:List Nat) (ap:Bool),WB s->g.args=[]->nz4 g (i:Int) (g.args.length+2) 0 (SS (ss.set i s)) ap=some (SS (ss.set i s),ap):=λg s ap hs e=>by
  have:=zzp hi hw (g:=g) (ar:=[]) e (λa h=>nomatch h) (by decide) (g.args.length+2) 0 s ap hs (qaw _) (by simp);simpa using this
 cases hg with
 | num n hn=>
  cases hd:decide ((0:Int)<(n:Int))with
  | true=>
   refine⟨_,_,ap,?_,hnil _ _ _ f2 rfl,f2,λj=>?_,?_⟩
   .unfold nzF;show(bif decide ((0:Int)<(n:Int))then _ else _)=_;rw[hd,qdl,hrow,qaa,hall]
   .rw[f1'];show _=(decide (j<zae cs) && decide ((0:Int)<(n:Int)));rw[hd,qcn]
   .exact⟨λe=>⟨e,λ_ _=>rfl⟩,λe=>e.1⟩
  | false=>
   refine⟨zW,zW,ap,?_,hnil _ _ _ zlB rfl,zlB,λj=>?_,?_⟩
   .unfold nzF;show(bif decide ((0:Int)<(n:Int))then _ else _)=_;rw[hd,qdm,<- hset]
   .rw[zjL];show _=(decide (j<zae cs) && decide ((0:Int)<(n:Int)));rw[hd,qcf]
   .exact⟨λe=>⟨e,λ_ _=>rfl⟩,λe=>e.1⟩
 | is v x hv hx=>
  have hwb:=h.wb v x hv hx;refine⟨lit rr v x,lit rr v x,ap,?_,hnil _ _ _ hwb rfl,hwb,λj=>?_,?_⟩
  .have hv':v<rr.length:=by rw[h.len]; exact hv
   have hr:=h.row v hv;have hx':x<(rr.getD v []).length:=by omega
   have g1:zaC (RR rr) (v:Int)=some (SS (rr.getD v [])):=by rw[zax (by simpa using hv'),zap hv']; simp
   unfold nzF;show(zaC (RR rr) (v:Int)).bind _=_;rw[g1,qaa];show(zaC (SS (rr.getD v [])) (x:Int)).bind _=_;rw[zq7 hx',qaa,hset,zAD hi,<- hset];unfold lit;rw[zap hx']
  .rw[h.bit v x j hv hx];show _=(decide (j<zae cs) && ((((dig cs j).getD v 0:Nat):Int)==(x:Int)));rw[zxn]
  .exact⟨λe=>⟨e,λ_ _=>rfl⟩,λe=>e.1⟩
 | op k hk ar ne inc lt=>
  have hl:ar.length<4000000:=by
   have:=zgW (b:=0) (i:=i) inc λa h=>⟨qaw _,lt a h⟩
   omega
  have hn4:∀(s:List Nat),WB s->nz4 ⟨k,0,0,0,iL ar⟩ (i:Int) ((iL ar).length+2) 0 (SS (ss.set i s)) ap=some (SS (ss.set i ((ar.map λa=>ss.getD a []).foldl (zeT k) (s,ap)).1),((ar.map λa=>ss.getD a []).foldl (zeT k) (s,ap)).2):=λs hs=>by
   have:=zzp hi hw (g:=⟨k,0,0,0,iL ar⟩) (ar:=ar) rfl lt hl ((iL ar).length+2) 0 s ap hs (qaw _) (by rw[zam]; omega);simpa using this
  have hos:∀ o∈ar.map (λa=>ss.getD a []),WB o:=λo ho=>by
   obtain⟨a,ha,rfl⟩:=qaJ.1 ho;have:a<ss.length:=Nat.lt_trans (lt a ha) hi;rw[zap this];exact hw _ (qas this)
  have hany:∀ j,((ar.map λa=>ss.getD a []).any λo=>zdZ o j)=(decide (j<zae cs) && ar.any λa=>(acc j).getD a false):=λj=>by
   rw[List.any_map,qbE,qae,qcY,qcY,qdr];constructor
   .rintro⟨a,ha',hb⟩;have:=ha a j (lt a ha');rw[qb3,this,qae,qdr]at hb;exact⟨hb.1,a,ha',hb.2⟩
   rintro⟨hj,a,ha',hb⟩;refine⟨a,ha',?_⟩;rw[qb3,ha a j (lt a ha'),hb,qdn hj]; rfl
  have hmem:∀ j,j<zae cs->∀ a∈ar,zdZ (ss.getD a []) j=(acc j).getD a false:=λj hj a ha'=>by
   rw[ha a j (lt a ha'),qdn hj,qbB]
  rcases hk with rfl | rfl
  .obtain⟨o1,o2,o3⟩:=zAA (kind:=3) rfl (ar.map λa=>ss.getD a []) zW ap zlB hos;refine⟨zW,_,_,?_,hn4 zW zlB,o2,λj=>?_,o3.trans ⟨λ⟨e1,e2⟩=>⟨e1,λj hj=>?_⟩,λ⟨e1,e2⟩=>⟨e1,λj hj=>?_⟩⟩⟩
   .show some (SS ss)=_;rw[<- hset]
   .rw[o1,zjL,qb4,hany];show _=(_ && (iL ar).any λa=>(acc j).getD a.toNat false);rw[zwZ ar λa=>(acc j).getD a false]
   .have e3:=e2 j (by omega);rw[zjL,qdj]at e3;show decide ((iL ar).countP (λa=>(acc j).getD a.toNat false)<=1)=true;rw[zi1 ar λa=>(acc j).getD a false,qdr];have e4:ar.countP ((λo=>zdZ o j) ∘ λa=>ss.getD a [])=ar.countP λa=>(acc j).getD a false:=
     List.countP_congr λa ha'=>by rw[qb3,hmem j hj a ha']
    rw[e4]at e3;simpa using e3
   rw[zjL,qdj];by_cases hj':j<zae cs
   .have e3:decide ((iL ar).countP (λa=>(acc j).getD a.toNat false)<=1)=true:=e2 j hj';rw[zi1 ar λa=>(acc j).getD a false,qdr]at e3;have e4:ar.countP ((λo=>zdZ o j) ∘ λa=>ss.getD a [])=ar.countP λa=>(acc j).getD a false:=
     List.countP_congr λa ha'=>by rw[qb3,hmem j hj' a ha']
    rw[e4];simpa using e3
   have e4:ar.countP ((λo=>zdZ o j) ∘ λa=>ss.getD a [])=0:=
    List.countP_eq_zero.2 λa ha'=>by rw[qb3,ha a j (lt a ha'),qdo hj']; simp
   rw[e4]; decide
  obtain⟨o1,o2,o3⟩:=zAE (ar.map λa=>ss.getD a []) ((rr.getD 0 []).foldl orW zW) ap f2 hos;refine⟨_,_,_,?_,hn4 _ f2,o2,λj=>?_,?_⟩
  .unfold nzF;show(zaC (RR rr) 0).bind _=_;rw[hrow,qaa,hall]
  .rw[o1,f1'];show _=(_ && (iL ar).all λa=>(acc j).getD a.toNat false);rw[zw3 ar λa=>(acc j).getD a false];cases hj:decide (j<zae cs)with
   | false=>rfl
   | true=>
    rw[qbB,qbB,List.all_map,qbE,qa2,qa2];have hj:=qds hj;exact⟨λe a ha'=>by rw[<- hmem j hj a ha']; exact e a ha',λe a ha'=>by rw[qb3,hmem j hj a ha']; exact e a ha'⟩
  rw[o3];exact⟨λe=>⟨e,λ_ _=>rfl⟩,λe=>e.1⟩
theorem zAj{cs:List Nat}(hc:∀ c∈cs,1<=c/\c<=8)(h1:1<=cs.length)(hp:zae cs<=1024){rr:List (List (List Nat))}(h:LI cs (λ_=>zae cs) rr)
  {gs:List S_api_Gate} (hg:∀ i (h:i<gs.length),GtOk cs i gs[i]) (h4:gs.length<=4000):∀(n i:Nat) (fs:List (List Nat)) (acc:Nat->List Bool) (ap:Bool),fs.length=i->i<=gs.length->gs.length - i<n->(∀ s∈fs,WB s)->(∀ j,(acc j).length=i)->
   (∀ t j,t<i->zdZ (fs.getD t []) j=(decide (j<zae cs) && (acc j).getD t false))->
   ∃ sets b,nz5 (RR rr) gs n (i:Int) (SS (fs ++ List.replicate (gs.length - i) zW)) ap=some (sets,b)/\(b=true↔ap=true/\∀ j,j<zae cs->okD (dig cs j) (gs.drop i) (acc j)=true)
 | 0,_,_,_,_,_,_,h,_,_,_=>absurd h (qan _)
 | n+1,i,fs,acc,ap,hf,hi,hn,hwf,hacc,hb=>by
  unfold nz5;rw[zaq];by_cases hlt:i<gs.length
  .obtain⟨k,hk⟩:∃ k,gs.length - i=k+1:=⟨gs.length - i - 1,by omega⟩;have hss:fs ++ List.replicate (gs.length - i) zW=fs ++ zW :: List.replicate k zW:=by rw[hk,qaU]
   have hlen:(fs ++ zW :: List.replicate k zW).length=gs.length:=by simp[hf]; omega
   have hi':i<(fs ++ zW :: List.replicate k zW).length:=by rw[hlen]; exact hlt
   have hw:∀ s∈fs ++ zW :: List.replicate k zW,WB s:=λs hs=>by
    rcases qbv.1 hs with hs | hs
    .exact hwf s hs
    rcases qbc.1 hs with rfl | hs
    .exact zlB
    rw[qb9 hs]; exact zlB
   have hz:(fs ++ zW :: List.replicate k zW).getD i []=zW:=by
    rw[zap hi'];simp[<- hf]
   have hat:∀ t,t<i->(fs ++ zW :: List.replicate k zW).getD t []=fs.getD t []:=λt ht=>by
    rw[qaj,qaf (by omega),<- qaj]
   obtain⟨s0,s1,ap1,q1,q2,q3,q4,q5⟩:=zAm hc h1 hp h hi' hw hz (by omega) (hg i hlt) acc (λt j ht=>by rw[hat t ht]; exact hb t j ht) ap;rw[qdn hlt,qdl,zax hlt,qaa,hss,zq7 hi',qaa,q1,qaa,q2,qaa,zak (by omega)];simp only;have e:(fs ++ zW :: List.replicate k zW).set i s1=(fs ++ [s1])++ List.replicate (gs.length - (i+1)) zW:=by
    rw[qbD i s1 (by omega),hf,qbw,show gs.length - (i+1)=k by omega];simp
   rw[e];obtain⟨sets,b,r1,r2⟩:=zAj hc h1 hp h hg h4 n (i+1) (fs ++ [s1]) (λj=>acc j ++ [vg (dig cs j) (acc j) gs[i]]) ap1 (by simp[hf]) hlt (by omega)
    (λs hs=>by
     rcases qbv.1 hs with hs | hs
     .exact hwf s hs
     rw[qbf.1 hs]; exact q3)
    (λj=>by simp[hacc j]) (λt j ht=>by
     by_cases ht':t<i
     .rw[qaj,qaf (by omega),<- qaj,hb t j ht'];congr 1
      rw[qaj,qaj,qaf (by rw[hacc]; exact ht')]
     obtain rfl:t=i:=by omega
     rw[qaj,qak (by omega),hf,qbw];show zdZ s1 j=_;rw[q4 j];congr 1
     rw[qaj,qak (by rw[hacc]; exact qap _),hacc,qbw]
     rfl)
   refine⟨sets,b,r1,r2.trans ?_⟩;rw[q5,qat hlt];simp only[okD];constructor
   .rintro⟨⟨a1,a2⟩,a3⟩;exact⟨a1,λj hj=>by rw[a2 j hj,a3 j hj]; rfl⟩
   rintro⟨a1,a2⟩;exact⟨⟨a1,λj hj=>(qae _ _ ▸ a2 j hj:_/\_).1⟩,λj hj=>(qae _ _ ▸ a2 j hj:_/\_).2⟩
  rw[qdo hlt,qdm,qaD (by omega)];exact⟨_,ap,rfl,λe=>⟨e,λ_ _=>rfl⟩,λe=>e.1⟩
theorem zto{c:S_api_Circuit}{cs:List Nat}(e:c.cards=iL cs)(hc:∀ c∈cs,1<=c/\c<=8)(h1:1<=cs.length)(hl:cs.length<=8)(hp:zae cs<=1024)(hg:∀ i (h:i<c.gates.length),GtOk cs i c.gates[i])(h4:c.gates.length<=4000):
  ∃ sets b,zbE c=some (sets,b)/\(b=true↔∀ j,j<zae cs->okD (dig cs j) c.gates []=true):=by
 obtain⟨rr,q1,q2⟩:=zq0 hc (by omega) hp;obtain⟨sets,b,r1,r2⟩:=zAj hc h1 hp q2 hg h4 (c.gates.length+2) 0 [] (λ_=>[]) true rfl (qaw _) (by omega) (λs hs=>nomatch hs) (λ_=>rfl) (λt j ht=>absurd ht (qan _));refine⟨sets,b,?_,r2.trans ⟨λe=>e.2,λe=>⟨rfl,e⟩⟩⟩;unfold zbE;rw[e,q1,qaa,zdT (by omega),qaa];rw[show List.replicate c.gates.length z16=SS (List.replicate (c.gates.length - 0) zW) by rw[qcI,SS,qcF]; rfl];exact r1
theorem zyU(ha:a<18446744073709551616):ziu .u64 (a:Int) 4294967295=((a % 4294967296:Nat):Int):=by
 rw[show(4294967295:Int)=((4294967295:Nat):Int)from rfl,zBk ha (by omega)];congr 1
 exact Nat.and_two_pow_sub_one_eq_mod a 32
theorem ztQ(a:Nat):zkk .u64 (a:Int) 32=some ((a / 4294967296:Nat):Int):=by
 have h:=zC1 (a:=a) (v:=32) (by omega);rw[show((32:Nat):Int)=32 from rfl]at h;rw[h,qcq]
theorem zCq(hx:x<18446744073709551616)(hy:y<18446744073709551616):zdn (x:Int) (y:Int)=some (((x * y / 18446744073709551616:Nat):Int),((x * y % 18446744073709551616:Nat):Int)):=by
 unfold zdn;rw[ztQ,qaa,ztQ,qaa,zyU hx,zyU hy];have ex:x=x / 4294967296 * 4294967296+x % 4294967296:=by omega
 have ey:y=y / 4294967296 * 4294967296+y % 4294967296:=by omega
 have exy:x * y=(x / 4294967296)* (y / 4294967296)* 18446744073709551616+((x / 4294967296)* (y % 4294967296)+(x % 4294967296)* (y / 4294967296))* 4294967296+(x % 4294967296)* (y % 4294967296):=by
  have:∀ a b c d:Nat,(a * 4294967296+b)* (c * 4294967296+d)=a * c * 18446744073709551616+(a * d+b * c)* 4294967296+b * d:=by
   intro a b c d;rw[qaT,qc9,qc9,Nat.mul_mul_mul_comm,show b * (c * 4294967296)=b * c * 4294967296 from(qbj _ _ _).symm,show a * 4294967296 * d=a * d * 4294967296 by rw[qbj,qbx 4294967296 d,qbj]];omega
  calc x * y=(x / 4294967296 * 4294967296+x % 4294967296)* (y / 4294967296 * 4294967296+y % 4294967296):=by rw[<- ex,<- ey]
   _=_:=this _ _ _ _
 rw[show(x:Int)* (y:Int)=((x * y:Nat):Int)from(qa4 x y).symm,zx4];have ha:x / 4294967296<=4294967295:=by omega
 have hb:x % 4294967296<=4294967295:=by omega
 have hc:y / 4294967296<=4294967295:=by omega
 have hd:y % 4294967296<=4294967295:=by omega
 rw[exy];generalize x / 4294967296=a at *;generalize x % 4294967296=b at *;generalize y / 4294967296=c at *;generalize y % 4294967296=d at *;have h1:a * c<=4294967295 * 4294967295:=qa9 ha hc;have h2:a * d<=4294967295 * 4294967295:=qa9 ha hd;have h3:b * c<=4294967295 * 4294967295:=qa9 hb hc;have h4:b * d<=4294967295 * 4294967295:=qa9 hb hd;rw[<- qa4,<- qa4,<- qa4,<- qa4];generalize a * c=p at *;generalize a * d=q at *;generalize b * c=r at *;generalize b * d=s at *
 rw[zbu (n:=s) (by omega),ztQ,qaa,zbu (n:=q) (by omega),<- qbY,zbu (n:=q+s / 4294967296) (by omega),ztQ,qaa,zyU (by omega),zbu (n:=r) (by omega),<- qbY,zbu (n:=(q+s / 4294967296) % 4294967296+r) (by omega),ztQ,qaa,
  zbu (n:=p) (by omega),<- qbY,zbu (n:=p+(q+s / 4294967296) / 4294967296) (by omega),<- qbY,zbu (n:=p+(q+s / 4294967296) / 4294967296+((q+s / 4294967296) % 4294967296+r) / 4294967296) (by omega)]
 congr 2
 congr 1
 omega
def zhF:Nat->List Int->Bool
 | _,[]=>true
 | a,c :: cs=>decide (1<=c) && decide (c<=8) && decide (a * c.toNat<=4096) && zhF (a * c.toNat) cs
theorem zmK:∀ {ns:List Nat} {a:Nat},(∀ c∈ns,1<=c/\c<=8)->a * zae ns<=4096->zhF a (iL ns)=true
 | [],a,_,_=>rfl
 | n :: ns,a,h,hp=>by
  have h1:=h n qao;have hp':a * n * zae ns<=4096:=by rw[qbj]; exact hp
  have hpos:1<=zae ns:=zdH λx hx=>(h x (qai _ hx)).1
  have hle:a * n<=4096:=qax (qa7 _ hpos) hp';show(decide ((1:Int)<=(n:Int)) && decide ((n:Int)<=8) && decide (a * (n:Int).toNat<=4096) && zhF (a * (n:Int).toNat) (iL ns))=true;rw[qaq,zmK (λc hc=>h c (qai _ hc)) hp',qdn (by omega),qdn (by omega),qdn hle];rfl
def znT:List Int->Nat
 | []=>1
 | c :: cs=>c.toNat * znT cs
theorem zsc(ns:List Nat):znT (iL ns)=zae ns:=by
 induction ns with
 | nil=>rfl
 | cons n ns ih=>show(n:Int).toNat * znT (iL ns)=n * zae ns; rw[ih,qaq]
theorem zps(cs:List Int)(hl:cs.length<=12):∀(n i:Nat) (a:Nat),a<=4096->i<=cs.length->cs.length - i<n->za3 cs n ((a:Nat):Int) (i:Int)=some (bif zhF a (cs.drop i)then(((a * znT (cs.drop i):Nat):Int),true)else(0,false))
 | 0,_,_,_,_,h=>absurd h (qan _)
 | n+1,i,a,ha,hi,hn=>by
  unfold za3;rcases qbs i cs.length with h3 | h3
  .rw[zDK h3,qdl,zax h3,qaa,qat h3];generalize cs[i]=c;simp only[zhF,znT];by_cases h1:c<1
   .rw[qdn h1,qdl,qaa,qdl,qdo (show ¬ 1<=c by omega)];rfl
   rw[qdo h1,qdm,qdn (show 1<=c by omega)];by_cases h2:8<c
   .rw[qdn h2,qdl,qaa,qdl,qdo (show ¬ c<=8 by omega)];rfl
   rw[qdo h2,qdm,qdn (show c<=8 by omega)];obtain⟨m,rfl⟩:∃ m:Nat,c=(m:Int):=⟨c.toNat,by omega⟩;have hb:a * m<=4096 * 8:=qa9 ha (by omega);rw[<- qa4,zaF (by omega),qaa,qaq];by_cases h4:a * m<=4096
   .rw[show decide ((4096:Int)<((a * m:Nat):Int))=false from qdo (by omega),qdm,zak (by omega),zps cs hl n (i+1) (a * m) h4 h3 (by omega),qdn h4,qbj];rfl
   rw[show decide ((4096:Int)<((a * m:Nat):Int))=true from qdn (by omega),qdl,qdo h4];rfl
  obtain rfl:i=cs.length:=by omega
  rw[zDZ,qdm,qcW];simp[zhF,znT]
def zkg(cs:List Int):Bool:=decide (cs.length<=12) && zhF 1 cs
theorem zAn(cs:List Int):zdq cs=some (bif zkg cs then(((znT cs:Nat):Int),0)else(0,20)):=by
 unfold zdq zbW zkg;by_cases hl:cs.length<=12
 .rw[show decide ((12:Int)<(cs.length:Int))=false from qdo (by omega),qdm,zaJ];have:=zps cs hl (cs.length+2) 0 1 (by omega) (qaw _) (by omega);rw[show((1:Nat):Int)=1 from rfl,show((0:Nat):Int)=0 from rfl,qa8,qbS]at this;rw[this,qdn hl,qbB];cases zhF 1 cs<;>rfl
 rw[show decide ((12:Int)<(cs.length:Int))=true from qdn (by omega),qdl,qdo hl];rfl
end Go.Dc
