/-
 Plain laws: numbers and sets of bits. Conditions: none.
-/
import Derived.Test.YtbjogdohfhdaiaaCaJ4
set_option linter.unusedSimpArgs false
set_option linter.unusedVariables false
namespace Go.Dc
open Go Go.Mx Go.Lx
variable{n:Nat}
theorem zc3(h:n<9223372036854775808):w64 (n:Int)=(n:Int):=wrap64 (by omega) (by omega)
theorem zd5{n:Int}(h1:-9223372036854775808<=n)(h2:n<9223372036854775808):w64 n=n:=wrap64 h1 h2
theorem zap(h:n+1<9223372036854775808):w64 ((n:Int)+1)=((n+1:Nat):Int):=by
 rw[zd5 (by omega) (by omega)]; omega
theorem zu6(n:Nat):IntKind.u64.wrap (n:Int)=((n % 18446744073709551616:Nat):Int):=by
 simp only[IntKind.wrap,IntKind.bits,IntKind.signed]; simp
theorem zbA(h:n<18446744073709551616):IntKind.u64.wrap (n:Int)=(n:Int):=by
 rw[zu6,qbg h]
variable{a b:Nat}
theorem zvX(ha:a<18446744073709551616)(hb:b<18446744073709551616):zkD .u64 (a:Int) (b:Int)=((a &&& b:Nat):Int):=by
 have h:(BitVec.ofInt 64 (a:Int) &&& BitVec.ofInt 64 (b:Int)).toNat=a &&& b:=by
  simp only[BitVec.ofInt_natCast,BitVec.toNat_and,BitVec.toNat_ofNat];rw[qbg ha,qbg hb]
 show IntKind.u64.wrap ((BitVec.ofInt 64 (a:Int) &&& BitVec.ofInt 64 (b:Int)).toNat:Int)=_;rw[h];exact zbA (qcl Nat.and_le_left ha)
theorem orU(ha:a<18446744073709551616)(hb:b<18446744073709551616):orI .u64 (a:Int) (b:Int)=((a ||| b:Nat):Int):=by
 have h:(BitVec.ofInt 64 (a:Int)||| BitVec.ofInt 64 (b:Int)).toNat=a ||| b:=by
  simp only[BitVec.ofInt_natCast,BitVec.toNat_or,BitVec.toNat_ofNat];rw[qbg ha,qbg hb]
 show IntKind.u64.wrap ((BitVec.ofInt 64 (a:Int)||| BitVec.ofInt 64 (b:Int)).toNat:Int)=_;rw[h];exact zbA (qbC (n:=64) ha hb)
variable{v:Nat}
theorem zxI(hv:v<64):znS .u64 1 (v:Int)=some ((2 ^ v:Nat):Int):=by
 unfold znS;rw[if_pos (by omega)];congr 1
 have h1:min (v:Int).toNat IntKind.u64.bits=v:=by
  rw[show IntKind.u64.bits=64 from rfl,qaq]; exact qa6 (by omega)
 rw[h1,Int.one_mul];have h2:((2:Int) ^ v)=((2 ^ v:Nat):Int):=by simp
 rw[h2];exact zbA (qbO (by decide) hv)
theorem zxL(hv:v<64):znX .u64 (a:Int) (v:Int)=some ((a >>> v:Nat):Int):=by
 unfold znX;rw[if_pos (by omega)];congr 1
 have h1:min (v:Int).toNat IntKind.u64.bits=v:=by
  rw[show IntKind.u64.bits=64 from rfl,qaq]; exact qa6 (by omega)
 rw[h1,qb6];have h2:((2:Int) ^ v)=((2 ^ v:Nat):Int):=by simp
 rw[h2,Int.fdiv_eq_ediv_of_nonneg _ (qaA _)];rfl
theorem zya(a v:Nat):((a >>> v) &&& 1)=(a.testBit v).toNat:=by
 rw[Nat.and_one_is_mod,Nat.testBit_eq_decide_div_mod_eq,qb6];have h:=Nat.mod_two_eq_zero_or_one (a / 2 ^ v);rcases h with h | h<;>simp[h]
theorem zyg(ha:a<18446744073709551616)(hv:v<64):∃ q:Int,znX .u64 (a:Int) (v:Int)=some q/\zkD .u64 q 1=((a.testBit v).toNat:Int):=by
 refine⟨_,zxL hv,?_⟩;rw[show(1:Int)=((1:Nat):Int)from rfl,zvX (qcl (by rw[qb6]; exact Nat.div_le_self _ _) ha) (by decide),zya]
variable {α:Type}
variable{i:Nat}
theorem zrO{xs:List α}:zaS xs (i:Int)=xs[i]?:=by
 unfold zaS;rw[if_pos (qaA i),qaq]
theorem zau{xs:List α}(h:i<xs.length):zaS xs (i:Int)=some (xs[i]'h):=by
 rw[zrO,qad h]
theorem zdA{xs:List α}{v:α}(h:i<xs.length):zfp xs (i:Int) v=some (xs.set i v):=by
 unfold zfp;rw[if_pos (by omega),qaq]
theorem zeQ{xs ys:List α}(h:(xs.length+ys.length)* b<=70368744177664):zfa b xs ys=some (xs ++ ys):=by
 unfold zfa;rw[if_pos (by simp only[zag]; omega)]
theorem zgE{z:α}(h:n * b<=70368744177664):zfH b (n:Int) z=some (List.replicate n z):=by
 have h2:(n:Int)* (b:Int)<=zag:=by
  rw[<- qbo]; simp only[zag]; omega
 unfold zfH;rw[if_pos ⟨qaA n,h2⟩,qaq]
theorem zb7:decide ((i:Int)<(n:Int))=decide (i<n):=by simp
theorem zbN(n:Nat):((n:Int) - 0+2).toNat=n+2:=by omega
def iL(xs:List Nat):List Int:=xs.map (λx:Nat=>(x:Int))
theorem zas(xs:List Nat):(iL xs).length=xs.length:=by simp[iL]
variable{xs:List Nat}
theorem zpU(h:i<xs.length):(iL xs)[i]'(by rw[zas]; exact h)=((xs[i]:Nat):Int):=by simp[iL]
theorem zaT(h:i<xs.length):zaS (iL xs) (i:Int)=some ((xs[i]:Nat):Int):=by
 rw[zau (by rw[zas]; exact h),zpU h]
def zaw(xs:List Nat):Nat:=xs.foldr (· * ·) 1
theorem zqh{xs:List Nat}(h:∀ x∈xs,1<=x):1<=zaw xs:=by
 induction xs with
 | nil=>exact qan 1
 | cons x xs ih=>exact qb7 (h x qar) (ih λy hy=>h y (qam _ hy))
theorem zsZ(k:Nat):iL (List.replicate k 0)=List.replicate k 0:=by simp[iL]
def dig:List Nat->Nat->List Nat
 | [],_=>[]
 | _ :: cs,i=>i / zaw cs :: dig cs (i % zaw cs)
theorem zeL:∀(cs:List Nat) (i:Nat),(dig cs i).length=cs.length
 | [],_=>rfl
 | _ :: cs,i=>by simp[dig,zeL cs]
def zd6:List Nat->List Nat->Prop
 | [],[]=>True
 | c :: cs,x :: xs=>x<c/\c<=8/\zd6 cs xs
 | _,_=>False
theorem zd6.len:∀ {cs xs:List Nat},zd6 cs xs->xs.length=cs.length
 | [],[],_=>rfl
 | c :: cs,x :: xs,h=>by simp[h.2.2.len]
theorem zd6.snoc:∀ {cs xs:List Nat} {c x:Nat},zd6 (cs ++ [c]) (xs ++ [x])->xs.length=cs.length->zd6 cs xs/\x<c/\c<=8
 | [],[],c,x,h,_=>⟨qcQ,h.1,h.2.1⟩
 | c :: cs,x :: xs,_,_,h,hl=>by
  obtain⟨h1,h2,h3⟩:=h;obtain⟨g1,g2⟩:=h3.snoc (by simpa using hl);exact⟨⟨h1,h2,g1⟩,g2⟩
theorem zfF{cs:List Nat}(h:∀ c∈cs,1<=c/\c<=8):0<zaw cs:=zqh λc hc=>(h c hc).1
theorem ze5:∀ {cs:List Nat} {i:Nat},(∀ c∈cs,1<=c/\c<=8)->i<zaw cs->zd6 cs (dig cs i)
 | [],_,_,_=>trivial
 | c :: cs,i,h,hi=>by
  have hc:=h c qar;have hp:=zfF λd hd=>h d (qam c hd)
  refine⟨?_,hc.2,ze5 (λd hd=>h d (qam c hd)) (qbv _ hp)⟩;have h1:i<c * zaw cs:=hi;exact Nat.div_lt_of_lt_mul (by rw[qbs]; exact h1)
def nxt:List Nat->List Nat->Option (List Nat)
 | c :: cs,v :: vs=>match nxt cs vs with
  | some vs'=>some (v :: vs')
  | none=>if v+1<c then some ((v+1):: List.replicate vs.length 0)else none
 | _,_=>none
theorem zgr:∀ {cs vs:List Nat} {c v:Nat},vs.length=cs.length->v+1<c->nxt (cs ++ [c]) (vs ++ [v])=some (vs ++ [v+1])
 | [],[],c,v,_,h=>by simp[nxt,h]
 | d :: cs,u :: vs,c,v,hl,h=>by
  simp only[qaH,nxt,zgr (show vs.length=cs.length by simpa using hl) h]
theorem zfR:∀ {cs vs:List Nat} {c v:Nat},vs.length=cs.length->¬ v+1<c->nxt (cs ++ [c]) (vs ++ [v])=(nxt cs vs).map (· ++ [0])
 | [],[],c,v,_,h=>by simp[nxt,h]
 | d :: cs,u :: vs,c,v,hl,h=>by
  simp only[qaH,nxt,zfR (show vs.length=cs.length by simpa using hl) h];cases hn:nxt cs vs with
  | some vs'=>rfl
  | none=>
   simp only[qcw];by_cases hu:u+1<d
   .rw[if_pos hu,if_pos hu];simp[List.replicate_succ']
   rw[if_neg hu,if_neg hu]; rfl
theorem zis:∀(cs:List Nat),dig cs 0=List.replicate cs.length 0
 | []=>rfl
 | c :: cs=>by simp[dig,zis cs,qa7]
theorem znZ:∀ {cs:List Nat} {i:Nat},(∀ c∈cs,1<=c/\c<=8)->i<zaw cs->nxt cs (dig cs i)=if i+1<zaw cs then some (dig cs (i+1))else none
 | [],i,_,hi=>by
  have:i=0:=by simpa [zaw]using hi
  subst this;simp[nxt,zaw]
 | c :: cs,i,h,hi=>by
  have hp:=zfF λd hd=>h d (qam c hd)
  have hm:=qbv i hp;have ih:=znZ (λd hd=>h d (qam c hd)) hm;have hi':i<c * zaw cs:=hi;simp only[dig,nxt,ih];have hdm:=qcA i (zaw cs);generalize hq:i / zaw cs=q at *;generalize hr:i % zaw cs=r at *;have hprod:zaw (c :: cs)=c * zaw cs:=rfl;by_cases h1:r+1<zaw cs
  .rw[if_pos h1];have e1:(i+1) / zaw cs=q:=by
    rw[<- hdm,qba,Nat.mul_add_div hp,Nat.div_eq_of_lt h1,qbk]
   have e2:(i+1) % zaw cs=r+1:=by
    rw[<- hdm,qba,Nat.mul_add_mod,qbg h1]
   have hqc:q<c:=by rw[<- hq]; exact Nat.div_lt_of_lt_mul (by rw[qbs]; exact hi')
   have h2:i+1<zaw (c :: cs):=by
    rw[hprod];have:(q+1)* zaw cs<=c * zaw cs:=qaE _ hqc;rw[qaW,qb5,qbs q]at this;omega
   rw[if_pos h2,e1,e2]
  rw[if_neg h1];have hr1:r+1=zaw cs:=by omega
  have hi1:i+1=zaw cs * (q+1):=by rw[Nat.mul_add,qbV]; omega
  simp only;have h4:(q+1<c)↔(i+1<zaw (c :: cs)):=by
   rw[hprod,hi1,qbs c];exact(Nat.mul_lt_mul_left hp).symm
  by_cases h5:q+1<c
  .rw[if_pos h5,if_pos (h4.1 h5),hi1,Nat.mul_div_cancel_left _ hp,Nat.mul_mod_right,zis,zeL]
  rw[if_neg h5,if_neg (λh=>h5 (h4.2 h))]
variable{ys:List Nat}{k:Nat}
theorem zcp{x:Nat}(h:xs.length=k):zaS (iL (xs ++ x :: ys)) (k:Int)=some (x:Int):=by
 subst h;rw[zaT (by simp)];simp
theorem ze6{x y:Nat}(h:xs.length=k):zfp (iL (xs ++ x :: ys)) (k:Int) (y:Int)=some (iL (xs ++ y :: ys)):=by
 subst h;rw[zdA (by rw[zas]; simp)];simp[iL]
theorem zol(h:xs.length=k+1):∃ ys y,xs=ys ++ [y]/\ys.length=k:=by
 have hne:xs≠[]:=by rintro rfl; simp at h
 exact⟨xs.dropLast,xs.getLast hne,(List.dropLast_concat_getLast hne).symm,by simp[h]⟩
theorem zoE(cs:List Nat):∀ a:Nat,(iL cs).foldl (· * ·) (a:Int)=((a * zaw cs:Nat):Int):=by
 induction cs with
 | nil=>intro a; simp[iL,zaw]
 | cons c cs ih=>
  intro a;show(iL cs).foldl (· * ·) ((a:Int)* (c:Int))=_;rw[<- qbo,ih,qb3];rfl
abbrev U64:Nat:=18446744073709551616
def WB(s:List Nat):Prop:=s.length=16/\∀ w∈s,w<U64
def zcW(s:List Nat)(j:Nat):Bool:=(s.getD (j / 64) 0).testBit (j % 64)
def orW(s o:List Nat):List Nat:=List.zipWith (· ||| ·) s o
def zko(s o:List Nat):List Nat:=List.zipWith (· &&& ·) s o
def zrm(s o:List Nat):Bool:=(zko s o).all (· == 0)
abbrev SS(ss:List (List Nat)):List (List Int):=ss.map iL
variable{s o:List Nat}
theorem zmC(f:Nat->Nat->Nat)(hf:f 0 0=0)(h:s.length=o.length)(k:Nat):(List.zipWith f s o).getD k 0=f (s.getD k 0) (o.getD k 0):=by
 rw[qaj,qaj,qaj,List.getElem?_zipWith];by_cases hk:k<s.length
 .rw[qad hk,qad (h ▸ hk)]; rfl
 rw[qaL (by omega),qaL (by omega)]; exact hf.symm
theorem zij(h:s.length=o.length)(j:Nat):zcW (orW s o) j=(zcW s j || zcW o j):=by
 unfold zcW orW;rw[zmC _ rfl h,Nat.testBit_or]
theorem zja(h:s.length=o.length)(j:Nat):zcW (zko s o) j=(zcW s j && zcW o j):=by
 unfold zcW zko;rw[zmC _ rfl h,Nat.testBit_and]
theorem WB.or(hs:WB s)(ho:WB o):WB (orW s o):=by
 refine⟨by simp[orW,hs.1,ho.1],λw hw=>?_⟩;obtain⟨i,hi,rfl⟩:=qbP.1 hw;simp only[orW,List.getElem_zipWith];exact qbC (n:=64) (hs.2 _ (qat _)) (ho.2 _ (qat _))
theorem WB.and(hs:WB s)(ho:WB o):WB (zko s o):=by
 refine⟨by simp[zko,hs.1,ho.1],λw hw=>?_⟩;obtain⟨i,hi,rfl⟩:=qbP.1 hw;simp only[zko,List.getElem_zipWith];exact qcl Nat.and_le_left (hs.2 _ (qat _))
def zW:List Nat:=List.replicate 16 0
theorem ziH:WB zW:=⟨by simp[zW],λw hw=>by rw[qbN hw]; decide⟩
theorem zh2(j:Nat):zcW zW j=false:=by
 unfold zcW zW;rw[qaj,qbx];split<;>simp
theorem zrG(hs:WB s)(ho:WB o):zrm s o=true↔∀ j,j<1024->¬(zcW s j=true/\zcW o j=true):=by
 have hl:s.length=o.length:=hs.1.trans ho.1.symm;have hw:=hs.and ho;unfold zrm;rw[qaY];constructor
 .intro h j hj ⟨h1,h2⟩;have h3:zcW (zko s o) j=true:=by rw[zja hl,h1,h2]; rfl
  have h4:(zko s o).getD (j / 64) 0=0:=by
   have hk:j / 64<(zko s o).length:=by rw[hw.1]; omega
   rw[qaj,qad hk];exact beq_iff_eq.1 (h _ (qat hk))
  unfold zcW at h3;rw[h4,qcr]at h3;cases h3
 intro h w hm;obtain⟨i,hi,rfl⟩:=qbP.1 hm;have h16:i<16:=by rw[<- hw.1]; exact hi
 rw[qcV];refine Nat.eq_of_testBit_eq λb=>?_
 rw[qcr];by_cases hb:b<64
 .have h1:=h (64 * i+b) (by omega);have h2:zcW (zko s o) (64 * i+b)=(zko s o)[i].testBit b:=by
   unfold zcW;rw[show(64 * i+b) / 64=i by omega,show(64 * i+b) % 64=b by omega,qaj,qad hi];rfl
  rw[<- h2,zja hl];cases h3:zcW s (64 * i+b)with
  | false=>rfl
  | true=>
   cases h4:zcW o (64 * i+b)with
   | false=>rfl
   | true=>exact absurd ⟨h3,h4⟩ h1
 exact Nat.testBit_lt_two_pow (qbl (hw.2 _ hm) (Nat.pow_le_pow_right (n:=2) (by decide) (show 64<=b by omega)))
variable{ss:List (List Nat)}
theorem zny(h:i<ss.length):zaS (SS ss) (i:Int)=some (iL ss[i]):=by
 rw[zau (by simpa using h)]; simp
variable{x:List Nat}
theorem getSet(h:i<ss.length):zaS (SS (ss.set i x)) (i:Int)=some (iL x):=by
 rw[zny (by simpa using h)]; simp
theorem zuG{y:List Nat}(h:i<ss.length):zfp (SS (ss.set i x)) (i:Int) (iL y)=some (SS (ss.set i y)):=by
 rw[zdA (by simpa using h)]; simp[SS,qcu]
theorem zqC{f:Int->Int}{w w':Nat}{pre suf:List Nat}(hi:i<ss.length)(hf:f (w:Int)=(w':Int)):
  zq2 f (SS (ss.set i (pre ++ w :: suf))) (i:Int) (pre.length:Int)=some (SS (ss.set i (pre ++ w' :: suf))):=by
 unfold zq2;rw[getSet hi,qab,zcp rfl,qab,hf,ze6 rfl,qab,zuG hi]
theorem zv9{ss:List (List Nat)}{i:Nat}(hi:i<ss.length):∀(suf sufo pre preo:List Nat) (n:Nat),suf.length=sufo.length->pre.length=preo.length->pre.length+suf.length=16->(∀ w∈suf,w<U64)->(∀ w∈sufo,w<U64)->suf.length<n ->
  nz1 (iL (preo ++ sufo)) (i:Int) n (pre.length:Int) (SS (ss.set i (pre ++ suf)))=some (SS (ss.set i (pre ++ orW suf sufo)))
 | _,_,_,_,0,_,_,_,_,_,h=>absurd h (qav _)
 | [],[],pre,preo,n+1,_,_,h3,_,_,_=>by
  unfold nz1;rw[qcU (by simp at h3; omega),qcS]; rfl
 | w :: suf,o :: sufo,pre,preo,n+1,h1,h2,h3,h4,h5,h6=>by
  have h3':pre.length+(suf.length+1)=16:=h3;unfold nz1;rw[qcT (by omega),qcR,zcp h2.symm,qab,zqC (f:=λx=>orI .u64 x (o:Int)) hi (orU (h4 w qar) (h5 o qar)),qab,zap (by omega)];have e:=zv9 hi suf sufo (pre ++ [w ||| o]) (preo ++ [o]) n (by simpa using h1) (by simp[h2]) (by simp; omega) (λx hx=>h4 x (qam _ hx)) (λx hx=>h5 x (qam _ hx)) (by simpa using h6);simpa [orW]using e
theorem zwI(hi:i<ss.length)(hs:WB s)(ho:WB o):nz1 (iL o) (i:Int) 18 0 (SS (ss.set i s))=some (SS (ss.set i (orW s o))):=
 zv9 hi s o [] [] 18 (hs.1.trans ho.1.symm) rfl (by simp[hs.1]) hs.2 ho.2 (by rw[hs.1]; decide)
theorem zql{ss:List (List Nat)}{i:Nat}(hi:i<ss.length)(ap:Bool):∀(suf sufo pre preo:List Nat) (n:Nat),suf.length=sufo.length->pre.length=preo.length->pre.length+suf.length=16->(∀ w∈suf,w<U64)->(∀ w∈sufo,w<U64)->suf.length<n ->
  nz3 4 (iL (preo ++ sufo)) (i:Int) n (pre.length:Int) (SS (ss.set i (pre ++ suf))) ap=some (SS (ss.set i (pre ++ zko suf sufo)),ap)
 | _,_,_,_,0,_,_,_,_,_,h=>absurd h (qav _)
 | [],[],pre,preo,n+1,_,_,h3,_,_,_=>by
  unfold nz3;rw[qcU (by simp at h3; omega),qcS]; rfl
 | w :: suf,o :: sufo,pre,preo,n+1,h1,h2,h3,h4,h5,h6=>by
  have h3':pre.length+(suf.length+1)=16:=h3;unfold nz3;rw[qcT (by omega),qcR,zcp h2.symm,qab,show((4:Int)== 4)=true from rfl,qcR,zqC (f:=λx=>zkD .u64 x (o:Int)) hi (zvX (h4 w qar) (h5 o qar)),qab,zap (by omega)];have e:=zql hi ap suf sufo (pre ++ [w &&& o]) (preo ++ [o]) n (by simpa using h1) (by simp[h2]) (by simp; omega) (λx hx=>h4 x (qam _ hx)) (λx hx=>h5 x (qam _ hx)) (by simpa using h6);simpa [zko]using e
theorem zmk(a:Nat):(((a:Nat):Int)== 0)=(a == 0):=by
 rw[qbL]; simp
theorem zs8{ss:List (List Nat)}{i:Nat}(hi:i<ss.length){kind:Int}(hk:(kind == 4)=false):∀(suf sufo pre preo:List Nat) (n:Nat) (ap:Bool),suf.length=sufo.length->pre.length=preo.length->pre.length+suf.length=16->(∀ w∈suf,w<U64)->(∀ w∈sufo,w<U64)->suf.length<n ->
  nz3 kind (iL (preo ++ sufo)) (i:Int) n (pre.length:Int) (SS (ss.set i (pre ++ suf))) ap=some (SS (ss.set i (pre ++ orW suf sufo)),ap && zrm suf sufo)
 | _,_,_,_,0,_,_,_,_,_,_,h=>absurd h (qav _)
 | [],[],pre,preo,n+1,ap,_,_,h3,_,_,_=>by
  unfold nz3;rw[qcU (by simp at h3; omega),qcS];cases ap<;>rfl
 | w :: suf,o :: sufo,pre,preo,n+1,ap,h1,h2,h3,h4,h5,h6=>by
  have h3':pre.length+(suf.length+1)=16:=h3;unfold nz3
  rw[qcT (by omega),qcR,zcp h2.symm,qab,hk,qcS,getSet hi,qab,zcp rfl,qab,zqC (f:=λx=>orI .u64 x (o:Int)) hi (orU (h4 w qar) (h5 o qar)),qab,zap (by omega),
   zvX (h4 w qar) (h5 o qar),zmk]
  have e:=zs8 hi hk suf sufo (pre ++ [w ||| o]) (preo ++ [o]) n (bif ap then(w &&& o)== 0 else false) (by simpa using h1) (by simp[h2]) (by simp; omega) (λx hx=>h4 x (qam _ hx)) (λx hx=>h5 x (qam _ hx)) (by simpa using h6);have e2:((bif ap then(w &&& o)== 0 else false) && zrm suf sufo)=(ap && zrm (w :: suf) (o :: sufo)):=by
   unfold zrm zko;cases ap<;>simp
  rw[e2]at e;simpa [orW]using e
def zdK(kind:Int)(r:List Nat×Bool)(o:List Nat):List Nat×Bool:=bif kind == 4 then(zko r.1 o,r.2)else(orW r.1 o,r.2 && zrm r.1 o)
theorem zwJ(hi:i<ss.length)(kind:Int)(hs:WB s)(ho:WB o)(ap:Bool):
  nz3 kind (iL o) (i:Int) 18 0 (SS (ss.set i s)) ap=some (SS (ss.set i (zdK kind (s,ap) o).1),(zdK kind (s,ap) o).2):=by
 unfold zdK;have hl:s.length<18:=by rw[hs.1]; decide
 cases hk:(kind == 4)with
 | true=>
  have h4:=beq_iff_eq.1 hk;subst h4;exact zql hi ap s o [] [] 18 (hs.1.trans ho.1.symm) rfl (by simp[hs.1]) hs.2 ho.2 hl
 | false=>exact zs8 hi hk s o [] [] 18 ap (hs.1.trans ho.1.symm) rfl (by simp[hs.1]) hs.2 ho.2 hl
theorem zrk{kind:Int}{r:List Nat×Bool}(h:WB r.1)(ho:WB o):WB (zdK kind r o).1:=by
 unfold zdK;cases hk:(kind == 4)
 .exact h.or ho
 exact h.and ho
theorem zu5{ss:List (List Nat)}{i:Nat}(hi:i<ss.length){os:List (List Nat)}(ho:∀ o∈os,WB o)(hn:os.length<4000000):∀(n j:Nat) (s:List Nat),WB s->j<=os.length->os.length - j<n ->
  nz2 (SS os) (i:Int) n (j:Int) (SS (ss.set i s))=some (SS (ss.set i ((os.drop j).foldl orW s)))
 | 0,_,_,_,_,h=>absurd h (qav _)
 | n+1,j,s,hs,h1,h2=>by
  unfold nz2;rw[show(SS os).length=os.length by simp,zb7];by_cases hj:j<os.length
  .have hw:=ho _ (qat hj);rw[qcT hj,qcR,zny hj,qab,zwI hi hs hw,qab,zap (by omega),zu5 hi ho hn n (j+1) _ (hs.or hw) hj (by omega),qau hj];rfl
  rw[qcU hj,qcS,qaM (by omega)]; rfl
theorem ztL{ss:List (List Nat)}{i:Nat}(hi:i<ss.length)(hw:∀ s∈ss,WB s){g:S_api_Gate}{ar:List Nat}(hg:g.args=iL ar)(ha:∀ a∈ar,a<i)(hn:ar.length<4000000):∀(n j:Nat) (s:List Nat) (ap:Bool),WB s->j<=ar.length->ar.length - j<n ->
  nz4 g (i:Int) n (j:Int) (SS (ss.set i s)) ap=some (SS (ss.set i (((ar.drop j).map λa=>ss.getD a []).foldl (zdK g.kind) (s,ap)).1),(((ar.drop j).map λa=>ss.getD a []).foldl (zdK g.kind) (s,ap)).2)
 | 0,_,_,_,_,_,h=>absurd h (qav _)
 | n+1,j,s,ap,hs,h1,h2=>by
  unfold nz4;rw[hg,zas,zb7];by_cases hj:j<ar.length
  .have h3:=ha _ (qat hj);have h4:ar[j]<ss.length:=by omega
   have h5:=hw _ (qat h4);have h6:zaS (SS (ss.set i s)) ((ar[j]:Nat):Int)=some (iL ss[ar[j]]):=by
    rw[zny (by simpa using h4),List.getElem_set_ne (by omega)]
   have h7:ss.getD ar[j] []=ss[ar[j]]:=by rw[qaj,qad h4]; rfl
   rw[qcT hj,qcR,zaT hj,qab,h6,qab,zwJ hi _ hs h5,qab,zap (by omega)];simp only;rw[ztL hi hw hg ha hn n (j+1) _ _ (zrk hs h5) hj (by omega),qau hj,qaS,qbF,h7]
  rw[qcU hj,qcS,qaM (by omega)]; rfl
theorem bb1(a b:Bool)(n:Nat):¬(a=true/\b=true)->(a || b).toNat+n<=1->a.toNat+(n+if b=true then 1 else 0)<=1:=by
 cases a<;>cases b<;>simp<;>omega
theorem bb2(a b:Bool)(n:Nat):a.toNat+(n+if b=true then 1 else 0)<=1->¬(a=true/\b=true)/\(a || b).toNat+n<=1:=by
 cases a<;>cases b<;>simp<;>omega
theorem zvA{kind:Int}(hk:(kind == 4)=false):∀(os:List (List Nat)) (s:List Nat) (ap:Bool),WB s->(∀ o∈os,WB o)->
  (∀ j,zcW (os.foldl (zdK kind) (s,ap)).1 j=(zcW s j || os.any λo=>zcW o j))/\WB (os.foldl (zdK kind) (s,ap)).1 /\
  ((os.foldl (zdK kind) (s,ap)).2=true↔ap=true/\∀ j,j<1024->(zcW s j).toNat+os.countP (λo=>zcW o j)<=1)
 | [],s,ap,hs,_=>by
  refine⟨λj=>by simp,hs,?_⟩;have:∀ j,(zcW s j).toNat+0<=1:=λj=>by cases zcW s j<;>decide
  simp only[List.foldl_nil,List.countP_nil];exact⟨λh=>⟨h,λj _=>this j⟩,λh=>h.1⟩
 | o :: os,s,ap,hs,ho=>by
  have h1:=ho o qar;have e:zdK kind (s,ap) o=(orW s o,ap && zrm s o):=by unfold zdK; rw[hk,qcS]
  rw[qbF,e];obtain⟨a1,a2,a3⟩:=zvA hk os (orW s o) (ap && zrm s o) (hs.or h1) λx hx=>ho x (qam _ hx)
  refine⟨λj=>by rw[a1,zij (hs.1.trans h1.1.symm),qco,Bool.or_assoc],a2,a3.trans ?_⟩;rw[qaf,zrG hs h1];constructor
  .rintro⟨⟨b1,b2⟩,b3⟩;refine⟨b1,λj hj=>?_⟩;have c2:=b3 j hj;rw[zij (hs.1.trans h1.1.symm)]at c2;rw[List.countP_cons];exact bb1 _ _ _ (b2 j hj) c2
  rintro⟨b1,b2⟩;have c:∀ j,j<1024->_:=λj hj=>bb2 _ _ _ (by have:=b2 j hj; rwa [List.countP_cons]at this)
  exact⟨⟨b1,λj hj=>(c j hj).1⟩,λj hj=>by rw[zij (hs.1.trans h1.1.symm)]; exact(c j hj).2⟩
theorem zv3:∀(os:List (List Nat)) (s:List Nat) (ap:Bool),WB s->(∀ o∈os,WB o)->
  (∀ j,zcW (os.foldl (zdK 4) (s,ap)).1 j=(zcW s j && os.all λo=>zcW o j))/\WB (os.foldl (zdK 4) (s,ap)).1/\(os.foldl (zdK 4) (s,ap)).2=ap
 | [],s,ap,hs,_=>⟨λj=>by simp,hs,rfl⟩
 | o :: os,s,ap,hs,ho=>by
  have h1:=ho o qar;have e:zdK 4 (s,ap) o=(zko s o,ap):=rfl;rw[qbF,e];obtain⟨a1,a2,a3⟩:=zv3 os (zko s o) ap (hs.and h1) λx hx=>ho x (qam _ hx)
  exact⟨λj=>by rw[a1,zja (hs.1.trans h1.1.symm),qbE,Bool.and_assoc],a2,a3⟩
theorem zuD:∀(os:List (List Nat)) (s:List Nat),WB s->(∀ o∈os,WB o)->(∀ j,zcW (os.foldl orW s) j=(zcW s j || os.any λo=>zcW o j))/\WB (os.foldl orW s)
 | [],s,hs,_=>⟨λj=>by simp,hs⟩
 | o :: os,s,hs,ho=>by
  have h1:=ho o qar;rw[qbF];obtain⟨a1,a2⟩:=zuD os (orW s o) (hs.or h1) λx hx=>ho x (qam _ hx)
  exact⟨λj=>by rw[a1,zij (hs.1.trans h1.1.symm),qco,Bool.or_assoc],a2⟩
theorem zl5:∀(k:Nat) (xs cx cy zs:List Nat),xs.length=k->cx.length=k->zd6 cx xs->k<=12 ->
  match nxt cx xs with
  | none=>zgC (iL (cx ++ cy)) k (iL (xs ++ zs))=some (iL (List.replicate k 0 ++ zs),-1)
  | some xs'=>∃(r:List Int) (q:Nat) (v:Int),zgC (iL (cx ++ cy)) k (iL (xs ++ zs))=some (r,(q:Int))/\zaS r (q:Int)=some v/\zfp r (q:Int) (w64 (v+1))=some (iL (xs' ++ zs))
 | 0,xs,cx,cy,zs,hx,hc,_,_=>by
  obtain rfl:xs=[]:=qbf.1 hx;obtain rfl:cx=[]:=qbf.1 hc;rfl
 | k+1,xs,cx,cy,zs,hx,hc,hb,hk=>by
  obtain⟨xs,x,rfl,lx⟩:=zol hx;obtain⟨cx,c,rfl,lc⟩:=zol hc;obtain⟨hb1,hb2,hb3⟩:=hb.snoc (lx.trans lc.symm);simp only[qaG,qbZ];unfold zgC;rw[zcp lx,qab,zcp lc,qab,zd5 (by omega) (by omega)];by_cases h1:x+1<c
  .rw[show(((x:Nat):Int)==((c:Nat):Int) - 1)=false from beq_eq_false_iff_ne.2 (by omega),qcS,zgr (lx.trans lc.symm) h1];refine⟨_,k,_,rfl,zcp lx,?_⟩;rw[zap (by omega),ze6 lx];simp
  rw[show(((x:Nat):Int)==((c:Nat):Int) - 1)=true from beq_iff_eq.2 (by omega),qcR,show(0:Int)=((0:Nat):Int)from rfl,ze6 lx,qab,zfR (lx.trans lc.symm) h1];have ih:=zl5 k xs cx (c :: cy) (0 :: zs) lx lc hb1 (by omega);cases hn:nxt cx xs with
  | none=>
   rw[hn]at ih;simp only[qcw]at ih ⊢;rw[ih];simp[List.replicate_succ']
  | some xs'=>
   rw[hn]at ih;simp only[qaF]at ih ⊢;obtain⟨r,q,v,e1,e2,e3⟩:=ih;exact⟨r,q,v,e1,e2,by rw[e3]; simp⟩
theorem zuC{cs:List Nat}(hc:∀ c∈cs,1<=c/\c<=8)(hl:cs.length<=12)(hp:zaw cs<=4096):∀(m i n:Nat),i+(m+1)=zaw cs->m<n ->
  zuA (iL cs) n (iL (dig cs i)) (i:Int)=some ((List.range' i (m+1)).map λj:Nat=>((j:Int),iL (dig cs j)))
 | m,i,0,_,h=>absurd h (qav _)
 | m,i,n+1,hi,hn=>by
  have h:=zl5 cs.length (dig cs i) cs [] [] (zeL _ _) rfl (ze5 hc (by omega)) hl;simp only[qbc]at h;rw[znZ hc (by omega)]at h;unfold zuA;rw[zas];cases m with
  | zero=>
   rw[if_neg (by omega)]at h;simp only at h;rw[h,qab];rfl
  | succ m=>
   rw[if_pos (by omega)]at h;simp only at h;obtain⟨r,q,v,e1,e2,e3⟩:=h;rw[e1,qab];simp only;rw[qcU (by omega),qcS,e2,qab,e3,qab,zap (by omega),zuC hc hl hp m (i+1) n (by omega) (by omega)];rfl
theorem zwQ{cs:List Nat}(hc:∀ c∈cs,1<=c/\c<=8)(hl:cs.length<=12)(hp:zaw cs<=4096):zwl (iL cs)=some ((List.range' 0 (zaw cs)).map λj:Nat=>((j:Int),iL (dig cs j))):=by
 have hpos:=zfF hc;obtain⟨m,hm⟩:∃ m,zaw cs=m+1:=⟨zaw cs - 1,by omega⟩;unfold zwl zhl;rw[if_pos (by rw[zas]; omega),qab,zas,zgE (by omega),qab];have h:=zoE cs 1;rw[qb5]at h;rw[show((1:Nat):Int)=1 from rfl]at h;rw[h,qaq,<- zsZ,<- zis];have e:=zuC hc hl hp m 0 (zaw cs) (by omega) (by omega);rw[hm]at e ⊢;exact e
theorem zd6.get:∀ {cs xs:List Nat},zd6 cs xs->∀(v:Nat) (h1:v<xs.length) (h2:v<cs.length),xs[v]<cs[v]
 | [],[],_,v,h1,_=>absurd h1 (qav _)
 | c :: cs,x :: xs,h,0,_,_=>h.1
 | c :: cs,x :: xs,h,v+1,h1,h2=>h.2.2.get v (by simpa using h1) (by simpa using h2)
def zq1(s:List Nat)(j:Nat):List Nat:=s.set (j / 64) (s.getD (j / 64) 0 ||| 2 ^ (j % 64))
theorem ztz(hs:WB s)(j:Nat):WB (zq1 s j):=by
 refine⟨by simp[zq1,hs.1],λw hw=>?_⟩;rcases qbj hw with hw | rfl
 .exact hs.2 w hw
 refine qbC (n:=64) ?_ (qbO (by decide) (qbv _ (by decide)));rw[qaj];by_cases hk:j / 64<s.length
 .rw[qad hk]; exact hs.2 _ (qat hk)
 rw[qaL (by omega)]; decide
variable{j:Nat}
theorem zpS(hs:s.length=16)(hj:j<1024)(t:Nat):zcW (zq1 s j) t=(zcW s t || t == j):=by
 have hk:j / 64<s.length:=by rw[hs]; omega
 unfold zcW zq1;by_cases h:t / 64=j / 64
 .rw[h,qaj,qaC hk,qbq,Nat.testBit_or,Nat.testBit_two_pow];congr 1
  rw[qbL,qcX,qcV];omega
 rw[qaj,qao (by omega),<- qaj,show(t == j)=false from beq_eq_false_iff_ne.2 (by omega),Bool.or_false]
theorem zrc(hs:WB s)(hj:j<1024):zhV (iL s) (j:Int)=some (iL (zq1 s j)):=by
 have hk:j / 64<s.length:=by rw[hs.1]; omega
 have e1:((j:Int).tmod 64)=((j % 64:Nat):Int):=rfl;have e2:((j:Int).tdiv 64)=((j / 64:Nat):Int):=rfl;have e3:s.getD (j / 64) 0=s[j / 64]:=by rw[qaj,qad hk]; rfl
 unfold zhV zq1
 rw[e1,e2,zxI (qbv _ (by decide)),qab,zc3 (by omega),zaT hk,qab,orU (hs.2 _ (qat hk)) (qbO (by decide) (qbv _ (by decide)):2 ^ (j % 64)<2 ^ 64),
  zdA (by rw[zas]; exact hk),e3]
 simp[iL,qcu]
abbrev RR(rr:List (List (List Nat))):List (List (List Int)):=rr.map SS
def lit(rr:List (List (List Nat)))(v x:Nat):List Nat:=(rr.getD v []).getD x []
structure LI (cs:List Nat) (f:Nat->Nat) (rr:List (List (List Nat))):Prop where
 len:rr.length=cs.length
 row:∀ v,v<cs.length->(rr.getD v []).length=cs.getD v 0
 wb:∀ v x,v<cs.length->x<cs.getD v 0->WB (lit rr v x)
 bit:∀ v x t,v<cs.length->x<cs.getD v 0->zcW (lit rr v x) t=(decide (t<f v) && (dig cs t).getD v 0 == x)
variable{f:Nat->Nat}{rr:List (List (List Nat))}
theorem LI.congr{cs:List Nat}{g:Nat->Nat}(h:LI cs f rr)(e:∀ v,v<cs.length->f v=g v):LI cs g rr:=
 ⟨h.len,h.row,h.wb,λv x t hv hx=>by rw[h.bit v x t hv hx,e v hv]⟩
theorem zah{α:Type}{xs:List α}{d:α}(h:i<xs.length):xs.getD i d=xs[i]:=by rw[qaj,qad h]; rfl
theorem zbp{α:Type}(xs:List α)(i j:Nat)(x d:α)(h:i<xs.length):(xs.set i x).getD j d=if j=i then x else xs.getD j d:=by
 rw[qaj];split
 .next e=>subst e; rw[qaC h]; rfl
 next e=>rw[qao (by omega),<- qaj]
theorem zrD{cs:List Nat}{x:Nat}(h:LI cs f rr)(hv:v<cs.length)(hx:x<cs.getD v 0)(hj:j<1024)(hf:f v=j)(hd:(dig cs j).getD v 0=x):
  ∃ rr',zhF (RR rr) (v:Int) (x:Int) (j:Int)=some (RR rr')/\LI cs (λu=>if u=v then j+1 else f u) rr':=by
 have hv':v<rr.length:=by rw[h.len]; exact hv
 have e1:rr.getD v []=rr[v]:=zah hv';have hr:=h.row v hv;have hx':x<rr[v].length:=by rw[<- e1,hr]; exact hx
 have hw:=h.wb v x hv hx;have e2:lit rr v x=rr[v][x]:=by unfold lit; rw[e1,zah hx']
 refine⟨rr.set v (rr[v].set x (zq1 (lit rr v x) j)),?_,?_⟩
 .unfold zhF;have g1:zaS (RR rr) (v:Int)=some (SS rr[v]):=by rw[zau (by simpa using hv')]; simp
  rw[g1,qab,zny hx',qab,<- e2,zrc hw hj,qab,zdA (by simpa using hx'),qab,zdA (by simpa using hv')];simp[RR,SS,qcu]
 have el:∀ u y,lit (rr.set v (rr[v].set x (zq1 (lit rr v x) j))) u y=if u=v/\y=x then zq1 (lit rr v x) j else lit rr u y:=by
  intro u y;show((rr.set v (rr[v].set x (zq1 (lit rr v x) j))).getD u []).getD y []=_;rw[zbp _ _ _ _ _ hv'];by_cases hu:u=v
  .subst hu;rw[if_pos rfl,zbp _ _ _ _ _ hx'];by_cases hy:y=x
   .rw[if_pos hy,if_pos ⟨rfl,hy⟩]
   rw[if_neg hy,if_neg (λa=>hy a.2)]; unfold lit; rw[e1]
  rw[if_neg hu,if_neg (λa=>hu a.1)]; rfl
 refine⟨by simp[h.len],λu hu=>?_,λu y hu hy=>?_,λu y t hu hy=>?_⟩
 .rw[zbp _ _ _ _ _ hv'];split
  .next e=>subst e; rw[qaI,<- e1,hr]
  exact h.row u hu
 .rw[el];split
  .exact ztz hw j
  exact h.wb u y hu hy
 rw[el];by_cases hu':u=v
 .subst hu';rw[if_pos rfl];by_cases hy':y=x
  .subst hy';rw[if_pos ⟨rfl,rfl⟩,zpS hw.1 hj,h.bit u y t hu hy,hf];by_cases ht:t=j
   .subst ht;rw[show(t == t)=true from qcW t,Bool.or_true,qcT (qa1 t),hd,qcW]; rfl
   rw[show(t == j)=false from beq_eq_false_iff_ne.2 ht,Bool.or_false,show decide (t<j+1)=decide (t<j)from decide_eq_decide.2 (by omega)]
  rw[if_neg (λa=>hy' a.2),h.bit u y t hu hy,hf];by_cases ht:t=j
  .subst ht;rw[show((dig cs t).getD u 0 == y)=false from beq_eq_false_iff_ne.2 (by rw[hd]; omega),qb4,qb4]
  rw[show decide (t<j+1)=decide (t<j)from decide_eq_decide.2 (by omega)]
 rw[if_neg (λa=>hu' a.1),if_neg hu',h.bit u y t hu hy]
theorem zsk{cs:List Nat}(hc:∀ c∈cs,1<=c/\c<=8)(hl:cs.length<=12){j:Nat}(hj:j<zaw cs)(hp:zaw cs<=1024):∀(n v:Nat) (rr:List (List (List Nat))),LI cs (λu=>if u<v then j+1 else j) rr->v<=cs.length->cs.length - v<n ->
  ∃ rr',zsI (j:Int) (iL (dig cs j)) n (v:Int) (RR rr)=some (RR rr')/\LI cs (λ_=>j+1) rr'
 | 0,_,_,_,_,h=>absurd h (qav _)
 | n+1,v,rr,h,h1,h2=>by
  unfold zsI;rw[zas,zeL,zb7];by_cases hv:v<cs.length
  .have hd:v<(dig cs j).length:=by rw[zeL]; exact hv
   have e:(dig cs j).getD v 0=(dig cs j)[v]:=zah hd;have hb:(dig cs j)[v]<cs.getD v 0:=by
    rw[zah hv];exact zd6.get (ze5 hc hj) v hd hv
   obtain⟨rr1,q1,q2⟩:=zrD h hv hb (by omega) (if_neg (Nat.lt_irrefl v)) e;rw[qcT hv,qcR,zaT hd,qab,q1,qab,zap (by omega)]
   exact zsk hc hl hj hp n (v+1) rr1 (q2.congr λu _=>by
    show(if u=v then j+1 else if u<v then j+1 else j)=(if u<v+1 then j+1 else j)
    (repeat' split)<;> omega) hv (by omega)
  rw[qcU hv,qcS];exact⟨rr,rfl,h.congr λu hu=>if_pos (by omega)⟩
theorem zsl{cs:List Nat}(hc:∀ c∈cs,1<=c/\c<=8)(hl:cs.length<=12)(hp:zaw cs<=1024):∀(m i:Nat) (rr:List (List (List Nat))),i+m=zaw cs->LI cs (λ_=>i) rr ->
  ∃ rr',zsy ((List.range' i m).map λj:Nat=>((j:Int),iL (dig cs j))) (RR rr)=some (RR rr')/\LI cs (λ_=>zaw cs) rr'
 | 0,i,rr,hi,h=>⟨rr,rfl,by rw[<- hi]; exact h⟩
 | m+1,i,rr,hi,h=>by
  obtain⟨rr1,q1,q2⟩:=zsk hc hl (j:=i) (by omega) hp (cs.length+2) 0 rr (h.congr λu _=>(if_neg (qav u)).symm) (qaB _) (by omega);obtain⟨rr2,q3,q4⟩:=zsl hc hl hp m (i+1) rr1 (by omega) q2;refine⟨rr2,?_,q4⟩;rw[List.range'_succ,qaS];unfold zsy;rw[zas,zeL];rw[show((0:Nat):Int)=0 from rfl]at q1;rw[q1,qab,q3]
theorem zky:∀ {cs:List Nat},(∀ c∈cs,c<=8)->zdq (iL cs)=some (RR (cs.map λc=>List.replicate c zW))
 | [],_=>rfl
 | c :: cs,h=>by
  have h8:=h c qar;show(zfH 128 (c:Int) z16).bind (λr=>(zdq (iL cs)).map λl=>r :: l)=_;rw[zgE (by omega),qab,zky λd hd=>h d (qam _ hd)];have e:z16=iL zW:=rfl;simp[RR,SS,e]
theorem znh{cs:List Nat}(hc:∀ c∈cs,1<=c/\c<=8)(hl:cs.length<=12)(hp:zaw cs<=1024):∃ rr,zaF (iL cs)=some (RR rr)/\LI cs (λ_=>zaw cs) rr:=by
 have h0:LI cs (λ_=>0) (cs.map λc=>List.replicate c zW):=by
  have e:∀ v,v<cs.length->(cs.map λc=>List.replicate c zW).getD v []=List.replicate (cs.getD v 0) zW:=by
   intro v hv;rw[zah (by simpa using hv),zah hv]; simp
  have e2:∀ v x,v<cs.length->x<cs.getD v 0->lit (cs.map λc=>List.replicate c zW) v x=zW:=by
   intro v x hv hx;unfold lit;rw[e v hv,zah (by simpa using hx)]; simp
  refine⟨by simp,λv hv=>by rw[e v hv]; simp,λv x hv hx=>by rw[e2 v x hv hx]; exact ziH,λv x t hv hx=>?_⟩;rw[e2 v x hv hx,zh2,qcU (qav t)]; rfl
 obtain⟨rr,q1,q2⟩:=zsl hc hl hp (zaw cs) 0 _ (by omega) h0;refine⟨rr,?_,q2⟩;unfold zaF zhl;rw[if_pos (by rw[zas]; omega),qab,zas,zgE (by omega),qab,zky λc h=>(hc c h).2,qab,zwQ hc hl (by omega),qab,q1]
inductive GOk (cs:List Nat) (i:Nat):S_api_Gate->Prop
 | num (n:Nat) (h:n<=4611686018427387903):GOk cs i ⟨1,0,0,(n:Int),[]⟩
 | is (v x:Nat) (hv:v<cs.length) (hx:x<cs.getD v 0):GOk cs i ⟨2,(v:Int),(x:Int),0,[]⟩
 | op (k:Int) (hk:k=3\/k=4) (ar:List Nat) (ne:ar≠[]) (inc:ar.Pairwise (· < ·)) (lt:∀ a∈ar,a<i):GOk cs i ⟨k,0,0,0,iL ar⟩
theorem zgq:∀ {ar:List Nat} {b i:Nat},ar.Pairwise (· < ·)->(∀ a∈ar,b<=a/\a<i)->ar.length+b<=max b i
 | [],b,i,_,_=>by simp; omega
 | a :: ar,b,i,h,hl=>by
  have h1:=hl a qar;have h2:=zgq (b:=a+1) (i:=i) (qbm.1 h).2 λx hx=>⟨(qbm.1 h).1 x hx,(hl x (qam _ hx)).2⟩
  simp only[qaP];omega
def vg(d:List Nat)(acc:List Bool)(g:S_api_Gate):Bool:=
 bif g.kind == 1 then decide (0<g.n)else bif g.kind == 2 then((d.getD g.var.toNat 0:Nat):Int)== g.val
 else bif g.kind == 4 then g.args.all (λa=>acc.getD a.toNat false)else g.args.any (λa=>acc.getD a.toNat false)
def pg(acc:List Bool)(g:S_api_Gate):Bool:=bif g.kind == 3 then decide (g.args.countP (λa=>acc.getD a.toNat false)<=1)else true
def okD(d:List Nat):List S_api_Gate->List Bool->Bool
 | [],_=>true
 | g :: gs,acc=>pg acc g && okD d gs (acc ++ [vg d acc g])
theorem LI.all{cs:List Nat}(hc:∀ c∈cs,1<=c/\c<=8)(h1:1<=cs.length){rr:List (List (List Nat))}(h:LI cs (λ_=>zaw cs) rr):
  (∀ o∈rr.getD 0 [],WB o)/\(rr.getD 0 []).length<=8/\∀ j,((rr.getD 0 []).any λo=>zcW o j)=decide (j<zaw cs):=by
 have hr:=h.row 0 h1;have h8:cs.getD 0 0<=8:=by rw[zah h1]; exact(hc _ (qat h1)).2
 have e:∀ x,x<(rr.getD 0 []).length->lit rr 0 x=(rr.getD 0 []).getD x []:=λx _=>rfl
 refine⟨λo ho=>?_,by omega,λj=>?_⟩
 .obtain⟨x,hx,rfl⟩:=qbP.1 ho;have:=h.wb 0 x h1 (by omega);rw[e x hx,zah hx]at this;exact this
 rw[qbL,List.any_eq_true,qcX];constructor
 .rintro⟨o,ho,hj⟩;obtain⟨x,hx,rfl⟩:=qbP.1 ho;have:=h.bit 0 x j h1 (by omega);rw[e x hx,zah hx,hj]at this;have h3:=(qaf _ _ ▸ this.symm:_/\_).1;exact qcZ h3
 intro hj;have hb:=ze5 hc hj;have hd:0<(dig cs j).length:=by rw[zeL]; exact h1
 have hx:(dig cs j).getD 0 0<cs.getD 0 0:=by rw[zah hd,zah h1]; exact hb.get 0 hd h1
 have hx':(dig cs j).getD 0 0<(rr.getD 0 []).length:=by omega
 refine⟨_,qat hx',?_⟩;have:=h.bit 0 ((dig cs j).getD 0 0) j h1 hx;rw[e _ hx',zah hx',qcT hj,qcW]at this;exact this
theorem zue(a b:Nat):(((a:Nat):Int)==((b:Nat):Int))=(a == b):=by
 rw[qbL,qcV,qcV]; omega
theorem zvS(ar:List Nat)(f:Nat->Bool):((iL ar).any λa=>f a.toNat)=ar.any f:=by simp[iL,List.any_map,qca]
theorem zuJ(ar:List Nat)(f:Nat->Bool):((iL ar).all λa=>f a.toNat)=ar.all f:=by simp[iL,List.all_map,qca]
theorem zjL(ar:List Nat)(f:Nat->Bool):((iL ar).countP λa=>f a.toNat)=ar.countP f:=by simp[iL,List.countP_map,qca]
variable{g:S_api_Gate}
theorem zvt{cs:List Nat}(hc:∀ c∈cs,1<=c/\c<=8)(h1:1<=cs.length)(hp:zaw cs<=1024)(h:LI cs (λ_=>zaw cs) rr){ss:List (List Nat)}(hi:i<ss.length)(hw:∀ s∈ss,WB s)(hz:ss.getD i []=zW)(h4:ss.length<=4000)(hg:GOk cs i g)(acc:Nat->List Bool)(ha:∀ t j,t<i->zcW (ss.getD t []) j=(decide (j<zaw cs) && (acc j).getD t false))(ap:Bool):
  ∃ s0 s1 ap1,nzF (RR rr) g (i:Int) (SS ss)=some (SS (ss.set i s0))/\nz4 g (i:Int) (g.args.length+2) 0 (SS (ss.set i s0)) ap=some (SS (ss.set i s1),ap1)/\WB s1 /\
   (∀ j,zcW s1 j=(decide (j<zaw cs) && vg (dig cs j) (acc j) g))/\(ap1=true↔ap=true/\∀ j,j<zaw cs->pg (acc j) g=true):=by
 have hset:ss=ss.set i zW:=by
  have e:ss[i]=zW:=by rw[<- hz,zah hi]
  rw[<- e]; simp
 have h0:0<rr.length:=by rw[h.len]; exact h1
 have hrow:zaS (RR rr) 0=some (SS (rr.getD 0 [])):=by
  rw[show(0:Int)=((0:Nat):Int)from rfl,zau (by simpa using h0),zah h0]; simp
 obtain⟨u1,u2,u3⟩:=h.all hc h1;have hall:nz2 (SS (rr.getD 0 [])) (i:Int) ((SS (rr.getD 0 [])).length+2) 0 (SS ss)=some (SS (ss.set i ((rr.getD 0 []).foldl orW zW))):=by
  have:=zu5 hi u1 (by omega) ((rr.getD 0 []).length+2) 0 zW ziH (qaB _) (by omega);rw[<- hset]at this;simpa using this
 obtain⟨f1,f2⟩:=zuD (rr.getD 0 []) zW ziH u1;have f1':∀ j,zcW ((rr.getD 0 []).foldl orW zW) j=decide (j<zaw cs):=λj=>by rw[f1,zh2,qbD,u3]
 have hnil:∀(g:S_api_Gate) (s:List Nat) (ap:Bool),WB s->g.args=[]->nz4 g (i:Int) (g.args.length+2) 0 (SS (ss.set i s)) ap=some (SS (ss.set i s),ap):=λg s ap hs e=>by
  have:=ztL hi hw (g:=g) (ar:=[]) e (λa h=>nomatch h) (by decide) (g.args.length+2) 0 s ap hs (qaB _) (by simp);simpa using this
 cases hg with
 | num n hn=>
  cases hd:decide ((0:Int)<(n:Int))with
  | true=>
   refine⟨_,_,ap,?_,hnil _ _ _ f2 rfl,f2,λj=>?_,?_⟩
   .unfold nzF;show(bif decide ((0:Int)<(n:Int))then _ else _)=_;rw[hd,qcR,hrow,qab,hall]
   .rw[f1'];show _=(decide (j<zaw cs) && decide ((0:Int)<(n:Int)));rw[hd,qb0]
   .exact⟨λe=>⟨e,λ_ _=>rfl⟩,λe=>e.1⟩
  | false=>
   refine⟨zW,zW,ap,?_,hnil _ _ _ ziH rfl,ziH,λj=>?_,?_⟩
   .unfold nzF;show(bif decide ((0:Int)<(n:Int))then _ else _)=_;rw[hd,qcS,<- hset]
   .rw[zh2];show _=(decide (j<zaw cs) && decide ((0:Int)<(n:Int)));rw[hd,qb4]
   .exact⟨λe=>⟨e,λ_ _=>rfl⟩,λe=>e.1⟩
 | is v x hv hx=>
  have hwb:=h.wb v x hv hx;refine⟨lit rr v x,lit rr v x,ap,?_,hnil _ _ _ hwb rfl,hwb,λj=>?_,?_⟩
  .have hv':v<rr.length:=by rw[h.len]; exact hv
   have hr:=h.row v hv;have hx':x<(rr.getD v []).length:=by omega
   have g1:zaS (RR rr) (v:Int)=some (SS (rr.getD v [])):=by rw[zau (by simpa using hv'),zah hv']; simp
   unfold nzF;show(zaS (RR rr) (v:Int)).bind _=_;rw[g1,qab];show(zaS (SS (rr.getD v [])) (x:Int)).bind _=_;rw[zny hx',qab,hset,zuG hi,<- hset];unfold lit;rw[zah hx']
  .rw[h.bit v x j hv hx];show _=(decide (j<zaw cs) && ((((dig cs j).getD v 0:Nat):Int)==(x:Int)));rw[zue]
  .exact⟨λe=>⟨e,λ_ _=>rfl⟩,λe=>e.1⟩
 | op k hk ar ne inc lt=>
  have hl:ar.length<4000000:=by
   have:=zgq (b:=0) (i:=i) inc λa h=>⟨qaB _,lt a h⟩
   omega
  have hn4:∀(s:List Nat),WB s->nz4 ⟨k,0,0,0,iL ar⟩ (i:Int) ((iL ar).length+2) 0 (SS (ss.set i s)) ap=some (SS (ss.set i ((ar.map λa=>ss.getD a []).foldl (zdK k) (s,ap)).1),((ar.map λa=>ss.getD a []).foldl (zdK k) (s,ap)).2):=λs hs=>by
   have:=ztL hi hw (g:=⟨k,0,0,0,iL ar⟩) (ar:=ar) rfl lt hl ((iL ar).length+2) 0 s ap hs (qaB _) (by rw[zas]; omega);simpa using this
  have hos:∀ o∈ar.map (λa=>ss.getD a []),WB o:=λo ho=>by
   obtain⟨a,ha,rfl⟩:=qa4.1 ho;have:a<ss.length:=Nat.lt_trans (lt a ha) hi;rw[zah this];exact hw _ (qat this)
  have hany:∀ j,((ar.map λa=>ss.getD a []).any λo=>zcW o j)=(decide (j<zaw cs) && ar.any λa=>(acc j).getD a false):=λj=>by
   rw[List.any_map,qbL,qaf,List.any_eq_true,List.any_eq_true,qcX];constructor
   .rintro⟨a,ha',hb⟩;have:=ha a j (lt a ha');rw[qbW,this,qaf,qcX]at hb;exact⟨hb.1,a,ha',hb.2⟩
   rintro⟨hj,a,ha',hb⟩;refine⟨a,ha',?_⟩;rw[qbW,ha a j (lt a ha'),hb,qcT hj]; rfl
  have hmem:∀ j,j<zaw cs->∀ a∈ar,zcW (ss.getD a []) j=(acc j).getD a false:=λj hj a ha'=>by
   rw[ha a j (lt a ha'),qcT hj,qbr]
  rcases hk with rfl | rfl
  .obtain⟨o1,o2,o3⟩:=zvA (kind:=3) rfl (ar.map λa=>ss.getD a []) zW ap ziH hos;refine⟨zW,_,_,?_,hn4 zW ziH,o2,λj=>?_,o3.trans ⟨λ⟨e1,e2⟩=>⟨e1,λj hj=>?_⟩,λ⟨e1,e2⟩=>⟨e1,λj hj=>?_⟩⟩⟩
   .show some (SS ss)=_;rw[<- hset]
   .rw[o1,zh2,qbD,hany];show _=(_ && (iL ar).any λa=>(acc j).getD a.toNat false);rw[zvS ar λa=>(acc j).getD a false]
   .have e3:=e2 j (by omega);rw[zh2,List.countP_map]at e3;show decide ((iL ar).countP (λa=>(acc j).getD a.toNat false)<=1)=true;rw[zjL ar λa=>(acc j).getD a false,qcX];have e4:ar.countP ((λo=>zcW o j) ∘ λa=>ss.getD a [])=ar.countP λa=>(acc j).getD a false:=
     List.countP_congr λa ha'=>by rw[qbW,hmem j hj a ha']
    rw[e4]at e3;simpa using e3
   rw[zh2,List.countP_map];by_cases hj':j<zaw cs
   .have e3:decide ((iL ar).countP (λa=>(acc j).getD a.toNat false)<=1)=true:=e2 j hj';rw[zjL ar λa=>(acc j).getD a false,qcX]at e3;have e4:ar.countP ((λo=>zcW o j) ∘ λa=>ss.getD a [])=ar.countP λa=>(acc j).getD a false:=
     List.countP_congr λa ha'=>by rw[qbW,hmem j hj' a ha']
    rw[e4];simpa using e3
   have e4:ar.countP ((λo=>zcW o j) ∘ λa=>ss.getD a [])=0:=
    List.countP_eq_zero.2 λa ha'=>by rw[qbW,ha a j (lt a ha'),qcU hj']; simp
   rw[e4]; decide
  obtain⟨o1,o2,o3⟩:=zv3 (ar.map λa=>ss.getD a []) ((rr.getD 0 []).foldl orW zW) ap f2 hos;refine⟨_,_,_,?_,hn4 _ f2,o2,λj=>?_,?_⟩
  .unfold nzF;show(zaS (RR rr) 0).bind _=_;rw[hrow,qab,hall]
  .rw[o1,f1'];show _=(_ && (iL ar).all λa=>(acc j).getD a.toNat false);rw[zuJ ar λa=>(acc j).getD a false];cases hj:decide (j<zaw cs)with
   | false=>rfl
   | true=>
    rw[qbr,qbr,List.all_map,qbL,qaY,qaY];have hj:=qcZ hj;exact⟨λe a ha'=>by rw[<- hmem j hj a ha']; exact e a ha',λe a ha'=>by rw[qbW,hmem j hj a ha']; exact e a ha'⟩
  rw[o3];exact⟨λe=>⟨e,λ_ _=>rfl⟩,λe=>e.1⟩
theorem zvr{cs:List Nat}(hc:∀ c∈cs,1<=c/\c<=8)(h1:1<=cs.length)(hp:zaw cs<=1024){rr:List (List (List Nat))}(h:LI cs (λ_=>zaw cs) rr)
  {gs:List S_api_Gate} (hg:∀ i (h:i<gs.length),GOk cs i gs[i]) (h4:gs.length<=4000):∀(n i:Nat) (fs:List (List Nat)) (acc:Nat->List Bool) (ap:Bool),fs.length=i->i<=gs.length->gs.length - i<n->(∀ s∈fs,WB s)->(∀ j,(acc j).length=i)->
   (∀ t j,t<i->zcW (fs.getD t []) j=(decide (j<zaw cs) && (acc j).getD t false))->
   ∃ sets b,nz5 (RR rr) gs n (i:Int) (SS (fs ++ List.replicate (gs.length - i) zW)) ap=some (sets,b)/\(b=true↔ap=true/\∀ j,j<zaw cs->okD (dig cs j) (gs.drop i) (acc j)=true)
 | 0,_,_,_,_,_,_,h,_,_,_=>absurd h (qav _)
 | n+1,i,fs,acc,ap,hf,hi,hn,hwf,hacc,hb=>by
  unfold nz5;rw[zb7];by_cases hlt:i<gs.length
  .obtain⟨k,hk⟩:∃ k,gs.length - i=k+1:=⟨gs.length - i - 1,by omega⟩;have hss:fs ++ List.replicate (gs.length - i) zW=fs ++ zW :: List.replicate k zW:=by rw[hk,qa7]
   have hlen:(fs ++ zW :: List.replicate k zW).length=gs.length:=by simp[hf]; omega
   have hi':i<(fs ++ zW :: List.replicate k zW).length:=by rw[hlen]; exact hlt
   have hw:∀ s∈fs ++ zW :: List.replicate k zW,WB s:=λs hs=>by
    rcases qbT.1 hs with hs | hs
    .exact hwf s hs
    rcases qa2.1 hs with rfl | hs
    .exact ziH
    rw[qbN hs]; exact ziH
   have hz:(fs ++ zW :: List.replicate k zW).getD i []=zW:=by
    rw[zah hi'];simp[<- hf]
   have hat:∀ t,t<i->(fs ++ zW :: List.replicate k zW).getD t []=fs.getD t []:=λt ht=>by
    rw[qaj,qai (by omega),<- qaj]
   obtain⟨s0,s1,ap1,q1,q2,q3,q4,q5⟩:=zvt hc h1 hp h hi' hw hz (by omega) (hg i hlt) acc (λt j ht=>by rw[hat t ht]; exact hb t j ht) ap;rw[qcT hlt,qcR,zau hlt,qab,hss,zny hi',qab,q1,qab,q2,qab,zap (by omega)];simp only;have e:(fs ++ zW :: List.replicate k zW).set i s1=(fs ++ [s1])++ List.replicate (gs.length - (i+1)) zW:=by
    rw[qbp i s1 (by omega),hf,qbK,show gs.length - (i+1)=k by omega];simp
   rw[e];obtain⟨sets,b,r1,r2⟩:=zvr hc h1 hp h hg h4 n (i+1) (fs ++ [s1]) (λj=>acc j ++ [vg (dig cs j) (acc j) gs[i]]) ap1 (by simp[hf]) hlt (by omega)
    (λs hs=>by
     rcases qbT.1 hs with hs | hs
     .exact hwf s hs
     rw[qck.1 hs]; exact q3)
    (λj=>by simp[hacc j]) (λt j ht=>by
     by_cases ht':t<i
     .rw[qaj,qai (by omega),<- qaj,hb t j ht'];congr 1
      rw[qaj,qaj,qai (by rw[hacc]; exact ht')]
     obtain rfl:t=i:=by omega
     rw[qaj,qal (by omega),hf,qbK];show zcW s1 j=_;rw[q4 j];congr 1
     rw[qaj,qal (by rw[hacc]; exact qan _),hacc,qbK]
     rfl)
   refine⟨sets,b,r1,r2.trans ?_⟩;rw[q5,qau hlt];simp only[okD];constructor
   .rintro⟨⟨a1,a2⟩,a3⟩;exact⟨a1,λj hj=>by rw[a2 j hj,a3 j hj]; rfl⟩
   rintro⟨a1,a2⟩;exact⟨⟨a1,λj hj=>(qaf _ _ ▸ a2 j hj:_/\_).1⟩,λj hj=>(qaf _ _ ▸ a2 j hj:_/\_).2⟩
  rw[qcU hlt,qcS,qaM (by omega)];exact⟨_,ap,rfl,λe=>⟨e,λ_ _=>rfl⟩,λe=>e.1⟩
theorem zpP{c:S_api_Circuit}{cs:List Nat}(e:c.cards=iL cs)(hc:∀ c∈cs,1<=c/\c<=8)(h1:1<=cs.length)(hl:cs.length<=8)(hp:zaw cs<=1024)(hg:∀ i (h:i<c.gates.length),GOk cs i c.gates[i])(h4:c.gates.length<=4000):
  ∃ sets b,zbk c=some (sets,b)/\(b=true↔∀ j,j<zaw cs->okD (dig cs j) c.gates []=true):=by
 obtain⟨rr,q1,q2⟩:=znh hc (by omega) hp;obtain⟨sets,b,r1,r2⟩:=zvr hc h1 hp q2 hg h4 (c.gates.length+2) 0 [] (λ_=>[]) true rfl (qaB _) (by omega) (λs hs=>nomatch hs) (λ_=>rfl) (λt j ht=>absurd ht (qav _));refine⟨sets,b,?_,r2.trans ⟨λe=>e.2,λe=>⟨rfl,e⟩⟩⟩;unfold zbk;rw[e,q1,qab,zgE (by omega),qab];rw[show List.replicate c.gates.length z16=SS (List.replicate (c.gates.length - 0) zW) by rw[qcG,SS,List.map_replicate]; rfl];exact r1
def zp0(i:Int):Int->List Int->Bool
 | _,[]=>true
 | b,a :: ar=>decide (b<a) && decide (a<i) && zp0 i a ar
theorem zpl(g:S_api_Gate)(i:Int)(hl:g.args.length<4611686018427387904):∀(n k:Nat) (b:Int),k<=g.args.length->g.args.length - k<n ->
  zaJ g i n b (k:Int)=some (bif zp0 i b (g.args.drop k)then .go ()else .ret false)
 | 0,_,_,_,h=>absurd h (qav _)
 | n+1,k,b,h1,h2=>by
  unfold zaJ;rw[zb7];by_cases hk:k<g.args.length
  .rw[qcT hk,qcR,zau hk,qab,qau hk];simp only[zp0];by_cases h3:g.args[k]<=b
   .rw[qcT h3,qcR,qab,qcR,qcU (show ¬ b<g.args[k] by omega)]; rfl
   rw[qcU h3,qcS,qab,qcT (show b<g.args[k] by omega)];by_cases h4:i<=g.args[k]
   .rw[qcT h4,qcR,qcU (show ¬ g.args[k]<i by omega)]; rfl
   rw[qcU h4,qcS,qcT (show g.args[k]<i by omega),zap (by omega),zpl g i hl n (k+1) _ hk (by omega)]; rfl
  rw[qcU hk,qcS,qaM (by omega)]; rfl
def zkP(cards:List Int)(i:Int)(g:S_api_Gate):Bool:=
 bif g.kind == 1 then decide (0<=g.n) && (decide (g.n<=4611686018427387903) && ((g.var == 0) && ((g.val == 0) && ((g.args.length:Int)== 0))))
 else bif g.kind == 2 then decide (0<=g.var) && (decide (g.var<(cards.length:Int)) && (decide (0<=g.val) && (decide (g.val<cards.getD g.var.toNat 0) && ((g.n == 0) && ((g.args.length:Int)== 0)))))
 else bif (g.kind == 3 || g.kind == 4)then(g.var == 0) && ((g.val == 0) && ((g.n == 0) && (!((g.args.length:Int)== 0) && zp0 i (-1) g.args)))
 else false
theorem zpb{cards:List Int}{v:Int}(h1:0<=v)(h2:v<(cards.length:Int)):zaS cards v=some (cards.getD v.toNat 0):=by
 unfold zaS;rw[if_pos h1,qaj,qad (by omega)]; rfl
theorem zkV(c:S_api_Circuit)(i:Int)(g:S_api_Gate)(hl:g.args.length<4611686018427387904):zaY c i g=some (zkP c.cards i g):=by
 have hr:=zpl g i hl (g.args.length+2) 0 (-1) (qaB _) (by omega);unfold zaY zkP;rw[zbN];rw[show((0:Nat):Int)=0 from rfl,qbi]at hr;rw[hr];cases h1:(g.kind == 1)with
 | true=>
  simp only[qcR];cases decide (0<=g.n)<;> cases decide (g.n<=4611686018427387903)<;> cases(g.var == 0)<;> cases(g.val == 0)<;> rfl
 | false=>
  simp only[qcS];cases h2:(g.kind == 2)with
  | true=>
   simp only[qcR];by_cases h3:0<=g.var
   .by_cases h4:g.var<(c.cards.length:Int)
    .rw[zpb h3 h4];simp only[qab];cases decide (0<=g.var)<;> cases decide (g.var<(c.cards.length:Int))<;> cases decide (0<=g.val)<;> cases decide (g.val<c.cards.getD g.var.toNat 0)<;> cases(g.n == 0)<;> rfl
    rw[qcU h4];cases decide (0<=g.var)<;> rfl
   .rw[qcU h3]; rfl
  | false=>
   simp only[qcS];cases(g.kind == 3)<;> cases(g.kind == 4)<;> cases(g.var == 0)<;> cases(g.val == 0)<;> cases(g.n == 0)<;> cases((g.args.length:Int)== 0)<;> cases zp0 i (-1) g.args<;>rfl
def zso(cs:List Int):Bool:=cs.all λc=>decide (1<=c) && decide (c<=4)
def prZ(cs:List Int):Int:=cs.foldr (· * ·) 1
theorem zu9{a b:Int}(h1:1<=a)(h2:a<=(4:Int) ^ k)(h3:1<=b)(h4:b<=4)(hk:k<8):1<=a * b/\a * b<=(4:Int) ^ (k+1)/\a * b<=65536:=by
 have e1:a * b<=(4:Int) ^ k * 4:=Int.mul_le_mul h2 h4 (by omega) (Int.le_trans (by omega) h2);have e2:(4:Int) ^ k * 4=(4:Int) ^ (k+1):=(Int.pow_succ 4 k).symm;have e3:(1:Int)* 1<=a * b:=Int.mul_le_mul h1 h3 (by omega) (by omega);have e4:(4:Int) ^ (k+1)<=65536:=by
  have:k=0\/k=1\/k=2\/k=3\/k=4\/k=5\/k=6\/k=7:=by omega
  rcases this with rfl | rfl | rfl | rfl | rfl | rfl | rfl | rfl<;>decide
 rw[e2]at e1;exact⟨by omega,e1,by omega⟩
theorem zlR(c:S_api_Circuit)(hl:c.cards.length<=8):∀(n k:Nat) (a:Int),1<=a->a<=(4:Int) ^ k->k<=c.cards.length->c.cards.length - k<n ->
  za6 c n a (k:Int)=some (bif zso (c.cards.drop k)then .go (a * prZ (c.cards.drop k))else .ret 150)
 | 0,_,_,_,_,_,h=>absurd h (qav _)
 | n+1,k,a,ha,hb,h1,h2=>by
  unfold za6;rw[zb7];by_cases hk:k<c.cards.length
  .rw[qcT hk,qcR,zau hk,qab,qau hk];unfold zso prZ;rw[qbE,List.foldr_cons];by_cases h3:c.cards[k]<1
   .rw[qcT h3,qcR,qab,qcR,qcU (show ¬ 1<=c.cards[k] by omega)]; rfl
   rw[qcU h3,qcS,qab,qcT (show 1<=c.cards[k] by omega)];by_cases h4:4<c.cards[k]
   .rw[qcT h4,qcR,qcU (show ¬ c.cards[k]<=4 by omega)]; rfl
   obtain⟨p1,p2,p3⟩:=zu9 ha hb (show 1<=c.cards[k] by omega) (show c.cards[k]<=4 by omega) (by omega);rw[qcU h4,qcS,qcT (show c.cards[k]<=4 by omega),zap (by omega),zd5 (by omega) (by omega),zlR c hl n (k+1) _ p1 p2 hk (by omega)];rw[Int.mul_assoc]; rfl
  rw[qcU hk,qcS,qaM (by omega)];show some (Out.go a)=some (Out.go (a * 1));rw[Int.mul_one]
def zew(cards:List Int):Int->List S_api_Gate->Bool
 | _,[]=>true
 | i,g :: gs=>zkP cards i g && zew cards (i+1) gs
theorem zmP(c:S_api_Circuit)(hl:c.gates.length<=4000)(ha:∀ g∈c.gates,g.args.length<4611686018427387904):∀(n k:Nat),k<=c.gates.length->c.gates.length - k<n ->
  za7 c n (k:Int)=some (bif zew c.cards (k:Int) (c.gates.drop k)then .go ()else .ret 150)
 | 0,_,_,h=>absurd h (qav _)
 | n+1,k,h1,h2=>by
  unfold za7;rw[zb7];by_cases hk:k<c.gates.length
  .rw[qcT hk,qcR,zau hk,qab,zkV _ _ _ (ha _ (qat hk)),qab,qau hk];simp only[zew];cases zkP c.cards (k:Int) c.gates[k]with
   | false=>rfl
   | true=>rw[qcR,zap (by omega),zmP c hl ha n (k+1) hk (by omega)]; rfl
  rw[qcU hk,qcS,qaM (by omega)]; rfl
def zrX(cs:List Int):Bool:=decide (1<=cs.length) && decide (cs.length<=8) && zso cs && decide (prZ cs<=1024)
def ziw(c:S_api_Circuit):Bool:=zrX c.cards && (decide (1<=c.gates.length) && decide (c.gates.length<=4000)) && zew c.cards 0 c.gates
theorem zqV(c:S_api_Circuit)(ha:∀ g∈c.gates,g.args.length<4611686018427387904):zbI c=some (bif ziw c then 0 else 150):=by
 unfold zbI ziw zrX;by_cases h1:1<=c.cards.length
 .rw[qcU (show ¬ (c.cards.length:Int)<1 by omega),qcS,qcT h1];by_cases h2:c.cards.length<=8
  .rw[qcU (show ¬ 8<(c.cards.length:Int) by omega),qcS,qcT h2];have hr:=zlR c h2 (c.cards.length+2) 0 1 (qbU _) (by decide) (qaB _) (by omega);rw[show((0:Nat):Int)=0 from rfl,qbi,Int.one_mul]at hr;by_cases h3:1<=c.gates.length
   .rw[qcU (show ¬ (c.gates.length:Int)<1 by omega),qcS,qab,qcT h3];by_cases h4:c.gates.length<=4000
    .rw[qcU (show ¬ 4000<(c.gates.length:Int) by omega),qcS,zbN,hr,qcT h4];cases zso c.cards with
     | false=>rfl
     | true=>
      rw[qcR,qab];simp only;by_cases h5:prZ c.cards<=1024
      .have hq:=zmP c h4 ha (c.gates.length+2) 0 (qaB _) (by omega);rw[show((0:Nat):Int)=0 from rfl,qbi]at hq;rw[qcU (show ¬ 1024<prZ c.cards by omega),qcS,zbN,hq,qcT h5];cases zew c.cards 0 c.gates<;>rfl
      rw[qcT (show 1024<prZ c.cards by omega),qcR,qcU h5]; rfl
    rw[qcT (show 4000<(c.gates.length:Int) by omega),qcR,qcU h4,qb4,qb4]; rfl
   rw[qcT (show(c.gates.length:Int)<1 by omega),qcR,qab,qcR,qcU h3,Bool.false_and,qb4]; rfl
  rw[qcT (show 8<(c.cards.length:Int) by omega),qcR,qab,qcR,qcU h2]; rfl
 rw[qcT (show(c.cards.length:Int)<1 by omega),qcR,qab,qcR,qcU h1]; rfl
structure COk (cs:List Nat) (c:S_api_Circuit):Prop where
 cards:c.cards=iL cs
 one:1<=cs.length
 len:cs.length<=8
 card:∀ k∈cs,1<=k/\k<=8
 prod:zaw cs<=1024
 gone:1<=c.gates.length
 glen:c.gates.length<=4000
 gate:∀ i (h:i<c.gates.length),GOk cs i c.gates[i]
theorem zl7:∀ {cs:List Int},zso cs=true->∃ ns:List Nat,cs=iL ns/\(∀ k∈ns,1<=k/\k<=8)/\prZ cs=(zaw ns:Nat)
 | [],_=>⟨[],rfl,(λk h=>nomatch h),rfl⟩
 | c :: cs,h=>by
  unfold zso at h;rw[qbE,qaf,qaf,qcX,qcX]at h;obtain⟨ns,rfl,h1,h2⟩:=zl7 (cs:=cs) h.2;refine⟨c.toNat :: ns,?_,λk hk=>?_,?_⟩
  .simp only[iL,qaS,qcN,and_true]; omega
  .rcases qa2.1 hk with rfl | hk
   .omega
   exact h1 k hk
  show c * prZ (iL ns)=((c.toNat * zaw ns:Nat):Int);rw[h2,qbo,show((c.toNat:Nat):Int)=c by omega]
theorem zl4:∀ {ar:List Int} {i:Nat} {b:Int},-1<=b->zp0 (i:Int) b ar=true->∃ ns:List Nat,ar=iL ns/\ns.Pairwise (· < ·)/\∀ a∈ns,a<i/\b<(a:Int)
 | [],i,b,_,_=>⟨[],rfl,List.Pairwise.nil,λa h=>nomatch h⟩
 | a :: ar,i,b,hb,h=>by
  simp only[zp0,qaf,qcX]at h;obtain⟨ns,rfl,h1,h2⟩:=zl4 (ar:=ar) (b:=a) (by omega) h.2;refine⟨a.toNat :: ns,?_,qbm.2 ⟨λx hx=>?_,h1⟩,λx hx=>?_⟩
  .simp only[iL,qaS,qcN,and_true]; omega
  .have:=(h2 x hx).2; omega
  rcases qa2.1 hx with rfl | hx
  .omega
  have:=h2 x hx; omega
theorem zrl{cs:List Nat}(h:zkP (iL cs) (i:Int) g=true):GOk cs i g:=by
 obtain⟨kind,var,val,n,args⟩:=g;unfold zkP at h;simp only at h;cases h1:(kind == 1)with
 | true=>
  rw[h1,qcR]at h;simp only[qaf,qcX,qcV]at h h1;obtain⟨g1,g2,rfl,rfl,g3⟩:=h;obtain rfl:args=[]:=qbf.1 (by omega);have:=GOk.num (cs:=cs) (i:=i) n.toNat (by omega);rw[show((n.toNat:Nat):Int)=n by omega]at this;rw[h1]; exact this
 | false=>
  rw[h1,qcS]at h;cases h2:(kind == 2)with
  | true=>
   rw[h2,qcR]at h;simp only[qaf,qcX,qcV]at h h2;obtain⟨g1,g2,g3,g4,rfl,g5⟩:=h;obtain rfl:args=[]:=qbf.1 (by omega);rw[zas]at g2;have hv:var.toNat<cs.length:=by omega
   have e:(iL cs).getD var.toNat 0=((cs.getD var.toNat 0:Nat):Int):=by
    rw[zah (by rw[zas]; exact hv),zpU hv,zah hv]
   have:=GOk.is (cs:=cs) (i:=i) var.toNat val.toNat hv (by rw[e]at g4; omega);rw[show((var.toNat:Nat):Int)=var by omega,show((val.toNat:Nat):Int)=val by omega]at this;rw[h2]; exact this
  | false=>
   rw[h2,qcS]at h;cases h3:(kind == 3 || kind == 4)with
   | true=>
    rw[h3,qcR]at h;simp only[qaf,qcV,qbn]at h h3;obtain⟨rfl,rfl,rfl,g1,g2⟩:=h;obtain⟨ns,rfl,g3,g4⟩:=zl4 (by omega) g2;refine GOk.op kind h3 ns ?_ g3 λa ha=>(g4 a ha).1
    rintro rfl;exact absurd g1 (by decide)
   | false=>rw[h3,qcS]at h; exact absurd h (by decide)
theorem zjs{cs:List Nat}:∀ {gs:List S_api_Gate} {i:Nat},zew (iL cs) (i:Int) gs=true->∀ k (h:k<gs.length),GOk cs (i+k) gs[k]
 | [],_,_,k,h=>absurd h (qav _)
 | g :: gs,i,h,0,_=>by
  simp only[zew,qaf]at h;exact zrl h.1
 | g :: gs,i,h,k+1,hk=>by
  simp only[zew,qaf]at h;have:=zjs (gs:=gs) (i:=i+1) h.2 k (by simpa using hk);rw[show i+(k+1)=i+1+k by omega];exact this
variable{c:S_api_Circuit}
theorem zrW(h:ziw c=true):∃ cs,COk cs c:=by
 unfold ziw zrX at h;simp only[qaf,qcX]at h;obtain⟨⟨⟨⟨⟨h1,h2⟩,h3⟩,h4⟩,h5,h6⟩,h7⟩:=h;obtain⟨ns,e,g1,g2⟩:=zl7 h3;refine⟨ns,e,?_,?_,g1,?_,h5,h6,λi hi=>?_⟩
 .rw[e,zas]at h1; exact h1
 .rw[e,zas]at h2; exact h2
 .omega
 rw[e]at h7;have:=zjs (i:=0) h7 i hi;rw[qaN]at this;exact this
theorem GOk.ar{cs:List Nat}{i:Nat}{g:S_api_Gate}(h:GOk cs i g):∃ ar:List Nat,g.args=iL ar/\(∀ a∈ar,a<i)/\ar.length<=i:=by
 cases h with
 | num n h=>exact⟨[],rfl,(λa h=>nomatch h),qaB _⟩
 | is v x hv hx=>exact⟨[],rfl,(λa h=>nomatch h),qaB _⟩
 | op k hk ar ne inc lt=>exact⟨ar,rfl,lt,by have:=zgq (b:=0) inc λa h=>⟨qaB _,lt a h⟩; omega⟩
def vw(acc:List Nat)(g:S_api_Gate):Nat:=g.args.foldl (λs a=>s ||| acc.getD a.toNat 0) (bif g.kind == 2 then 2 ^ g.var.toNat else 0)
def zpk:List S_api_Gate->List Nat->List Nat
 | [],acc=>acc
 | g :: gs,acc=>zpk gs (acc ++ [vw acc g])
theorem fold_congr{acc acc':List Nat}:∀(ar:List Nat) (s:Nat),(∀ a∈ar,acc.getD a 0=acc'.getD a 0)->(iL ar).foldl (λs a=>s ||| acc.getD a.toNat 0) s=(iL ar).foldl (λs a=>s ||| acc'.getD a.toNat 0) s
 | [],_,_=>rfl
 | a :: ar,s,h=>by
  show(iL ar).foldl _ (s ||| acc.getD a 0)=(iL ar).foldl _ (s ||| acc'.getD a 0);rw[h a qar];exact fold_congr ar _ λx hx=>h x (qam _ hx)
theorem zre{acc acc':List Nat}{ar:List Nat}(e:g.args=iL ar)(h:∀ a∈ar,acc.getD a 0=acc'.getD a 0):vw acc g=vw acc' g:=by
 unfold vw;rw[e];exact fold_congr ar _ h
theorem zkI{acc:List Nat}(h:∀ w∈acc,w<U64):∀(ar:List Nat) (s:Nat),s<U64->(iL ar).foldl (λs a=>s ||| acc.getD a.toNat 0) s<U64
 | [],_,hs=>hs
 | a :: ar,s,hs=>by
  show(iL ar).foldl _ (s ||| acc.getD a 0)<U64;refine zkI h ar _ (qbC (n:=64) hs ?_);rw[qaj];by_cases ha:a<acc.length
  .rw[qad ha]; exact h _ (qat ha)
  rw[qaL (by omega)]; decide
theorem zxe{cs:List Nat}(hc:cs.length<=8){acc:List Nat}(h:∀ w∈acc,w<U64)(hg:GOk cs i g):vw acc g<U64:=by
 unfold vw;cases hg with
 | num n h=>exact(by decide:(0:Nat)<U64)
 | is v x hv hx=>
  show 2 ^ ((v:Nat):Int).toNat<U64;rw[qaq];exact qbO (n:=64) (by decide) (by omega)
 | op k hk ar ne inc lt=>
  rcases hk with rfl | rfl
  .exact zkI h ar 0 (by decide)
  exact zkI h ar 0 (by decide)
theorem zjU{α:Type}{xs ys:List α}{d:α}(h:i<xs.length):(xs ++ ys).getD i d=xs.getD i d:=by
 rw[qaj,qai h,<- qaj]
theorem zpp{cs:List Nat}(hc:cs.length<=8):∀(gs:List S_api_Gate) (acc:List Nat),(∀ w∈acc,w<U64)->(∀ k (h:k<gs.length),GOk cs (acc.length+k) gs[k])->
  (zpk gs acc).length=acc.length+gs.length/\(∀ t,t<acc.length->(zpk gs acc).getD t 0=acc.getD t 0)/\(∀ w∈zpk gs acc,w<U64)/\∀ k (h:k<gs.length),(zpk gs acc).getD (acc.length+k) 0=vw (zpk gs acc) gs[k]
 | [],acc,hw,_=>⟨rfl,λ_ _=>rfl,hw,λk h=>absurd h (qav _)⟩
 | g :: gs,acc,hw,hg=>by
  have h0:GOk cs acc.length g:=hg 0 (qcP _);have hw':∀ w∈acc ++ [vw acc g],w<U64:=λw hm=>by
   rcases qbT.1 hm with hm | hm
   .exact hw w hm
   rw[qck.1 hm]; exact zxe hc hw h0
  have hl:(acc ++ [vw acc g]).length=acc.length+1:=by simp
  obtain⟨a1,a2,a3,a4⟩:=zpp hc gs (acc ++ [vw acc g]) hw' λk h=>by
   have:=hg (k+1) (by simpa using h);rw[hl,show acc.length+1+k=acc.length+(k+1) by omega];exact this
  refine⟨?_,λt ht=>?_,a3,λk hk=>?_⟩
  .show(zpk gs (acc ++ [vw acc g])).length=_;rw[a1,hl,qaP]; omega
  .show(zpk gs (acc ++ [vw acc g])).getD t 0=_;rw[a2 t (by omega),zjU ht]
  show(zpk gs (acc ++ [vw acc g])).getD _ 0=vw (zpk gs (acc ++ [vw acc g])) _;cases k with
  | zero=>
   rw[qbk,a2 acc.length (by omega),qaj,qal (qan _),qbK];show vw acc g=vw _ g;obtain⟨ar,e,q,_⟩:=GOk.ar h0;refine zre e λa ha=>?_
   have:=q a ha;rw[a2 a (by omega),zjU (by omega)]
  | succ k=>
   have:=a4 k (by simpa using hk);rw[hl,show acc.length+1+k=acc.length+(k+1) by omega]at this;exact this
structure VOk (gs:List S_api_Gate) (V:List Nat):Prop where
 len:V.length=gs.length
 lt:∀ w∈V,w<U64
 get:∀ k (h:k<gs.length),V.getD k 0=vw V gs[k]
theorem COk.vars{cs:List Nat}(h:COk cs c):∃ V,VOk c.gates V:=by
 obtain⟨a1,_,a3,a4⟩:=zpp h.len c.gates [] (λw h=>nomatch h) λk hk=>by
  rw[qaU,qaN]; exact h.gate k hk
 refine⟨zpk c.gates [],by rw[a1,qaU,qaN],a3,λk hk=>?_⟩;have:=a4 k hk;rw[qaU,qaN]at this;exact this
theorem VOk.lt'{gs:List S_api_Gate}{V:List Nat}(h:VOk gs V)(a:Nat):V.getD a 0<U64:=by
 rw[qaj];by_cases ha:a<V.length
 .rw[qad ha]; exact h.lt _ (qat ha)
 rw[qaL (by omega)]; decide
theorem VOk.zwn{gs:List S_api_Gate}{V:List Nat}(h:VOk gs V)(ha:a<gs.length):zaS (iL V) (a:Int)=some ((V.getD a 0:Nat):Int):=by
 have ha':a<V.length:=by rw[h.len]; exact ha
 rw[zaT ha',zah ha']
theorem zmG{gs:List S_api_Gate}{V:List Nat}(hV:VOk gs V){i:Nat}(hi:i<=gs.length)(h4:gs.length<=4000){g:S_api_Gate}{ar:List Nat}(e:g.args=iL ar)(hl:ar.length<=i)(ha:∀ a∈ar,a<i):∀(n k:Nat) (s:Nat),s<U64->k<=ar.length->ar.length - k<n ->
  za4 g (iL (V.take i)) n (s:Int) (k:Int)=some (((iL (ar.drop k)).foldl (λs a=>s ||| V.getD a.toNat 0) s:Nat):Int)
 | 0,_,_,_,_,h=>absurd h (qav _)
 | n+1,k,s,hs,h1,h2=>by
  unfold za4;rw[e,zas,zb7];by_cases hk:k<ar.length
  .have h3:=ha _ (qat hk);have h5:ar[k]<(V.take i).length:=by rw[qa5,hV.len]; omega
   have h6:zaS (iL (V.take i)) ((ar[k]:Nat):Int)=some ((V.getD ar[k] 0:Nat):Int):=by
    rw[zaT h5,List.getElem_take,zah (by rw[hV.len]; omega)]
   rw[qcT hk,qcR,zaT hk,qab,h6,qab,orU hs (hV.lt' _),zap (by omega),
    zmG hV hi h4 e hl ha n (k+1) _ (qbC (n:=64) hs (hV.lt' _)) hk (by omega),qau hk]
   rfl
  rw[qcU hk,qcS,qaM (by omega)]; rfl
theorem zjV{V:List Nat}(h:i<V.length):V.take (i+1)=V.take i ++ [V.getD i 0]:=by
 rw[List.take_add_one,qad h,zah h]; rfl
theorem zor(hv:v<8):znS .u64 1 (v:Int)=some ((2 ^ v:Nat):Int)/\IntKind.u64.wrap (v:Int)=(v:Int):=⟨zxI (by omega),zbA (by omega)⟩
theorem zmQ{cs:List Nat}{c:S_api_Circuit}(hc:COk cs c){V:List Nat}(hV:VOk c.gates V):∀(n i:Nat),i<=c.gates.length->c.gates.length - i<n ->
  za8 c n (i:Int) (iL (V.take i))=some (iL V)
 | 0,_,_,h=>absurd h (qav _)
 | n+1,i,h1,h2=>by
  have h4:=hc.glen;unfold za8;rw[zb7];by_cases hi:i<c.gates.length
  .have hg:=hc.gate i hi;obtain⟨ar,e,ha,hl⟩:=hg.ar;have hv:=hV.get i hi;rw[qcT hi,qcR,zau hi,qab];have hs:∃ s:Nat,s<U64/\((bif (c.gates[i].kind == 2)then(znS .u64 1 (IntKind.u64.wrap c.gates[i].var)).bind λq5=>some q5 else some 0):Option Int)=some (s:Int)/\s=(bif c.gates[i].kind == 2 then 2 ^ c.gates[i].var.toNat else 0):=by
    generalize c.gates[i]=g at hg;have hh:=hc.len;cases hg with
    | num n h=>exact⟨0,by decide,rfl,rfl⟩
    | is v x hv hx=>
     obtain⟨s1,s2⟩:=zor (v:=v) (by omega);refine⟨2 ^ v,qbO (n:=64) (by decide) (by omega),?_,?_⟩
     .show(znS .u64 1 (IntKind.u64.wrap (v:Int))).bind _=_;rw[s2,s1]; rfl
     .show 2 ^ v=2 ^ ((v:Nat):Int).toNat;rw[qaq]
    | op k hk ar ne inc lt=>
     rcases hk with rfl | rfl
     .exact⟨0,by decide,rfl,rfl⟩
     exact⟨0,by decide,rfl,rfl⟩
   obtain⟨s,hs1,hs2,hs3⟩:=hs;have hr:=zmG hV h1 h4 e hl ha (ar.length+2) 0 s hs1 (qaB _) (by omega);rw[show((0:Nat):Int)=0 from rfl,qbi]at hr;rw[hs2,qab,show c.gates[i].args.length=ar.length by rw[e,zas],zbN,hr,qab];unfold vw at hv;rw[e,<- hs3]at hv;have hlt:i<V.length:=by rw[hV.len]; exact hi
   rw[<- hv,zeQ (by rw[zas,qa5,qa3]; omega),qab,zap (by omega)];have:=zmQ hc hV n (i+1) hi (by omega);rw[zjV hlt]at this;simpa [iL]using this
  rw[qcU hi,qcS,qaQ (by rw[hV.len]; omega)]
theorem ztB{cs:List Nat}(hc:COk cs c){V:List Nat}(hV:VOk c.gates V):zbG c=some (iL V):=by
 have:=zmQ hc hV (c.gates.length+2) 0 (qaB _) (by omega);unfold zbG;rw[zbN];rw[show((0:Nat):Int)=0 from rfl,qcj]at this;rw[show([]:List Int)=iL []from rfl,this]; rfl
theorem zj6(ha:a<U64)(hb:b<U64):zby [(a:Int),(b:Int)]=some ((a ||| b:Nat):Int):=by
 unfold zby
 show(zaX [(a:Int),(b:Int)] 4 0 0).bind _=_;have e1:zaX [(a:Int),(b:Int)] 4 0 0=some (orI .u64 (orI .u64 0 (a:Int)) (b:Int)):=by
  simp only[zaX];rfl
 rw[e1,qab,show(0:Int)=((0:Nat):Int)from rfl,orU (by decide) ha,Nat.zero_or,orU ha hb]
theorem zmc{gs:List S_api_Gate}{V:List Nat}(hV:VOk gs V){i:Nat}(hi:i<gs.length)(h4:gs.length<=4000){c:S_api_Circuit}{g:S_api_Gate}{ar:List Nat}(e:g.args=iL ar)(hl:ar.length<=i)(ha:∀ a∈ar,a<i)(zs:List Nat):∀(n k:Nat) (s:Nat),s<U64->k<=ar.length->ar.length - k<n ->
  zaG g (i:Int) c n (k:Int) (iL (V.take i ++ s :: zs))=some (iL (V.take i ++ ((iL (ar.drop k)).foldl (λs a=>s ||| V.getD a.toNat 0) s):: zs))
 | 0,_,_,_,_,h=>absurd h (qav _)
 | n+1,k,s,hs,h1,h2=>by
  have hti:(V.take i).length=i:=by rw[qa5,hV.len]; omega
  unfold zaG;rw[e,zas,zb7];by_cases hk:k<ar.length
  .have h3:=ha _ (qat hk);have h6:zaS (iL (V.take i ++ s :: zs)) ((ar[k]:Nat):Int)=some ((V.getD ar[k] 0:Nat):Int):=by
    rw[zaT (by simp[hti]; omega),qcv (by omega),List.getElem_take,zah (by rw[hV.len]; omega)]
   rw[qcT hk,qcR,zaT hk,qab,zcp hti,qab,h6,qab,zj6 hs (hV.lt' _),qab,ze6 hti,qab,zap (by omega),
    zmc hV hi h4 e hl ha zs n (k+1) _ (qbC (n:=64) hs (hV.lt' _)) hk (by omega),qau hk]
   rfl
  rw[qcU hk,qcS,qaM (by omega)]; rfl
theorem zlU{cs:List Nat}{c:S_api_Circuit}(hc:COk cs c){V:List Nat}(hV:VOk c.gates V):∀(n i:Nat),i<=c.gates.length->c.gates.length - i<n ->
  zaL c n (i:Int) (iL (V.take i ++ List.replicate (c.gates.length - i) 0))=some (iL V)
 | 0,_,_,h=>absurd h (qav _)
 | n+1,i,h1,h2=>by
  have h4:=hc.glen;unfold zaL;rw[zb7];by_cases hi:i<c.gates.length
  .have hti:(V.take i).length=i:=by rw[qa5,hV.len]; omega
   obtain⟨m,hm⟩:∃ m,c.gates.length - i=m+1:=⟨c.gates.length - i - 1,by omega⟩;have hg:=hc.gate i hi;obtain⟨ar,e,ha,hl⟩:=hg.ar;have hv:=hV.get i hi;rw[qcT hi,qcR,zau hi,qab,hm,qa7];have hs:∃ s:Nat,s<U64/\((bif (c.gates[i].kind == 2)then(znS .u64 1 c.gates[i].var).bind λq7=>(zaS (iL (V.take i ++ 0 :: List.replicate m 0)) (i:Int)).bind λx9=>(zfp (iL (V.take i ++ 0 :: List.replicate m 0)) (i:Int) q7).bind λy11=>some y11 else some (iL (V.take i ++ 0 :: List.replicate m 0))):Option (List Int))=some (iL (V.take i ++ s :: List.replicate m 0))/\s=(bif c.gates[i].kind == 2 then 2 ^ c.gates[i].var.toNat else 0):=by
    generalize c.gates[i]=g at hg;have hh:=hc.len;cases hg with
    | num n h=>exact⟨0,by decide,rfl,rfl⟩
    | is v x hv hx=>
     obtain⟨s1,s2⟩:=zor (v:=v) (by omega);refine⟨2 ^ v,qbO (n:=64) (by decide) (by omega),?_,?_⟩
     .show(znS .u64 1 (v:Int)).bind (λq7=>(zaS (iL (V.take i ++ 0 :: List.replicate m 0)) (i:Int)).bind λx9=>(zfp (iL (V.take i ++ 0 :: List.replicate m 0)) (i:Int) q7).bind λy11=>some y11)=_;rw[s1,qab,zcp hti,qab,ze6 hti]; rfl
     .show 2 ^ v=2 ^ ((v:Nat):Int).toNat;rw[qaq]
    | op k hk ar ne inc lt=>
     rcases hk with rfl | rfl
     .exact⟨0,by decide,rfl,rfl⟩
     exact⟨0,by decide,rfl,rfl⟩
   obtain⟨s,hs1,hs2,hs3⟩:=hs;have hr:=zmc (c:=c) hV hi h4 e hl ha (List.replicate m 0) (ar.length+2) 0 s hs1 (qaB _) (by omega);rw[show((0:Nat):Int)=0 from rfl,qbi]at hr;rw[hs2,qab,show c.gates[i].args.length=ar.length by rw[e,zas],zbN,hr,qab];unfold vw at hv;rw[e,<- hs3]at hv;have hlt:i<V.length:=by rw[hV.len]; exact hi
   rw[<- hv,zap (by omega)];have:=zlU hc hV n (i+1) hi (by omega);rw[zjV hlt,show c.gates.length - (i+1)=m by omega,qaG]at this;exact this
  rw[qcU hi,qcS,qaQ (by rw[hV.len]; omega),show c.gates.length - i=0 by omega];simp
theorem zuf{cs:List Nat}(hc:COk cs c){V:List Nat}(hV:VOk c.gates V):zaZ c=some (iL V):=by
 have h4:=hc.glen;have:=zlU hc hV (c.gates.length+2) 0 (qaB _) (by omega);unfold zaZ;rw[zgE (by omega),qab,zbN,<- zsZ];rw[show((0:Nat):Int)=0 from rfl,qcj,qcG]at this;rw[show(iL (List.replicate c.gates.length 0))=iL ([]++ List.replicate c.gates.length 0)from rfl,this]; rfl
def ga(g:S_api_Gate):List Nat:=g.args.map Int.toNat
theorem zfA{ar:List Nat}(e:g.args=iL ar):ga g=ar:=by
 unfold ga;rw[e];simp[iL,qca]
def zfU:Nat->List Nat->Bool
 | _,[]=>true
 | m,w :: l=>(w &&& m == 0) && zfU (m ||| w) l
def smG(V:List Nat)(g:S_api_Gate):Bool:=bif g.kind == 3 then(ga g).all (λa=>V.getD a 0 == V.getD ((ga g).headD 0) 0)else true
def dcG(V:List Nat)(g:S_api_Gate):Bool:=bif g.kind == 3 then true else zfU 0 ((ga g).map λa=>V.getD a 0)
theorem zkd{gs:List S_api_Gate}{V:List Nat}(hV:VOk gs V)(h4:gs.length<=4000){g:S_api_Gate}(hk:(g.kind == 3)=true){ar:List Nat}(e:g.args=iL ar)(ne:ar≠[])(ha:∀ a∈ar,a<gs.length)(hl:ar.length<=4000)(dc:Bool):∀(n k:Nat) (sm:Bool) (met:Nat),met<U64->k<=ar.length->ar.length - k<n ->
  zaA g (iL V) n sm dc (met:Int) (k:Int)=some (sm && (ar.drop k).all (λa=>V.getD a 0 == V.getD (ar.headD 0) 0),dc)
 | 0,_,_,_,_,_,h=>absurd h (qav _)
 | n+1,k,sm,met,hm,h1,h2=>by
  unfold zaA;rw[e,zas,zb7];by_cases hlt:k<ar.length
  .have h0:0<ar.length:=by omega
   have e0:ar.headD 0=ar[0]:=by
    cases ar with
    | nil=>exact absurd rfl ne
    | cons a l=>rfl
   have h3:=ha _ (qat hlt);have h5:=ha _ (qat h0);rw[qcT hlt,qcR,zaT hlt,qab,hk,qcR,hV.zwn h3,qab,qau hlt,qbE,e0];have hr:=λb:Bool=>zkd hV h4 hk e ne ha hl dc n (k+1) b (met ||| V.getD ar[k] 0) (qbC (n:=64) hm (hV.lt' _)) hlt (by omega)
   rw[e0]at hr;cases sm with
   | true=>
    rw[qcR,show(0:Int)=((0:Nat):Int)from rfl,zaT h0,qab,hV.zwn h5,qab,qab];simp only;rw[qab,zj6 hm (hV.lt' _),qab,zap (by omega),hr,zue,qbr]
   | false=>
    rw[qcS,qab];simp only;rw[qab,zj6 hm (hV.lt' _),qab,zap (by omega),hr];rfl
  rw[qcU hlt,qcS,qaM (by omega)];cases sm<;>rfl
theorem zkt{gs:List S_api_Gate}{V:List Nat}(hV:VOk gs V)(h4:gs.length<=4000){g:S_api_Gate}(hk:(g.kind == 3)=false){ar:List Nat}(e:g.args=iL ar)(ha:∀ a∈ar,a<gs.length)(hl:ar.length<=4000)(sm:Bool):∀(n k:Nat) (dc:Bool) (met:Nat),met<U64->k<=ar.length->ar.length - k<n ->
  zaA g (iL V) n sm dc (met:Int) (k:Int)=some (sm,dc && zfU met ((ar.drop k).map λa=>V.getD a 0))
 | 0,_,_,_,_,_,h=>absurd h (qav _)
 | n+1,k,dc,met,hm,h1,h2=>by
  unfold zaA;rw[e,zas,zb7];by_cases hlt:k<ar.length
  .have h3:=ha _ (qat hlt);rw[qcT hlt,qcR,zaT hlt,qab,hk,qcS,hV.zwn h3,qab,qau hlt,qaS];have hr:=λb:Bool=>zkt hV h4 hk e ha hl sm n (k+1) b (met ||| V.getD ar[k] 0) (qbC (n:=64) hm (hV.lt' _)) hlt (by omega)
   simp only[zfU];cases dc with
   | true=>
    rw[qcR,qab];simp only;rw[qab,zj6 hm (hV.lt' _),qab,zap (by omega),hr,zvX (hV.lt' _) hm,zmk,qbr]
   | false=>
    rw[qcS,qab];simp only;rw[qab,zj6 hm (hV.lt' _),qab,zap (by omega),hr];rfl
  rw[qcU hlt,qcS,qaM (by omega)];cases dc<;>rfl
theorem GOk.ne{cs:List Nat}{i:Nat}{g:S_api_Gate}(hg:GOk cs i g){ar:List Nat}(e:g.args=iL ar)(hk:(g.kind == 3)=true):ar≠[]:=by
 rintro rfl;cases hg with
 | num n h=>exact absurd hk (by decide:¬ ((1:Int)== 3)=true)
 | is v x hv hx=>exact absurd hk (by decide:¬ ((2:Int)== 3)=true)
 | op k hk ar ne inc lt=>exact ne (List.map_eq_nil_iff.1 e)
theorem zmb{cs:List Nat}{c:S_api_Circuit}(hc:COk cs c){V:List Nat}(hV:VOk c.gates V):∀(n i:Nat) (sm dc:Bool),i<=c.gates.length->c.gates.length - i<n ->
  za5 c (iL V) n sm dc (i:Int)=some (sm && (c.gates.drop i).all (smG V),dc && (c.gates.drop i).all (dcG V))
 | 0,_,_,_,_,h=>absurd h (qav _)
 | n+1,i,sm,dc,h1,h2=>by
  have h4:=hc.glen;unfold za5;rw[zb7];by_cases hi:i<c.gates.length
  .have hg:=hc.gate i hi;obtain⟨ar,e,ha,hl⟩:=hg.ar;have ha':∀ a∈ar,a<c.gates.length:=λa h=>Nat.lt_trans (ha a h) hi
   have hq:zaA c.gates[i] (iL V) (((c.gates[i].args.length:Int) - 0+2:Int).toNat) sm dc 0 0=some (sm && smG V c.gates[i],dc && dcG V c.gates[i]):=by
    rw[zbN,e,zas];unfold smG dcG;rw[zfA e];cases hk:(c.gates[i].kind == 3)with
    | true=>
     have ne:=hg.ne e hk;have:=zkd hV h4 hk e ne ha' (by omega) dc (ar.length+2) 0 sm 0 (by decide) (qaB _) (by omega);rw[qbi]at this;rw[qcR,qcR,qb0];exact this
    | false=>
     have:=zkt hV h4 hk e ha' (by omega) sm (ar.length+2) 0 dc 0 (by decide) (qaB _) (by omega);rw[qbi]at this;rw[qcS,qcS,qb0];exact this
   rw[qcT hi,qcR,zau hi,qab,hq,qab];simp only;rw[zap (by omega),zmb hc hV n (i+1) _ _ hi (by omega),qau hi,qbE,qbE,Bool.and_assoc,Bool.and_assoc]
  rw[qcU hi,qcS,qaM (by omega)];cases sm<;>cases dc<;>rfl
theorem zmg{V:List Nat}{w:Nat}:∀(ar:List Nat) (s:Nat),(∀ a∈ar,V.getD a 0=w)->ar≠[]->(iL ar).foldl (λs a=>s ||| V.getD a.toNat 0) s=s ||| w
 | [],_,_,h=>absurd rfl h
 | [a],s,h,_=>by
  show s ||| V.getD a 0=s ||| w;rw[h a qar]
 | a :: b :: l,s,h,_=>by
  show(iL (b :: l)).foldl _ (s ||| V.getD a 0)=s ||| w;rw[zmg (b :: l) _ (λx hx=>h x (qam _ hx)) (List.cons_ne_nil _ _),h a qar,Nat.or_assoc,Nat.or_self]
theorem zqx{gs:List S_api_Gate}{V:List Nat}{ar:List Nat}(hk:(g.kind == 3)=true)(e:g.args=iL ar)(ne:ar≠[])(hv:V.getD i 0=vw V g):
  ar.all (λa=>V.getD a 0 == V.getD i 0)=ar.all (λa=>V.getD a 0 == V.getD (ar.headD 0) 0):=by
 have hh:ar.headD 0∈ar:=by
  cases ar with
  | nil=>exact absurd rfl ne
  | cons a l=>exact qar
 have h2:(g.kind == 2)=false:=by rw[beq_iff_eq.1 hk]; rfl
 unfold vw at hv;rw[h2,qcS,e]at hv;rw[qbL,qaY,qaY];constructor
 .intro h a ha;rw[beq_iff_eq.1 (h a ha),beq_iff_eq.1 (h _ hh)];exact qcW _
 intro h a ha;rw[hv,zmg (w:=V.getD (ar.headD 0) 0) ar 0 (λa ha=>beq_iff_eq.1 (h a ha)) ne,Nat.zero_or];exact h a ha
def znD(V:List Nat)(pre:List Nat):List Nat->Bool
 | []=>true
 | a :: l=>pre.all (λb=>V.getD a 0 &&& V.getD b 0 == 0) && znD V (pre ++ [a]) l
theorem zlC{V:List Nat}(w:Nat):∀(pre:List Nat) (s:Nat),(w &&& pre.foldl (λs b=>s ||| V.getD b 0) s == 0)=((w &&& s == 0) && pre.all λb=>w &&& V.getD b 0 == 0)
 | [],s=>by simp
 | b :: pre,s=>by
  rw[qbF,zlC w pre,qbE,<- Bool.and_assoc];congr 1
  rw[Nat.and_or_distrib_left,qbL,qaf,qcV,qcV,qcV,Nat.or_eq_zero_iff]
theorem zl8{V:List Nat}:∀(l pre:List Nat),zfU (pre.foldl (λs b=>s ||| V.getD b 0) 0) (l.map λa=>V.getD a 0)=znD V pre l
 | [],_=>rfl
 | a :: l,pre=>by
  have:=zl8 (V:=V) l (pre ++ [a]);rw[List.foldl_append]at this;simp only[qaS,zfU,znD];rw[<- this,zlC,Nat.and_zero];rfl
end Go.Dc
