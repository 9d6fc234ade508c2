/-
 Plain laws: numbers and sets of bits. Conditions: none.
-/
import Derived.Test.YtbjogdohfhdaiaaCkJ2
set_option linter.unusedSimpArgs false
set_option linter.unusedVariables false
namespace Go.Dc
open Go Go.Mx Go.Lx
variable{n:Nat}
theorem zoC(h:n<9223372036854775808):w64 (n:Int)=(n:Int):=wrap64 (by omega) (by omega)
theorem zfk{n:Int}(h1:-9223372036854775808<=n)(h2:n<9223372036854775808):w64 n=n:=wrap64 h1 h2
theorem zak(h:n+1<9223372036854775808):w64 ((n:Int)+1)=((n+1:Nat):Int):=by
 rw[zfk (by omega) (by omega)]; omega
theorem zvE(n:Nat):IntKind.u64.wrap (n:Int)=((n % 18446744073709551616:Nat):Int):=by
 simp only[IntKind.wrap,IntKind.bits,IntKind.signed]; simp
theorem zgs(h:n<18446744073709551616):IntKind.u64.wrap (n:Int)=(n:Int):=by
 rw[zvE,qbi h]
variable{b:Nat}
theorem zvs{a:Nat}(ha:a<18446744073709551616)(hb:b<18446744073709551616):zmJ .u64 (a:Int) (b:Int)=((a &&& b:Nat):Int):=by
 have h:(BitVec.ofInt 64 (a:Int) &&& BitVec.ofInt 64 (b:Int)).toNat=a &&& b:=by
  simp only[BitVec.ofInt_natCast,BitVec.toNat_and,BitVec.toNat_ofNat];rw[qbi ha,qbi hb]
 show IntKind.u64.wrap ((BitVec.ofInt 64 (a:Int) &&& BitVec.ofInt 64 (b:Int)).toNat:Int)=_;rw[h];exact zgs (Nat.lt_of_le_of_lt Nat.and_le_left ha)
theorem orU{a:Nat}(ha:a<18446744073709551616)(hb:b<18446744073709551616):orI .u64 (a:Int) (b:Int)=((a ||| b:Nat):Int):=by
 have h:(BitVec.ofInt 64 (a:Int)||| BitVec.ofInt 64 (b:Int)).toNat=a ||| b:=by
  simp only[BitVec.ofInt_natCast,BitVec.toNat_or,BitVec.toNat_ofNat];rw[qbi ha,qbi hb]
 show IntKind.u64.wrap ((BitVec.ofInt 64 (a:Int)||| BitVec.ofInt 64 (b:Int)).toNat:Int)=_;rw[h];exact zgs (qbx (n:=64) ha hb)
theorem zwp{v:Nat}(hv:v<64):zny .u64 1 (v:Int)=some ((2 ^ v:Nat):Int):=by
 unfold zny;rw[if_pos (by omega)];congr 1
 have h1:min (v:Int).toNat IntKind.u64.bits=v:=by
  rw[show IntKind.u64.bits=64 from rfl,qaH]; exact qbB (by omega)
 rw[h1,Int.one_mul];have h2:((2:Int) ^ v)=((2 ^ v:Nat):Int):=by simp
 rw[h2];exact zgs (qbF (by decide) hv)
variable {α:Type}
variable{i:Nat}
theorem zl0{xs:List α}:zaH xs (i:Int)=xs[i]?:=by
 unfold zaH;rw[if_pos (qbT i),qaH]
theorem zaq{xs:List α}(h:i<xs.length):zaH xs (i:Int)=some (xs[i]'h):=by
 rw[zl0,qae h]
theorem zfK{xs:List α}{v:α}(h:i<xs.length):zfU xs (i:Int) v=some (xs.set i v):=by
 unfold zfU;rw[if_pos (by omega),qaH]
theorem zdq{xs ys:List α}(h:(xs.length+ys.length)* b<=70368744177664):zeo b xs ys=some (xs ++ ys):=by
 unfold zeo;rw[if_pos (by simp only[zag]; omega)]
theorem zfW{z:α}(h:n * b<=70368744177664):zfN b (n:Int) z=some (List.replicate n z):=by
 have h2:(n:Int)* (b:Int)<=zag:=by
  rw[<- qcm]; simp only[zag]; omega
 unfold zfN;rw[if_pos ⟨qbT n,h2⟩,qaH]
theorem zqo{xs:List α}(h:xs.length * b<=70368744177664):zjD b xs=some xs:=by
 unfold zjD;rw[if_pos (by simp only[zag]; omega)]
theorem za3:decide ((i:Int)<(n:Int))=decide (i<n):=by simp
theorem zaB(n:Nat):((n:Int) - 0+2).toNat=n+2:=by omega
def iL(xs:List Nat):List Int:=xs.map (λx:Nat=>(x:Int))
theorem zaV(xs:List Nat):(iL xs).length=xs.length:=by simp[iL]
variable{xs:List Nat}
theorem zry(h:i<xs.length):(iL xs)[i]'(by rw[zaV]; exact h)=((xs[i]:Nat):Int):=by simp[iL]
theorem zbI(h:i<xs.length):zaH (iL xs) (i:Int)=some ((xs[i]:Nat):Int):=by
 rw[zaq (by rw[zaV]; exact h),zry h]
def zan(xs:List Nat):Nat:=xs.foldr (· * ·) 1
theorem zqa{xs:List Nat}(h:∀ x∈xs,1<=x):1<=zan xs:=by
 induction xs with
 | nil=>exact qam 1
 | cons x xs ih=>exact Nat.mul_le_mul (h x qaB) (ih λy hy=>h y (qav _ hy))
theorem znX(k:Nat):iL (List.replicate k 0)=List.replicate k 0:=by simp[iL]
def dig:List Nat->Nat->List Nat
 | [],_=>[]
 | _ :: cs,i=>i / zan cs :: dig cs (i % zan cs)
theorem zd7:∀(cs:List Nat) (i:Nat),(dig cs i).length=cs.length
 | [],_=>rfl
 | _ :: cs,i=>by simp[dig,zd7 cs]
def zds:List Nat->List Nat->Prop
 | [],[]=>True
 | c :: cs,x :: xs=>x<c/\c<=8/\zds cs xs
 | _,_=>False
theorem zds.len:∀ {cs xs:List Nat},zds cs xs->xs.length=cs.length
 | [],[],_=>rfl
 | c :: cs,x :: xs,h=>by simp[h.2.2.len]
theorem zds.snoc:∀ {cs xs:List Nat} {c x:Nat},zds (cs ++ [c]) (xs ++ [x])->xs.length=cs.length->zds cs xs/\x<c/\c<=8
 | [],[],c,x,h,_=>⟨qcD,h.1,h.2.1⟩
 | c :: cs,x :: xs,_,_,h,hl=>by
  obtain⟨h1,h2,h3⟩:=h;obtain⟨g1,g2⟩:=h3.snoc (by simpa using hl);exact⟨⟨h1,h2,g1⟩,g2⟩
theorem zeJ{cs:List Nat}(h:∀ c∈cs,1<=c/\c<=8):0<zan cs:=zqa λc hc=>(h c hc).1
theorem zey:∀ {cs:List Nat} {i:Nat},(∀ c∈cs,1<=c/\c<=8)->i<zan cs->zds cs (dig cs i)
 | [],_,_,_=>trivial
 | c :: cs,i,h,hi=>by
  have hc:=h c qaB;have hp:=zeJ λd hd=>h d (qav c hd)
  refine⟨?_,hc.2,zey (λd hd=>h d (qav c hd)) (qbw _ hp)⟩;have h1:i<c * zan cs:=hi;exact Nat.div_lt_of_lt_mul (by rw[qch]; exact h1)
def nxt:List Nat->List Nat->Option (List Nat)
 | c :: cs,v :: vs=>match nxt cs vs with
  | some vs'=>some (v :: vs')
  | none=>if v+1<c then some ((v+1):: List.replicate vs.length 0)else none
 | _,_=>none
theorem ze6:∀ {cs vs:List Nat} {c v:Nat},vs.length=cs.length->v+1<c->nxt (cs ++ [c]) (vs ++ [v])=some (vs ++ [v+1])
 | [],[],c,v,_,h=>by simp[nxt,h]
 | d :: cs,u :: vs,c,v,hl,h=>by
  simp only[qaY,nxt,ze6 (show vs.length=cs.length by simpa using hl) h]
theorem zeg:∀ {cs vs:List Nat} {c v:Nat},vs.length=cs.length->¬ v+1<c->nxt (cs ++ [c]) (vs ++ [v])=(nxt cs vs).map (· ++ [0])
 | [],[],c,v,_,h=>by simp[nxt,h]
 | d :: cs,u :: vs,c,v,hl,h=>by
  simp only[qaY,nxt,zeg (show vs.length=cs.length by simpa using hl) h];cases hn:nxt cs vs with
  | some vs'=>rfl
  | none=>
   simp only[qcj];by_cases hu:u+1<d
   .rw[if_pos hu,if_pos hu];simp[qcC]
   rw[if_neg hu,if_neg hu]; rfl
theorem zgo:∀(cs:List Nat),dig cs 0=List.replicate cs.length 0
 | []=>rfl
 | c :: cs=>by simp[dig,zgo cs,qbc]
theorem zlo:∀ {cs:List Nat} {i:Nat},(∀ c∈cs,1<=c/\c<=8)->i<zan cs->nxt cs (dig cs i)=if i+1<zan cs then some (dig cs (i+1))else none
 | [],i,_,hi=>by
  have:i=0:=by simpa [zan]using hi
  subst this;simp[nxt,zan]
 | c :: cs,i,h,hi=>by
  have hp:=zeJ λd hd=>h d (qav c hd)
  have hm:=qbw i hp;have ih:=zlo (λd hd=>h d (qav c hd)) hm;have hi':i<c * zan cs:=hi;simp only[dig,nxt,ih];have hdm:=Nat.div_add_mod i (zan cs);generalize hq:i / zan cs=q at *;generalize hr:i % zan cs=r at *;have hprod:zan (c :: cs)=c * zan cs:=rfl;by_cases h1:r+1<zan cs
  .rw[if_pos h1];have e1:(i+1) / zan cs=q:=by
    rw[<- hdm,qa8,Nat.mul_add_div hp,Nat.div_eq_of_lt h1,qbo]
   have e2:(i+1) % zan cs=r+1:=by
    rw[<- hdm,qa8,Nat.mul_add_mod,qbi h1]
   have hqc:q<c:=by rw[<- hq]; exact Nat.div_lt_of_lt_mul (by rw[qch]; exact hi')
   have h2:i+1<zan (c :: cs):=by
    rw[hprod];have:(q+1)* zan cs<=c * zan cs:=qaC _ hqc;rw[qaX,qcr,qch q]at this;omega
   rw[if_pos h2,e1,e2]
  rw[if_neg h1];have hr1:r+1=zan cs:=by omega
  have hi1:i+1=zan cs * (q+1):=by rw[Nat.mul_add,qcs]; omega
  simp only;have h4:(q+1<c)↔(i+1<zan (c :: cs)):=by
   rw[hprod,hi1,qch c];exact(Nat.mul_lt_mul_left hp).symm
  by_cases h5:q+1<c
  .rw[if_pos h5,if_pos (h4.1 h5),hi1,Nat.mul_div_cancel_left _ hp,Nat.mul_mod_right,zgo,zd7]
  rw[if_neg h5,if_neg (λh=>h5 (h4.2 h))]
variable{ys:List Nat}{k:Nat}
theorem zcg{x:Nat}(h:xs.length=k):zaH (iL (xs ++ x :: ys)) (k:Int)=some (x:Int):=by
 subst h;rw[zbI (by simp)];simp
theorem zdN{x y:Nat}(h:xs.length=k):zfU (iL (xs ++ x :: ys)) (k:Int) (y:Int)=some (iL (xs ++ y :: ys)):=by
 subst h;rw[zfK (by rw[zaV]; simp)];simp[iL]
theorem zii(h:xs.length=k+1):∃ ys y,xs=ys ++ [y]/\ys.length=k:=by
 have hne:xs≠[]:=by rintro rfl; simp at h
 exact⟨xs.dropLast,xs.getLast hne,(List.dropLast_concat_getLast hne).symm,by simp[h]⟩
theorem znR(cs:List Nat):∀ a:Nat,(iL cs).foldl (· * ·) (a:Int)=((a * zan cs:Nat):Int):=by
 induction cs with
 | nil=>intro a; simp[iL,zan]
 | cons c cs ih=>
  intro a;show(iL cs).foldl (· * ·) ((a:Int)* (c:Int))=_;rw[<- qcm,ih,Nat.mul_assoc];rfl
theorem zxo(k:Nat):decide ((0:Int)<=(k:Int))=true:=qcG (qbT k)
theorem pred_succ(k:Nat):((k+1:Nat):Int) - 1=(k:Int):=by omega
theorem zrE:∀(k n:Nat) (xs cx cy zs:List Nat),xs.length=k->cx.length=k->zds cx xs->k<n->k<=12 ->
  zcC (iL (cx ++ cy)) n ((k:Int) - 1) (iL (xs ++ zs))=some (match nxt cx xs with | some xs'=>.ret (iL (xs' ++ zs),true)| none=>.go (iL (List.replicate k 0 ++ zs)))
 | k,0,_,_,_,_,_,_,_,h,_=>absurd h (qaq _)
 | 0,n+1,xs,cx,cy,zs,hx,hc,_,_,_=>by
  obtain rfl:xs=[]:=qa5.1 hx;obtain rfl:cx=[]:=qa5.1 hc;rfl
 | k+1,n+1,xs,cx,cy,zs,hx,hc,hb,hn,hk=>by
  obtain⟨xs,x,rfl,lx⟩:=zii hx;obtain⟨cx,c,rfl,lc⟩:=zii hc;obtain⟨hb1,hb2,hb3⟩:=hb.snoc (lx.trans lc.symm);simp only[qbe,qbC];unfold zcC;rw[pred_succ,zxo,qcE,zcg lx,qab,zak (by omega),zdN lx,qab,zcg lc,qab,za3];by_cases h1:x+1<c
  .rw[qcG h1,qcE,ze6 (lx.trans lc.symm) h1];simp
  rw[qcH h1,qcF,show(0:Int)=((0:Nat):Int)from rfl,zdN lx,qab,zfk (by omega) (by omega),zrE k n xs cx (c :: cy) (0 :: zs) lx lc hb1 (by omega) (by omega),zeg (lx.trans lc.symm) h1];cases nxt cx xs with
  | none=>simp[qcC]
  | some xs'=>simp
theorem zun{cs:List Nat}(hb:zds cs xs)(hl:cs.length<=12):zdC (iL cs) (iL xs)=some (match nxt cs xs with | some xs'=>(iL xs',true)| none=>(iL (List.replicate cs.length 0),false)):=by
 have hlen:=hb.len;unfold zdC;rw[zqo (by rw[zaV]; omega),qab,zaV,zfk (by omega) (by omega)];have h:=zrE cs.length (cs.length+1) xs cs [] [] hlen rfl hb (by omega) hl;simp only[qbb]at h;rw[hlen,show((cs.length:Int) - 1 - 0+2).toNat=cs.length+1 by omega,h,qab];cases nxt cs xs<;>rfl
theorem ztW{cs:List Nat}(hc:∀ c∈cs,1<=c/\c<=8)(hl:cs.length<=12)(hp:zan cs<=4096):∀(m i n:Nat) (acc:List (List Int)),i+(m+1)=zan cs->acc.length<=i->m+1<n ->
  zcy (iL cs) n (iL (dig cs i)) true acc=some (acc ++ (List.range' i (m+1)).map λj:Nat=>iL (dig cs j))
 | m,i,0,_,_,_,h=>absurd h (qaq _)
 | m,i,n+1,acc,hi,ha,hn=>by
  have hb:=zey hc (show i<zan cs by omega);unfold zcy;rw[qcE,zdq (by simp; omega),qab,zun hb hl,qab,zlo hc (show i<zan cs by omega)];cases m with
  | zero=>
   rw[if_neg (by omega)];obtain⟨n,rfl⟩:∃ k,n=k+1:=⟨n - 1,by omega⟩;simp only;unfold zcy;rw[qcF];rfl
  | succ m=>
   rw[if_pos (by omega)];simp only;rw[ztW hc hl hp m (i+1) n _ (by omega) (by simp; omega) (by omega),qbe];rfl
def zsR(cs:List Nat):List (List Int):=(List.range' 0 (zan cs)).map λj:Nat=>iL (dig cs j)
theorem zmt(cs:List Nat):(zsR cs).length=zan cs:=by simp[zsR]
theorem zqS{cs:List Nat}(h:i<zan cs):zaH (zsR cs) (i:Int)=some (iL (dig cs i)):=by
 rw[zl0,zsR,qaR,List.getElem?_range' h];simp
theorem zvL{cs:List Nat}(hc:∀ c∈cs,1<=c/\c<=8)(hl:cs.length<=12)(hp:zan cs<=4096):zef 5000 (iL cs)=some (zsR cs):=by
 have hpos:=zeJ hc;obtain⟨m,hm⟩:∃ m,zan cs=m+1:=⟨zan cs - 1,by omega⟩;unfold zef zsR;have e:=ztW hc hl hp m 0 5000 [] (by omega) (qam _) (by omega);rw[zgo,znX]at e;rw[zaV,zfW (by omega),qab,e,qab,hm];rfl
end Go.Dc
