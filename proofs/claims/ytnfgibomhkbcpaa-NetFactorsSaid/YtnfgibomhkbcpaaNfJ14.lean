/-
 Plain laws: numbers and sets of bits. Conditions: none.
-/
import Derived.Test.YtnfgibomhkbcpaaNfJ7
import Derived.Test.YtnfgibomhkbcpaaNfJ11
set_option linter.unusedSimpArgs false
set_option linter.unusedVariables false
namespace Go.Dc
open Go Go.Mx Go.Lx
theorem zaA{n:Nat}(h:n<9223372036854775808):w64 (n:Int)=(n:Int):=wrap64 (by omega) (by omega)
theorem zgT{n:Int}(h1:-9223372036854775808≤n)(h2:n<9223372036854775808):w64 n=n:=wrap64 h1 h2
theorem zao{n:Nat}(h:n+1<9223372036854775808):w64 ((n:Int)+1)=((n+1:Nat):Int):=by
 rw[zgT (by omega) (by omega)]; omega
theorem zxL(n:Nat):IntKind.u64.wrap (n:Int)=((n % 18446744073709551616:Nat):Int):=by
 simp only[IntKind.wrap,IntKind.bits,IntKind.signed]; simp
theorem zd3{n:Nat}(h:n<18446744073709551616):IntKind.u64.wrap (n:Int)=(n:Int):=by
 rw[zxL,qa7 h]
theorem zAo{a b:Nat}(ha:a<18446744073709551616)(hb:b<18446744073709551616):zo1 .u64 (a:Int) (b:Int)=((a &&& b:Nat):Int):=by
 have h:(BitVec.ofInt 64 (a:Int) &&& BitVec.ofInt 64 (b:Int)).toNat=a &&& b:=by
  simp only[qci,BitVec.toNat_and,BitVec.toNat_ofNat];rw[qa7 ha,qa7 hb]
 show IntKind.u64.wrap ((BitVec.ofInt 64 (a:Int) &&& BitVec.ofInt 64 (b:Int)).toNat:Int)=_;rw[h];exact zd3 (qbC Nat.and_le_left ha)
theorem orU{a b:Nat}(ha:a<18446744073709551616)(hb:b<18446744073709551616):orI .u64 (a:Int) (b:Int)=((a ||| b:Nat):Int):=by
 have h:(BitVec.ofInt 64 (a:Int)||| BitVec.ofInt 64 (b:Int)).toNat=a ||| b:=by
  simp only[qci,BitVec.toNat_or,BitVec.toNat_ofNat];rw[qa7 ha,qa7 hb]
 show IntKind.u64.wrap ((BitVec.ofInt 64 (a:Int)||| BitVec.ofInt 64 (b:Int)).toNat:Int)=_;rw[h];exact zd3 (qck (n:=64) ha hb)
def diff(a b:Nat):Nat:=(BitVec.ofNat 64 a &&& ~~~ BitVec.ofNat 64 b).toNat
theorem zvN(a b:Nat):diff a b<18446744073709551616:=(BitVec.ofNat 64 a &&& ~~~ BitVec.ofNat 64 b).isLt
theorem zAd(a b:Nat):zyn .u64 (a:Int) (b:Int)=((diff a b:Nat):Int):=by
 show IntKind.u64.wrap ((BitVec.ofInt 64 (a:Int) &&& ~~~ BitVec.ofInt 64 (b:Int)).toNat:Int)=_;rw[qci,qci];exact zd3 (zvN a b)
theorem znY{a b i:Nat}(ha:a<18446744073709551616)(hb:b<18446744073709551616):(diff a b).testBit i=(a.testBit i && !b.testBit i):=by
 unfold diff;rw[BitVec.testBit_toNat,BitVec.getLsbD_and,BitVec.getLsbD_not,BitVec.getLsbD_ofNat,BitVec.getLsbD_ofNat];by_cases hi:i<64
 ·simp[hi]
 have:a.testBit i=false:=Nat.testBit_lt_two_pow (qbv ha (qbu (n:=2) (by decide) (show 64≤i by omega)));simp[hi,this]
theorem zyu{v:Nat}(hv:v<64):zso .u64 1 (v:Int)=some ((2 ^ v:Nat):Int):=by
 unfold zso;rw[if_pos (by omega)];congr 1
 have h1:min (v:Int).toNat IntKind.u64.bits=v:=by
  rw[show IntKind.u64.bits=64 from rfl,qaF]; exact qbE (by omega)
 rw[h1,Int.one_mul];have h2:((2:Int) ^ v)=((2 ^ v:Nat):Int):=by simp
 rw[h2];exact zd3 (qbX (by decide) hv)
theorem zzF{a v:Nat}(hv:v<64):zla .u64 (a:Int) (v:Int)=some ((a >>> v:Nat):Int):=by
 unfold zla;rw[if_pos (by omega)];congr 1
 have h1:min (v:Int).toNat IntKind.u64.bits=v:=by
  rw[show IntKind.u64.bits=64 from rfl,qaF]; exact qbE (by omega)
 rw[h1,qbG];have h2:((2:Int) ^ v)=((2 ^ v:Nat):Int):=by simp
 rw[h2,qcE _ (qbs _)];rfl
theorem zzD(a v:Nat):((a >>> v) &&& 1)=(a.testBit v).toNat:=by
 rw[Nat.and_one_is_mod,Nat.testBit_eq_decide_div_mod_eq,qbG];have h:=Nat.mod_two_eq_zero_or_one (a / 2 ^ v);rcases h with h | h<;>simp[h]
theorem zzG{a v:Nat}(ha:a<18446744073709551616)(hv:v<64):∃ q:Int,zla .u64 (a:Int) (v:Int)=some q∧zo1 .u64 q 1=((a.testBit v).toNat:Int):=by
 refine⟨_,zzF hv,?_⟩;rw[show(1:Int)=((1:Nat):Int)from rfl,zAo (qbC (by rw[qbG]; exact qc8 _ _) ha) (by decide),zzD]
variable {α:Type}
theorem zj7{xs:List α}{i:Nat}:zaP xs (i:Int)=xs[i]?:=by
 unfold zaP;rw[if_pos (qbs i),qaF]
theorem zaJ{xs:List α}{i:Nat}(h:i<xs.length):zaP xs (i:Int)=some (xs[i]'h):=by
 rw[zj7,qad h]
theorem zeF{xs:List α}{i:Nat}{v:α}(h:i<xs.length):zfP xs (i:Int) v=some (xs.set i v):=by
 unfold zfP;rw[if_pos (by omega),qaF]
theorem zck{b:Nat}{xs ys:List α}(h:(xs.length+ys.length)* b≤70368744177664):zcW b xs ys=some (xs ++ ys):=by
 unfold zcW;rw[if_pos (by simp only[zac]; omega)]
theorem zey{b n:Nat}{z:α}(h:n * b≤70368744177664):zfB b (n:Int) z=some (List.replicate n z):=by
 have h2:(n:Int)* (b:Int)≤zac:=by
  rw[← qa4]; simp only[zac]; omega
 unfold zfB;rw[if_pos ⟨qbs n,h2⟩,qaF]
theorem zjt{b:Nat}{xs:List α}(h:xs.length * b≤70368744177664):zeL b xs=some xs:=by
 unfold zeL;rw[if_pos (by simp only[zac]; omega)]
theorem zar{i n:Nat}:decide ((i:Int)<(n:Int))=decide (i<n):=by simp
theorem zax(n:Nat):((n:Int) - 0+2).toNat=n+2:=by omega
theorem zsl{p0:S_api_Net}(hl:p0.nodes.length≤8):∀(n i:Nat) (acc:List Int),i≤p0.nodes.length→acc.length≤i→p0.nodes.length - i<n →
  zcM p0 n (i:Int) acc=some (acc ++ (p0.nodes.drop i).map (·.card))
 | 0,_,_,_,_,h=>absurd h (qam _)
 | n+1,i,acc,h1,h2,h3=>by
  unfold zcM;by_cases hi:i<p0.nodes.length
  ·rw[zar,decide_eq_true hi,cond_true,zaJ hi,qaa,zck (by simp; omega),qaa,zao (by omega),
    zsl hl n (i+1) _ hi (by simp; omega) (by omega),qao hi]
   rw[qaW]; rfl
  rw[zar,decide_eq_false hi,cond_false,qaM (by omega)];simp
theorem zoh{p0:S_api_Net}(hl:p0.nodes.length≤8):zdT p0=some (p0.nodes.map (·.card)):=by
 unfold zdT;rw[zax];have h:=zsl hl (p0.nodes.length+2) 0 [] (qay _) (qaj _) (by omega);rw[show((0:Nat):Int)=0 from rfl]at h;rw[h];simp
def Pl(n:Nat)(xs:List Nat):Prop:=∀ x∈xs,x<n
def iL(xs:List Nat):List Int:=xs.map (fun x:Nat=>(x:Int))
theorem zaq(xs:List Nat):(iL xs).length=xs.length:=by simp[iL]
theorem ztT{xs:List Nat}{i:Nat}(h:i<xs.length):(iL xs)[i]'(by rw[zaq]; exact h)=((xs[i]:Nat):Int):=by simp[iL]
theorem za2{xs:List Nat}{i:Nat}(h:i<xs.length):zaP (iL xs) (i:Int)=some ((xs[i]:Nat):Int):=by
 rw[zaJ (by rw[zaq]; exact h),ztT h]
theorem zzx{cs:List Int}{ps:List Nat}(hp:Pl cs.length ps)(hl:ps.length≤8):∀(n i:Nat) (acc:List Int),i≤ps.length→acc.length≤i→ps.length - i<n →
  zew (iL ps) cs n (i:Int) acc=some (acc ++ (ps.drop i).map fun p=>cs.getD p 0)
 | 0,_,_,_,_,h=>absurd h (qam _)
 | n+1,i,acc,h1,h2,h3=>by
  unfold zew;rw[zaq];by_cases hi:i<ps.length
  ·have hb:ps[i]<cs.length:=hp _ (qaq hi)
   rw[zar,decide_eq_true hi,cond_true,za2 hi,qaa,zaJ hb,qaa,zck (by simp; omega),qaa,zao (by omega),
    zzx hp hl n (i+1) _ hi (by simp; omega) (by omega),qao hi]
   rw[qaW,qaH,show cs.getD ps[i] 0=cs[ps[i]] by simp[hb]]; rfl
  rw[zar,decide_eq_false hi,cond_false,qaM (by omega)];simp
theorem zvL{cs:List Int}{ps:List Nat}(hp:Pl cs.length ps)(hl:ps.length≤8):zeI cs (iL ps)=some (ps.map fun p=>cs.getD p 0):=by
 unfold zeI;rw[zaq,zax];have h:=zzx hp hl (ps.length+2) 0 [] (qay _) (qaj _) (by omega);rw[show((0:Nat):Int)=0 from rfl]at h;rw[h];simp
def zai(xs:List Nat):Nat:=xs.foldr (· * ·) 1
theorem zfd{xs:List Nat}(h:∀ x∈xs,1≤x):1≤zai xs:=by
 induction xs with
 | nil=>exact qaj 1
 | cons x xs ih=>exact qbQ (h x qap) (ih fun y hy=>h y (qal _ hy))
theorem zuc{cs:List Nat}(hc:∀ x∈cs,1≤x)(hl:cs.length≤8):∀(n i a:Nat),i≤cs.length→a * zai (cs.drop i)≤65536→cs.length - i<n →
  zcm (iL cs) n (a:Int) (i:Int)=some ((a * zai (cs.drop i):Nat):Int)
 | 0,_,_,_,_,h=>absurd h (qam _)
 | n+1,i,a,h1,h2,h3=>by
  unfold zcm;rw[zaq];by_cases hi:i<cs.length
  ·have e:cs.drop i=cs[i]:: cs.drop (i+1):=qao hi;have e2:a * zai (cs.drop i)=a * cs[i] * zai (cs.drop (i+1)):=by rw[e]; exact(qbw _ _ _).symm
   rw[e2]at h2;have hq:1≤zai (cs.drop (i+1)):=zfd fun x hx=>hc x (qch hx)
   have hle:a * cs[i]≤65536:=qas (qa8 _ hq) h2
   rw[zar,decide_eq_true hi,cond_true,za2 hi,qaa,zao (by omega),show((a:Int)* ((cs[i]:Nat):Int))=((a * cs[i]:Nat):Int) by simp,
    zaA (by omega),zuc hc hl n (i+1) _ hi h2 (by omega),e2]
  rw[zar,decide_eq_false hi,cond_false,qaM (by omega)];simp[zai]
theorem zrO{cs:List Nat}(hc:∀ x∈cs,1≤x)(hl:cs.length≤8)(hp:zai cs≤65536):zcq (iL cs)=some ((zai cs:Nat):Int):=by
 unfold zcq;rw[zaq,zax];have h:=zuc hc hl (cs.length+2) 0 1 (qay _) (by simpa using hp) (by omega);rw[show((0:Nat):Int)=0 from rfl,show((1:Nat):Int)=1 from rfl]at h;rw[h];simp
theorem zzE{i n:Nat}(h:i<n):decide ((i:Int)<(n:Int))=true:=decide_eq_true (by omega)
theorem zzU(n:Nat):decide ((n:Int)<(n:Int))=false:=decide_eq_false (by omega)
abbrev zzO:Nat:=4611686018427387903
def zon:Nat→List Int→Bool
 | _,[]=>true
 | a,c :: cs=>decide (1≤c) && decide (c≤8) && decide (a * c.toNat≤4096) && zon (a * c.toNat) cs
def zna:List Int→Nat
 | []=>1
 | c :: cs=>c.toNat * zna cs
theorem zkV(ns:List Nat):zna (iL ns)=zai ns:=by
 induction ns with
 | nil=>rfl
 | cons n ns ih=>show(n:Int).toNat * zna (iL ns)=n * zai ns; rw[ih,qaF]
def zji(cs:List Int):Bool:=decide (cs.length≤12) && zon 1 cs
theorem znB(cs:List Int)(hl:cs.length≤12):∀(n i:Nat) (a:Nat),a≤4096→zon a (cs.drop i)=true→i≤cs.length→cs.length - i<n→zcm cs n ((a:Nat):Int) (i:Int)=some (((a * zna (cs.drop i):Nat):Int))
 | 0,_,_,_,_,_,h=>absurd h (qam _)
 | n+1,i,a,ha,hc,hi,hn=>by
  unfold zcm;rcases qbf i cs.length with h3 | h3
  ·rw[qao h3]at hc ⊢;rw[zzE h3,cond_true,zaJ h3,qaa];simp only[zon,zna,qah,decide_eq_true_eq]at hc ⊢;obtain⟨⟨⟨h1,h2⟩,h4⟩,h5⟩:=hc;obtain⟨m,hm⟩:∃ m:Nat,cs[i]=(m:Int):=⟨cs[i].toNat,by omega⟩;rw[hm,qaF]at h4 h5 ⊢;rw[← qa4,zaA (by omega),zao (by omega),znB cs hl n (i+1) (a * m) h4 h5 h3 (by omega),qbw]
  obtain rfl:i=cs.length:=by omega
  rw[zzU,cond_false,qcL];simp[zna]
theorem zn9{cs:List Int}(h:zji cs=true):zcq cs=some ((zna cs:Nat):Int):=by
 unfold zji at h;simp only[qah,decide_eq_true_eq]at h;unfold zcq;rw[zax];have:=znB cs h.1 (cs.length+2) 0 1 (by omega) (by rw[qaS]; exact h.2) (qay _) (by omega);rw[show((1:Nat):Int)=1 from rfl,show((0:Nat):Int)=0 from rfl,qaS,qbq]at this;rw[this];rfl
def zd9:List Nat→List Nat
 | []=>[]
 | _ :: cs=>zai cs :: zd9 cs
theorem zgp{ns:List Nat}(h:∀ c∈ns,1≤c):∀ k,zai (ns.drop k)≤zai ns:=by
 induction ns with
 | nil=>intro k; simp
 | cons n ns ih=>
  intro k;cases k with
  | zero=>exact qaj _
  | succ k=>
   have h1:=ih (fun c hc=>h c (qal _ hc)) k;have h2:=h n qap;show zai (ns.drop k)≤n * zai ns;exact qas h1 (qcS _ h2)
theorem zvA(a b:List Nat):iL (a ++ b)=iL a ++ iL b:=by simp[iL]
theorem zun(k:Nat):iL (List.replicate k 0)=List.replicate k 0:=by simp[iL]
structure Fc where
 vs:List Nat
 cs:List Nat
 ws:List Nat
def Fc.D(f:Fc):S_api_Factor:=⟨iL f.vs,iL f.cs,iL f.ws⟩
structure FcOk (f:Fc):Prop where
 len:f.vs.length=f.cs.length
 le:f.cs.length≤12
 card:∀ c∈f.cs,1≤c∧c≤8
 prod:zai f.cs≤4096
 size:f.ws.length=zai f.cs
 inc:f.vs.Pairwise (· < ·)
 var:∀ v∈f.vs,v<64
 num:∀ w∈f.ws,w≤zzO
def Fc.T(f:Fc):S_factor_table:=⟨f.D,iL (zd9 f.cs)⟩
theorem zj8{xs:List Nat}{i:Nat}(h:i<xs.length):zaP (iL xs) (i:Int)=some ((xs.getD i 0:Nat):Int):=by
 rw[za2 h]; simp[List.getD,h]
theorem zm4(a b:Nat):((a:Int)==(b:Int))=(a == b):=by
 rw[Bool.eq_iff_iff,beq_iff_eq,beq_iff_eq];exact Int.ofNat_inj
def dig:List Nat→Nat→List Nat
 | [],_=>[]
 | _ :: cs,i=>i / zai cs :: dig cs (i % zai cs)
theorem zii:∀(cs:List Nat) (i:Nat),(dig cs i).length=cs.length
 | [],_=>rfl
 | _ :: cs,i=>by simp[dig,zii cs]
def dot:List Nat→List Nat→Nat
 | x :: xs,s :: ss=>x * s+dot xs ss
 | _,_=>0
def zcP:List Nat→List Nat→Prop
 | [],[]=>True
 | c :: cs,x :: xs=>x<c∧c≤8∧zcP cs xs
 | _,_=>False
theorem zcP.len:∀ {cs xs:List Nat},zcP cs xs→xs.length=cs.length
 | [],[],_=>rfl
 | c :: cs,x :: xs,h=>by simp[h.2.2.len]
theorem zcP.snoc:∀ {cs xs:List Nat} {c x:Nat},zcP (cs ++ [c]) (xs ++ [x])→xs.length=cs.length→zcP cs xs∧x<c∧c≤8
 | [],[],c,x,h,_=>⟨qdc,h.1,h.2.1⟩
 | c :: cs,x :: xs,_,_,h,hl=>by
  obtain⟨h1,h2,h3⟩:=h;obtain⟨g1,g2⟩:=h3.snoc (by simpa using hl);exact⟨⟨h1,h2,g1⟩,g2⟩
theorem zfq{cs:List Nat}(h:∀ c∈cs,1≤c∧c≤8):0<zai cs:=zfd fun c hc=>(h c hc).1
theorem zht:∀ {cs:List Nat} {i:Nat},(∀ c∈cs,1≤c∧c≤8)→i<zai cs→zcP cs (dig cs i)
 | [],_,_,_=>trivial
 | c :: cs,i,h,hi=>by
  have hc:=h c qap;have hp:=zfq fun d hd=>h d (qal c hd)
  refine⟨?_,hc.2,zht (fun d hd=>h d (qal c hd)) (qbm _ hp)⟩;have h1:i<c * zai cs:=hi;exact qbY (by rw[qa2]; exact h1)
theorem zt0:∀ {cs xs ss:List Nat},zcP cs xs→(∀ s∈ss,s≤4096)→dot xs ss≤cs.length * 32768
 | [],[],_,_,_=>by simp[dot]
 | c :: cs,x :: xs,[],_,_=>by simp[dot]
 | c :: cs,x :: xs,s :: ss,h,hs=>by
  have h1:=zt0 h.2.2 fun t ht=>hs t (qal _ ht)
  have h2:=hs s qap;have h3:x * s≤8 * 4096:=qbQ (by have:=h.1; have:=h.2.1; omega) h2;simp only[dot,qaD];omega
def nxt:List Nat→List Nat→Option (List Nat)
 | c :: cs,v :: vs=>match nxt cs vs with
  | some vs'=>some (v :: vs')
  | none=>if v+1<c then some ((v+1):: List.replicate vs.length 0)else none
 | _,_=>none
theorem zhG:∀ {cs vs:List Nat} {c v:Nat},vs.length=cs.length→v+1<c→nxt (cs ++ [c]) (vs ++ [v])=some (vs ++ [v+1])
 | [],[],c,v,_,h=>by simp[nxt,h]
 | d :: cs,u :: vs,c,v,hl,h=>by
  simp only[qbe,nxt,zhG (show vs.length=cs.length by simpa using hl) h]
theorem zgZ:∀ {cs vs:List Nat} {c v:Nat},vs.length=cs.length→¬ v+1<c→nxt (cs ++ [c]) (vs ++ [v])=(nxt cs vs).map (· ++ [0])
 | [],[],c,v,_,h=>by simp[nxt,h]
 | d :: cs,u :: vs,c,v,hl,h=>by
  simp only[qbe,nxt,zgZ (show vs.length=cs.length by simpa using hl) h];cases hn:nxt cs vs with
  | some vs'=>rfl
  | none=>
   simp only[qc5];by_cases hu:u+1<d
   ·rw[if_pos hu,if_pos hu];simp[List.replicate_succ']
   rw[if_neg hu,if_neg hu]; rfl
theorem zj0:∀(cs:List Nat),dig cs 0=List.replicate cs.length 0
 | []=>rfl
 | c :: cs=>by simp[dig,zj0 cs,qa6]
theorem zqc:∀ {cs:List Nat} {i:Nat},(∀ c∈cs,1≤c∧c≤8)→i<zai cs→nxt cs (dig cs i)=if i+1<zai cs then some (dig cs (i+1))else none
 | [],i,_,hi=>by
  have:i=0:=by simpa [zai]using hi
  subst this;simp[nxt,zai]
 | c :: cs,i,h,hi=>by
  have hp:=zfq fun d hd=>h d (qal c hd)
  have hm:=qbm i hp;have ih:=zqc (fun d hd=>h d (qal c hd)) hm;have hi':i<c * zai cs:=hi;simp only[dig,nxt,ih];have hdm:=qcl i (zai cs);generalize hq:i / zai cs=q at *;generalize hr:i % zai cs=r at *;have hprod:zai (c :: cs)=c * zai cs:=rfl;by_cases h1:r+1<zai cs
  ·rw[if_pos h1];have e1:(i+1) / zai cs=q:=by
    rw[← hdm,qbj,Nat.mul_add_div hp,qb8 h1,qbH]
   have e2:(i+1) % zai cs=r+1:=by
    rw[← hdm,qbj,Nat.mul_add_mod,qa7 h1]
   have hqc:q<c:=by rw[← hq]; exact qbY (by rw[qa2]; exact hi')
   have h2:i+1<zai (c :: cs):=by
    rw[hprod];have:(q+1)* zai cs≤c * zai cs:=qax _ hqc;rw[qaP,qbq,qa2 q]at this;omega
   rw[if_pos h2,e1,e2]
  rw[if_neg h1];have hr1:r+1=zai cs:=by omega
  have hi1:i+1=zai cs * (q+1):=by rw[Nat.mul_add,qc7]; omega
  simp only;have h4:(q+1<c)↔(i+1<zai (c :: cs)):=by
   rw[hprod,hi1,qa2 c];exact(Nat.mul_lt_mul_left hp).symm
  by_cases h5:q+1<c
  ·rw[if_pos h5,if_pos (h4.1 h5),hi1,Nat.mul_div_cancel_left _ hp,Nat.mul_mod_right,zj0,zii]
  rw[if_neg h5,if_neg (fun h=>h5 (h4.2 h))]
theorem zkb{xs ys:List Nat}{x:Nat}{k:Nat}(h:xs.length=k):zaP (iL (xs ++ x :: ys)) (k:Int)=some (x:Int):=by
 subst h;rw[za2 (by simp)];simp
theorem znu{xs ys:List Nat}{x y:Nat}{k:Nat}(h:xs.length=k):zfP (iL (xs ++ x :: ys)) (k:Int) (y:Int)=some (iL (xs ++ y :: ys)):=by
 subst h;rw[zeF (by rw[zaq]; simp)];simp[iL]
theorem zqZ{xs:List Nat}{k:Nat}(h:xs.length=k+1):∃ ys y,xs=ys ++ [y]∧ys.length=k:=by
 have hne:xs≠[]:=by rintro rfl; simp at h
 exact⟨xs.dropLast,xs.getLast hne,(List.dropLast_concat_getLast hne).symm,by simp[h]⟩
theorem zzI(k:Nat):decide ((0:Int)≤(k:Int))=true:=decide_eq_true (qbs k)
theorem pred_succ(k:Nat):((k+1:Nat):Int) - 1=(k:Int):=by omega
theorem zub:∀(k n:Nat) (xs cx cy zs:List Nat),xs.length=k→cx.length=k→zcP cx xs→k<n→k≤12 →
  zdg (iL (cx ++ cy)) n ((k:Int) - 1) (iL (xs ++ zs))=some (match nxt cx xs with | some xs'=>.ret (iL (xs' ++ zs),true)| none=>.go (iL (List.replicate k 0 ++ zs)))
 | k,0,_,_,_,_,_,_,_,h,_=>absurd h (qam _)
 | 0,n+1,xs,cx,cy,zs,hx,hc,_,_,_=>by
  obtain rfl:xs=[]:=qbk.1 hx;obtain rfl:cx=[]:=qbk.1 hc;rfl
 | k+1,n+1,xs,cx,cy,zs,hx,hc,hb,hn,hk=>by
  obtain⟨xs,x,rfl,lx⟩:=zqZ hx;obtain⟨cx,c,rfl,lc⟩:=zqZ hc;obtain⟨hb1,hb2,hb3⟩:=hb.snoc (lx.trans lc.symm);simp only[qaW,qcb];unfold zdg;rw[pred_succ,zzI,cond_true,zkb lx,qaa,zao (by omega),znu lx,qaa,zkb lc,qaa,zar];by_cases h1:x+1<c
  ·rw[decide_eq_true h1,cond_true,zhG (lx.trans lc.symm) h1];simp
  rw[decide_eq_false h1,cond_false,show(0:Int)=((0:Nat):Int)from rfl,znu lx,qaa,zgT (by omega) (by omega),zub k n xs cx (c :: cy) (0 :: zs) lx lc hb1 (by omega) (by omega),zgZ (lx.trans lc.symm) h1];cases nxt cx xs with
  | none=>simp[List.replicate_succ']
  | some xs'=>simp
theorem zw8{cs xs:List Nat}(hb:zcP cs xs)(hl:cs.length≤12):zet (iL cs) (iL xs)=some (match nxt cs xs with | some xs'=>(iL xs',true)| none=>(iL (List.replicate cs.length 0),false)):=by
 have hlen:=hb.len;unfold zet;rw[zjt (by rw[zaq]; omega),qaa,zaq,zgT (by omega) (by omega)];have h:=zub cs.length (cs.length+1) xs cs [] [] hlen rfl hb (by omega) hl;simp only[qaN]at h;rw[hlen,show((cs.length:Int) - 1 - 0+2).toNat=cs.length+1 by omega,h,qaa];cases nxt cs xs<;>rfl
theorem zxe{cs:List Nat}(hc:∀ c∈cs,1≤c∧c≤8)(hl:cs.length≤12)(hp:zai cs≤4096):∀(m i n:Nat) (acc:List (List Int)),i+(m+1)=zai cs→acc.length≤i→m+1<n →
  zdk (iL cs) n (iL (dig cs i)) true acc=some (acc ++ (List.range' i (m+1)).map fun j:Nat=>iL (dig cs j))
 | m,i,0,_,_,_,h=>absurd h (qam _)
 | m,i,n+1,acc,hi,ha,hn=>by
  have hb:=zht hc (show i<zai cs by omega);unfold zdk;rw[cond_true,zck (by simp; omega),qaa,zw8 hb hl,qaa,zqc hc (show i<zai cs by omega)];cases m with
  | zero=>
   rw[if_neg (by omega)];obtain⟨n,rfl⟩:∃ k,n=k+1:=⟨n - 1,by omega⟩;simp only;unfold zdk;rw[cond_false];rfl
  | succ m=>
   rw[if_pos (by omega)];simp only;rw[zxe hc hl hp m (i+1) n _ (by omega) (by simp; omega) (by omega),qaW];rfl
def zul(cs:List Nat):List (List Int):=(List.range' 0 (zai cs)).map fun j:Nat=>iL (dig cs j)
theorem zol(cs:List Nat):(zul cs).length=zai cs:=by simp[zul]
theorem ztF{cs:List Nat}{i:Nat}(h:i<zai cs):zaP (zul cs) (i:Int)=some (iL (dig cs i)):=by
 rw[zj7,zul,qaU,List.getElem?_range' h];simp
theorem zzf{cs:List Nat}(hc:∀ c∈cs,1≤c∧c≤8)(hl:cs.length≤12)(hp:zai cs≤4096):ze9 5000 (iL cs)=some (zul cs):=by
 have hpos:=zfq hc;obtain⟨m,hm⟩:∃ m,zai cs=m+1:=⟨zai cs - 1,by omega⟩;unfold ze9 zul;have e:=zxe hc hl hp m 0 5000 [] (by omega) (qaj _) (by omega);rw[zj0,zun]at e;rw[zaq,zey (by omega),qaa,e,qaa,hm];rfl
theorem zsv{cs:List Nat}(hc:∀ c∈cs,1≤c)(hp:zai cs≤4096):∀ s∈zd9 cs,s≤4096:=by
 induction cs with
 | nil=>intro s hs; cases hs
 | cons c cs ih=>
  have h1:=hc c qap;have h2:zai cs≤4096:=qas (qcS (zai cs) h1) hp;intro s hs;rcases qaL.1 hs with rfl | hs
  ·exact h2
  exact ih (fun d hd=>hc d (qal _ hd)) h2 s hs
theorem zcP.drop:∀ {cs xs:List Nat} (k:Nat),zcP cs xs→zcP (cs.drop k) (xs.drop k)
 | cs,xs,0,h=>h
 | [],[],k+1,_=>trivial
 | c :: cs,x :: xs,k+1,h=>h.2.2.drop k
theorem znN{cs ds:List Nat}(hb:zcP cs ds)(hc:∀ c∈cs,1≤c)(hp:zai cs≤4096)(hl:cs.length≤12):∀(k n:Nat),k≤cs.length→k<n →
  zci (iL ds) (iL cs) n ((dot (ds.drop k) (zd9 (cs.drop k)):Nat):Int) ((zai (cs.drop k):Nat):Int) ((k:Int) - 1)=some ((dot ds (zd9 cs):Nat):Int)
 | k,0,_,h=>absurd h (qam _)
 | 0,n+1,_,_=>by
  unfold zci;rw[show decide ((0:Int)≤((0:Nat):Int) - 1)=false from rfl,cond_false];rfl
 | k+1,n+1,hk,hn=>by
  have hlen:=hb.len;have hk1:k<cs.length:=hk;have hk2:k<ds.length:=by omega
  have e1:ds.drop k=ds[k]:: ds.drop (k+1):=qao hk2;have e2:cs.drop k=cs[k]:: cs.drop (k+1):=qao hk1;have h1:=zgp hc k;have h2:=zgp hc (k+1);have h3:=zt0 (hb.drop k) (zsv (cs:=cs.drop k) (fun c h=>hc c (qch h)) (by omega));have h4:(cs.drop k).length * 32768≤12 * 32768:=qax _ (by simp; omega);have h5:dot (ds.drop k) (zd9 (cs.drop k))=ds[k] * zai (cs.drop (k+1))+dot (ds.drop (k+1)) (zd9 (cs.drop (k+1))):=by rw[e1,e2]; rfl
  have h6:zai (cs.drop k)=cs[k] * zai (cs.drop (k+1)):=by rw[e2]; rfl
  unfold zci
  rw[pred_succ,zzI,cond_true,za2 hk2,qaa,za2 hk1,qaa,← qa4,zaA (by omega),← qcm,zaA (by omega),← qa4,zaA (by rw[qa2]; omega),zgT (by omega) (by omega),
   show dot (ds.drop (k+1)) (zd9 (cs.drop (k+1)))+ds[k] * zai (cs.drop (k+1))=dot (ds.drop k) (zd9 (cs.drop k)) by omega,show zai (cs.drop (k+1))* cs[k]=zai (cs.drop k) by rw[h6,qa2]]
  exact znN hb hc hp hl k n (by omega) (by omega)
theorem zve{cs ds:List Nat}(hb:zcP cs ds)(hc:∀ c∈cs,1≤c)(hp:zai cs≤4096)(hl:cs.length≤12):zd0 (iL cs) (iL ds)=some ((dot ds (zd9 cs):Nat):Int):=by
 have hlen:=hb.len;unfold zd0;have h:=znN hb hc hp hl cs.length (cs.length+1) (qaj _) (by omega);rw[qcL,qb5 (by omega)]at h;rw[show((zai []:Nat):Int)=1 from rfl,show((dot [] (zd9 []):Nat):Int)=0 from rfl]at h;rw[zaq,zgT (by omega) (by omega),show((cs.length:Int) - 1 - 0+2).toNat=cs.length+1 by omega,h];rfl
theorem zrp:∀ {cs:List Nat} {i:Nat},(∀ c∈cs,1≤c∧c≤8)→i<zai cs→dot (dig cs i) (zd9 cs)=i
 | [],i,_,h=>by
  have:i=0:=by simpa [zai]using h
  subst this; rfl
 | c :: cs,i,hc,h=>by
  have hp:=zfq fun d hd=>hc d (qal c hd)
  show i / zai cs * zai cs+dot (dig cs (i % zai cs)) (zd9 cs)=i;rw[zrp (fun d hd=>hc d (qal c hd)) (qbm _ hp),qa2];exact qcl i (zai cs)
def at_:List Nat→List Nat→Nat→Nat
 | v :: vs,d :: ds,u=>bif v == u then d else at_ vs ds u
 | _,_,_=>0
theorem zlX{vs:List Nat}(h:vs.Pairwise (· < ·)):vs.Nodup:=h.imp fun h=>Nat.ne_of_lt h
def zyq(vs ws:List Nat):List Nat→List Nat→Prop
 | [],[]=>True
 | u :: us,c :: cs=>(u∈vs∧at_ vs ws u=c)∧zyq vs ws us cs
 | _,_=>False
theorem znq:∀ {vs ws ds:List Nat} {u:Nat},vs.length=ws.length→zcP ws ds→u∈vs→at_ vs ds u<at_ vs ws u∧at_ vs ws u≤8
 | v :: vs,w :: ws,d :: ds,u,hl,hb,hm=>by
  unfold at_;by_cases h:v=u
  ·subst h;rw[beq_self_eq_true,cond_true,cond_true];exact⟨hb.1,hb.2.1⟩
  ·rw[show(v == u)=false from beq_false_of_ne h,cond_false,cond_false];rcases qaL.1 hm with e | hm
   ·exact absurd e.symm h
   ·exact znq (by simpa using hl) hb.2.2 hm
 | [],_,_,_,_,_,hm=>by cases hm
 | v :: vs,[],_,_,hl,_,_=>by simp at hl
 | v :: vs,w :: ws,[],_,_,hb,_=>hb.elim
theorem zyq.below{vs ws ds:List Nat}(hl:vs.length=ws.length)(hb:zcP ws ds):∀ {us cs:List Nat},zyq vs ws us cs→zcP cs (us.map (at_ vs ds))
 | [],[],_=>trivial
 | u :: us,c :: cs,⟨⟨h1,h2⟩,h3⟩=>by
  have:=znq hl hb h1;rw[h2]at this;exact⟨this.1,this.2,zyq.below hl hb h3⟩
 | [],_ :: _,h=>h.elim
 | _ :: _,[],h=>h.elim
def Fc.at(f:Fc)(vs ds:List Nat):Nat:=f.ws.getD (dot (f.vs.map (at_ vs ds)) (zd9 f.cs)) 0
theorem zia(u d:Nat)(us ds:List Nat)(v:Nat):at_ (u :: us) (d :: ds) v=bif u == v then d else at_ us ds v:=rfl
theorem zvC{xs:List Nat}{v:Nat}(h:xs.length≤100000):zcW 8 (iL xs) [(v:Int)]=some (iL (xs ++ [v])):=by
 rw[zck (by rw[zaq]; simp; omega),zvA]; rfl
theorem zjU:∀ {a b:List Nat},a.Pairwise (· < ·)→b.Pairwise (· < ·)→(∀ x,x∈a↔x∈b)→a=b
 | [],[],_,_,_=>rfl
 | [],b :: bs,_,_,h=>by have:=(h b).2 qap; simp at this
 | a :: xs,[],_,_,h=>by have:=(h a).1 qap; simp at this
 | a :: xs,b :: bs,ha,hb,h=>by
  obtain⟨ha1,ha2⟩:=qbL.1 ha;obtain⟨hb1,hb2⟩:=qbL.1 hb;have e:a=b:=by
   rcases qaL.1 ((h a).1 qap)with h1 | h1
   ·exact h1
   rcases qaL.1 ((h b).2 qap)with h2 | h2
   ·exact h2.symm
   have:=hb1 a h1; have:=ha1 b h2; omega
  subst e;refine congrArg (a :: ·) (zjU ha2 hb2 fun x=>⟨fun hx=>?_,fun hx=>?_⟩)
  ·rcases qaL.1 ((h x).1 (qal _ hx))with rfl | h1
   ·have:=ha1 x hx; omega
   exact h1
  rcases qaL.1 ((h x).2 (qal _ hx))with rfl | h1
  ·have:=hb1 x hx; omega
  exact h1
section
variable {s:List Int}
end
theorem zt5:∀ {vs ds:List Nat} {i:Nat} (hn:vs.Nodup) (h:i<vs.length),at_ vs ds vs[i]=ds.getD i 0
 | v :: vs,[],i,_,_=>by simp[at_]
 | v :: vs,d :: ds,0,_,_=>by rw[zia]; simp
 | v :: vs,d :: ds,i+1,hn,h=>by
  obtain⟨h1,h2⟩:=qbT.1 hn;have hi:i<vs.length:=by simpa using h
  rw[zia,show(v :: vs)[i+1]=vs[i]from rfl,show(v == vs[i])=false from beq_false_of_ne (fun e=>h1 (e ▸ qaq hi)),cond_false,zt5 h2 hi];rfl
theorem zxs{vs ds:List Nat}(hn:vs.Nodup)(hl:vs.length=ds.length):vs.map (at_ vs ds)=ds:=by
 refine qcr (by simpa using hl) fun i h1 h2=>?_
 rw[qcs,zt5 hn (by simpa using h1),qav,qad h2];rfl
end Go.Dc
