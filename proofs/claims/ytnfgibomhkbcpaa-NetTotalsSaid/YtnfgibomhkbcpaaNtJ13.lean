/-
 Plain laws: numbers and sets of bits. Conditions: none.
-/
import Derived.Test.YtnfgibomhkbcpaaNtJ6
import Derived.Test.YtnfgibomhkbcpaaNtJ8
set_option linter.unusedSimpArgs false
set_option linter.unusedVariables false
namespace Go.Dc
open Go Go.Mx Go.Lx
theorem zaq{n:Nat}(h:n<9223372036854775808):w64 (n:Int)=(n:Int):=wrap64 (by omega) (by omega)
theorem zhr{n:Int}(h1:-9223372036854775808≤n)(h2:n<9223372036854775808):w64 n=n:=wrap64 h1 h2
theorem zam{n:Nat}(h:n+1<9223372036854775808):w64 ((n:Int)+1)=((n+1:Nat):Int):=by
 rw[zhr (by omega) (by omega)]; omega
theorem ztR(n:Nat):IntKind.u64.wrap (n:Int)=((n % 18446744073709551616:Nat):Int):=by
 simp only[IntKind.wrap,IntKind.bits,IntKind.signed]; simp
theorem zb1{n:Nat}(h:n<18446744073709551616):IntKind.u64.wrap (n:Int)=(n:Int):=by
 rw[ztR,qa0 h]
theorem zAF{a b:Nat}(ha:a<18446744073709551616)(hb:b<18446744073709551616):zkO .u64 (a:Int) (b:Int)=((a &&& b:Nat):Int):=by
 have h:(BitVec.ofInt 64 (a:Int) &&& BitVec.ofInt 64 (b:Int)).toNat=a &&& b:=by
  simp only[qcf,BitVec.toNat_and,BitVec.toNat_ofNat];rw[qa0 ha,qa0 hb]
 show IntKind.u64.wrap ((BitVec.ofInt 64 (a:Int) &&& BitVec.ofInt 64 (b:Int)).toNat:Int)=_;rw[h];exact zb1 (qca Nat.and_le_left ha)
theorem orU{a b:Nat}(ha:a<18446744073709551616)(hb:b<18446744073709551616):orI .u64 (a:Int) (b:Int)=((a ||| b:Nat):Int):=by
 have h:(BitVec.ofInt 64 (a:Int)||| BitVec.ofInt 64 (b:Int)).toNat=a ||| b:=by
  simp only[qcf,BitVec.toNat_or,BitVec.toNat_ofNat];rw[qa0 ha,qa0 hb]
 show IntKind.u64.wrap ((BitVec.ofInt 64 (a:Int)||| BitVec.ofInt 64 (b:Int)).toNat:Int)=_;rw[h];exact zb1 (Nat.or_lt_two_pow (n:=64) ha hb)
def diff(a b:Nat):Nat:=(BitVec.ofNat 64 a &&& ~~~ BitVec.ofNat 64 b).toNat
theorem zwh(a b:Nat):diff a b<18446744073709551616:=(BitVec.ofNat 64 a &&& ~~~ BitVec.ofNat 64 b).isLt
theorem zBV(a b:Nat):zzL .u64 (a:Int) (b:Int)=((diff a b:Nat):Int):=by
 show IntKind.u64.wrap ((BitVec.ofInt 64 (a:Int) &&& ~~~ BitVec.ofInt 64 (b:Int)).toNat:Int)=_;rw[qcf,qcf];exact zb1 (zwh a b)
theorem zpl{a b i:Nat}(ha:a<18446744073709551616)(hb:b<18446744073709551616):(diff a b).testBit i=(a.testBit i && !b.testBit i):=by
 unfold diff;rw[BitVec.testBit_toNat,BitVec.getLsbD_and,BitVec.getLsbD_not,BitVec.getLsbD_ofNat,BitVec.getLsbD_ofNat];by_cases hi:i<64
 ·simp[hi]
 have:a.testBit i=false:=Nat.testBit_lt_two_pow (qbr ha (qbI (n:=2) (by decide) (show 64≤i by omega)));simp[hi,this]
theorem zAN{v:Nat}(hv:v<64):ztN .u64 1 (v:Int)=some ((2 ^ v:Nat):Int):=by
 unfold ztN;rw[if_pos (by omega)];congr 1
 have h1:min (v:Int).toNat IntKind.u64.bits=v:=by
  rw[show IntKind.u64.bits=64 from rfl,qaH]; exact qbN (by omega)
 rw[h1,Int.one_mul];have h2:((2:Int) ^ v)=((2 ^ v:Nat):Int):=by simp
 rw[h2];exact zb1 (qcE (by decide) hv)
theorem zAn{a v:Nat}(hv:v<64):ziT .u64 (a:Int) (v:Int)=some ((a >>> v:Nat):Int):=by
 unfold ziT;rw[if_pos (by omega)];congr 1
 have h1:min (v:Int).toNat IntKind.u64.bits=v:=by
  rw[show IntKind.u64.bits=64 from rfl,qaH]; exact qbN (by omega)
 rw[h1,qbx];have h2:((2:Int) ^ v)=((2 ^ v:Nat):Int):=by simp
 rw[h2,qcC _ (qby _)];rfl
theorem zAK(a v:Nat):((a >>> v) &&& 1)=(a.testBit v).toNat:=by
 rw[Nat.and_one_is_mod,Nat.testBit_eq_decide_div_mod_eq,qbx];have h:=Nat.mod_two_eq_zero_or_one (a / 2 ^ v);rcases h with h | h<;>simp[h]
theorem zA1{a v:Nat}(ha:a<18446744073709551616)(hv:v<64):∃ q:Int,ziT .u64 (a:Int) (v:Int)=some q∧zkO .u64 q 1=((a.testBit v).toNat:Int):=by
 refine⟨_,zAn hv,?_⟩;rw[show(1:Int)=((1:Nat):Int)from rfl,zAF (qca (by rw[qbx]; exact qc8 _ _) ha) (by decide),zAK]
variable {α:Type}
theorem zoo{xs:List α}{i:Nat}:zaZ xs (i:Int)=xs[i]?:=by
 unfold zaZ;rw[if_pos (qby i),qaH]
theorem zbn{xs:List α}{i:Nat}(h:i<xs.length):zaZ xs (i:Int)=some (xs[i]'h):=by
 rw[zoo,qad h]
theorem zfD{xs:List α}{i:Nat}{v:α}(h:i<xs.length):zfu xs (i:Int) v=some (xs.set i v):=by
 unfold zfu;rw[if_pos (by omega),qaH]
theorem zed{b:Nat}{xs ys:List α}(h:(xs.length+ys.length)* b≤70368744177664):zdY b xs ys=some (xs ++ ys):=by
 unfold zdY;rw[if_pos (by simp only[zai]; omega)]
theorem zdB{b n:Nat}{z:α}(h:n * b≤70368744177664):zet b (n:Int) z=some (List.replicate n z):=by
 have h2:(n:Int)* (b:Int)≤zai:=by
  rw[← qaG]; simp only[zai]; omega
 unfold zet;rw[if_pos ⟨qby n,h2⟩,qaH]
theorem zj3{b:Nat}{xs:List α}(h:xs.length * b≤70368744177664):zeP b xs=some xs:=by
 unfold zeP;rw[if_pos (by simp only[zai]; omega)]
theorem zaA{i n:Nat}:decide ((i:Int)<(n:Int))=decide (i<n):=by simp
theorem zaL(n:Nat):((n:Int) - 0+2).toNat=n+2:=by omega
theorem zsS{p0:S_api_Net}(hl:p0.nodes.length≤8):∀(n i:Nat) (acc:List Int),i≤p0.nodes.length→acc.length≤i→p0.nodes.length - i<n →
  zcO p0 n (i:Int) acc=some (acc ++ (p0.nodes.drop i).map (·.zaE))
 | 0,_,_,_,_,h=>absurd h (qar _)
 | n+1,i,acc,h1,h2,h3=>by
  unfold zcO;by_cases hi:i<p0.nodes.length
  ·rw[zaA,decide_eq_true hi,cond_true,zbn hi,qaa,zed (by simp; omega),qaa,zam (by omega),
    zsS hl n (i+1) _ hi (by simp; omega) (by omega),qat hi]
   rw[qba]; rfl
  rw[zaA,decide_eq_false hi,cond_false,qa6 (by omega)];simp
theorem zt4{p0:S_api_Net}(hl:p0.nodes.length≤8):zdR p0=some (p0.nodes.map (·.zaE)):=by
 unfold zdR;rw[zaL];have h:=zsS hl (p0.nodes.length+2) 0 [] (qaz _) (qal _) (by omega);rw[show((0:Nat):Int)=0 from rfl]at h;rw[h];simp
def Pl(n:Nat)(xs:List Nat):Prop:=∀ x∈xs,x<n
def iL(xs:List Nat):List Int:=xs.map (fun x:Nat=>(x:Int))
theorem zan(xs:List Nat):(iL xs).length=xs.length:=by simp[iL]
theorem zvV{xs:List Nat}{i:Nat}(h:i<xs.length):(iL xs)[i]'(by rw[zan]; exact h)=((xs[i]:Nat):Int):=by simp[iL]
theorem za1{xs:List Nat}{i:Nat}(h:i<xs.length):zaZ (iL xs) (i:Int)=some ((xs[i]:Nat):Int):=by
 rw[zbn (by rw[zan]; exact h),zvV h]
theorem zAJ{cs:List Int}{ps:List Nat}(hp:Pl cs.length ps)(hl:ps.length≤8):∀(n i:Nat) (acc:List Int),i≤ps.length→acc.length≤i→ps.length - i<n →
  zer (iL ps) cs n (i:Int) acc=some (acc ++ (ps.drop i).map fun p=>cs.getD p 0)
 | 0,_,_,_,_,h=>absurd h (qar _)
 | n+1,i,acc,h1,h2,h3=>by
  unfold zer;rw[zan];by_cases hi:i<ps.length
  ·have hb:ps[i]<cs.length:=hp _ (qav hi)
   rw[zaA,decide_eq_true hi,cond_true,za1 hi,qaa,zbn hb,qaa,zed (by simp; omega),qaa,zam (by omega),
    zAJ hp hl n (i+1) _ hi (by simp; omega) (by omega),qat hi]
   rw[qba,qaJ,show cs.getD ps[i] 0=cs[ps[i]] by simp[hb]]; rfl
  rw[zaA,decide_eq_false hi,cond_false,qa6 (by omega)];simp
theorem zwy{cs:List Int}{ps:List Nat}(hp:Pl cs.length ps)(hl:ps.length≤8):zeK cs (iL ps)=some (ps.map fun p=>cs.getD p 0):=by
 unfold zeK;rw[zan,zaL];have h:=zAJ hp hl (ps.length+2) 0 [] (qaz _) (qal _) (by omega);rw[show((0:Nat):Int)=0 from rfl]at h;rw[h];simp
def zac(xs:List Nat):Nat:=xs.foldr (· * ·) 1
theorem zcd{xs:List Nat}(h:∀ x∈xs,1≤x):1≤zac xs:=by
 induction xs with
 | nil=>exact qal 1
 | cons x xs ih=>exact qbc (h x qan) (ih fun y hy=>h y (qaj _ hy))
theorem zvm{cs:List Nat}(hc:∀ x∈cs,1≤x)(hl:cs.length≤8):∀(n i a:Nat),i≤cs.length→a * zac (cs.drop i)≤65536→cs.length - i<n →
  zci (iL cs) n (a:Int) (i:Int)=some ((a * zac (cs.drop i):Nat):Int)
 | 0,_,_,_,_,h=>absurd h (qar _)
 | n+1,i,a,h1,h2,h3=>by
  unfold zci;rw[zan];by_cases hi:i<cs.length
  ·have e:cs.drop i=cs[i]:: cs.drop (i+1):=qat hi;have e2:a * zac (cs.drop i)=a * cs[i] * zac (cs.drop (i+1)):=by rw[e]; exact(qaZ _ _ _).symm
   rw[e2]at h2;have hq:1≤zac (cs.drop (i+1)):=zcd fun x hx=>hc x (qbY hx)
   have hle:a * cs[i]≤65536:=qap (qaS _ hq) h2
   rw[zaA,decide_eq_true hi,cond_true,za1 hi,qaa,zam (by omega),show((a:Int)* ((cs[i]:Nat):Int))=((a * cs[i]:Nat):Int) by simp,
    zaq (by omega),zvm hc hl n (i+1) _ hi h2 (by omega),e2]
  rw[zaA,decide_eq_false hi,cond_false,qa6 (by omega)];simp[zac]
theorem zwX{cs:List Nat}(hc:∀ x∈cs,1≤x)(hl:cs.length≤8)(hp:zac cs≤65536):zcQ (iL cs)=some ((zac cs:Nat):Int):=by
 unfold zcQ;rw[zan,zaL];have h:=zvm hc hl (cs.length+2) 0 1 (qaz _) (by simpa using hp) (by omega);rw[show((0:Nat):Int)=0 from rfl,show((1:Nat):Int)=1 from rfl]at h;rw[h];simp
theorem zup{i n:Nat}(h:i<n):decide ((i:Int)<(n:Int))=true:=decide_eq_true (by omega)
theorem ztP(n:Nat):decide ((n:Int)<(n:Int))=false:=decide_eq_false (by omega)
abbrev zi5:Nat:=4611686018427387903
def zeR:Nat→List Int→Bool
 | _,[]=>true
 | a,c :: cs=>decide (1≤c) && decide (c≤8) && decide (a * c.toNat≤4096) && zeR (a * c.toNat) cs
theorem zjv:∀ {cs:List Int} {a:Nat},zeR a cs=true→∃ ns:List Nat,cs=iL ns∧(∀ c∈ns,1≤c∧c≤8)∧(a≤4096→a * zac ns≤4096)
 | [],a,_=>⟨[],rfl,by simp,fun h=>by simpa [zac]using h⟩
 | c :: cs,a,h=>by
  simp only[zeR,qah,decide_eq_true_eq]at h;obtain⟨⟨⟨h1,h2⟩,h3⟩,h4⟩:=h;obtain⟨ns,e,g1,g2⟩:=zjv h4;refine⟨c.toNat :: ns,?_,?_,fun _=>?_⟩
  ·rw[e]; simp[iL]; omega
  ·intro d hd;rcases qaK.1 hd with rfl | hd
   ·omega
   exact g1 d hd
  have:=g2 h3;show a * (c.toNat * zac ns)≤4096;rw[← qaZ]; exact this
theorem zgy:∀ {ns:List Nat} {a:Nat},(∀ c∈ns,1≤c∧c≤8)→a * zac ns≤4096→zeR a (iL ns)=true
 | [],a,_,_=>rfl
 | n :: ns,a,h,hp=>by
  have h1:=h n qan;have hp':a * n * zac ns≤4096:=by rw[qaZ]; exact hp
  have hpos:1≤zac ns:=zcd fun x hx=>(h x (qaj _ hx)).1
  have hle:a * n≤4096:=qap (qaS _ hpos) hp';show(decide ((1:Int)≤(n:Int)) && decide ((n:Int)≤8) && decide (a * (n:Int).toNat≤4096) && zeR (a * (n:Int).toNat) (iL ns))=true;rw[qaH,zgy (fun c hc=>h c (qaj _ hc)) hp',decide_eq_true (by omega),decide_eq_true (by omega),decide_eq_true hle];rfl
def zfN:List Int→Nat
 | []=>1
 | c :: cs=>c.toNat * zfN cs
theorem zen(ns:List Nat):zfN (iL ns)=zac ns:=by
 induction ns with
 | nil=>rfl
 | cons n ns ih=>show(n:Int).toNat * zfN (iL ns)=n * zac ns; rw[ih,qaH]
theorem zpt(cs:List Int)(hl:cs.length≤12):∀(n i:Nat) (a:Nat),a≤4096→i≤cs.length→cs.length - i<n→zbd cs n ((a:Nat):Int) (i:Int)=some (bif zeR a (cs.drop i)then(((a * zfN (cs.drop i):Nat):Int),true)else(0,false))
 | 0,_,_,_,_,h=>absurd h (qar _)
 | n+1,i,a,ha,hi,hn=>by
  unfold zbd;rcases qa2 i cs.length with h3 | h3
  ·rw[zup h3,cond_true,zbn h3,qaa,qat h3];generalize cs[i]=c;simp only[zeR,zfN];by_cases h1:c<1
   ·rw[decide_eq_true h1,cond_true,qaa,cond_true,decide_eq_false (show ¬ 1≤c by omega)];rfl
   rw[decide_eq_false h1,cond_false,decide_eq_true (show 1≤c by omega)];by_cases h2:8<c
   ·rw[decide_eq_true h2,cond_true,qaa,cond_true,decide_eq_false (show ¬ c≤8 by omega)];rfl
   rw[decide_eq_false h2,cond_false,decide_eq_true (show c≤8 by omega)];obtain⟨m,rfl⟩:∃ m:Nat,c=(m:Int):=⟨c.toNat,by omega⟩;have hb:a * m≤4096 * 8:=qbc ha (by omega);rw[← qaG,zaq (by omega),qaa,qaH];by_cases h4:a * m≤4096
   ·rw[show decide ((4096:Int)<((a * m:Nat):Int))=false from decide_eq_false (by omega),cond_false,zam (by omega),zpt cs hl n (i+1) (a * m) h4 h3 (by omega),decide_eq_true h4,qaZ];rfl
   rw[show decide ((4096:Int)<((a * m:Nat):Int))=true from decide_eq_true (by omega),cond_true,decide_eq_false h4];rfl
  obtain rfl:i=cs.length:=by omega
  rw[ztP,cond_false,qbh];simp[zeR,zfN]
def zbw(cs:List Int):Bool:=decide (cs.length≤12) && zeR 1 cs
theorem zrC(cs:List Int):zbS cs=some (bif zbw cs then(((zfN cs:Nat):Int),0)else(0,20)):=by
 unfold zbS zbY zbw;by_cases hl:cs.length≤12
 ·rw[show decide ((12:Int)<(cs.length:Int))=false from decide_eq_false (by omega),cond_false,zaL];have:=zpt cs hl (cs.length+2) 0 1 (by omega) (qaz _) (by omega);rw[show((1:Nat):Int)=1 from rfl,show((0:Nat):Int)=0 from rfl,qbb,qbf]at this;rw[this,decide_eq_true hl,qbt];cases zeR 1 cs<;>rfl
 rw[show decide ((12:Int)<(cs.length:Int))=true from decide_eq_true (by omega),cond_true,decide_eq_false hl];rfl
theorem zoH(cs:List Int)(hl:cs.length≤12):∀(n i:Nat) (a:Nat),a≤4096→zeR a (cs.drop i)=true→i≤cs.length→cs.length - i<n→zci cs n ((a:Nat):Int) (i:Int)=some (((a * zfN (cs.drop i):Nat):Int))
 | 0,_,_,_,_,_,h=>absurd h (qar _)
 | n+1,i,a,ha,hc,hi,hn=>by
  unfold zci;rcases qa2 i cs.length with h3 | h3
  ·rw[qat h3]at hc ⊢;rw[zup h3,cond_true,zbn h3,qaa];simp only[zeR,zfN,qah,decide_eq_true_eq]at hc ⊢;obtain⟨⟨⟨h1,h2⟩,h4⟩,h5⟩:=hc;obtain⟨m,hm⟩:∃ m:Nat,cs[i]=(m:Int):=⟨cs[i].toNat,by omega⟩;rw[hm,qaH]at h4 h5 ⊢;rw[← qaG,zaq (by omega),zam (by omega),zoH cs hl n (i+1) (a * m) h4 h5 h3 (by omega),qaZ]
  obtain rfl:i=cs.length:=by omega
  rw[ztP,cond_false,qbh];simp[zfN]
theorem zol{cs:List Int}(h:zbw cs=true):zcQ cs=some ((zfN cs:Nat):Int):=by
 unfold zbw at h;simp only[qah,decide_eq_true_eq]at h;unfold zcQ;rw[zaL];have:=zoH cs h.1 (cs.length+2) 0 1 (by omega) (by rw[qbb]; exact h.2) (qaz _) (by omega);rw[show((1:Nat):Int)=1 from rfl,show((0:Nat):Int)=0 from rfl,qbb,qbf]at this;rw[this];rfl
def zwT:Int→List Int→Bool
 | _,[]=>true
 | l,v :: vs=>decide (l<v) && decide (v≤63) && zwT v vs
def zxl:List Int→Bool
 | []=>true
 | w :: ws=>decide (0≤w) && decide (w≤4611686018427387903) && zxl ws
def zzO(x:S_api_Factor):Bool:=zbw x.zad && decide (x.vars.length=x.zad.length) && decide (x.w.length=zfN x.zad) && zwT (-1) x.vars && zxl x.w
def zaS:List Nat→List Nat
 | []=>[]
 | _ :: cs=>zac cs :: zaS cs
theorem zpv(cs:List Nat):(zaS cs).length=cs.length:=by induction cs with | nil=>rfl | cons c cs ih=>simp[zaS,ih]
abbrev noT:S_factor_table×Int:=(⟨⟨[],[],[]⟩,[]⟩,30)
theorem zph(x:S_api_Factor)(hl:x.vars.length≤12):∀(n i:Nat) (l:Int),i≤x.vars.length→x.vars.length - i<n→zb7 x n l (i:Int)=some (bif zwT l (x.vars.drop i)then .go ()else .ret noT)
 | 0,_,_,_,h=>absurd h (qar _)
 | n+1,i,l,hi,hn=>by
  unfold zb7;rcases qa2 i x.vars.length with h3 | h3
  ·rw[zup h3,cond_true,zbn h3,qaa,qat h3];generalize x.vars[i]=v;simp only[zwT];by_cases h1:v≤l
   ·rw[decide_eq_true h1,cond_true,qaa,cond_true,decide_eq_false (show ¬ l<v by omega)];rfl
   rw[decide_eq_false h1,cond_false,qaa,decide_eq_true (show l<v by omega)];by_cases h2:63<v
   ·rw[decide_eq_true h2,cond_true,decide_eq_false (show ¬ v≤63 by omega)];rfl
   rw[decide_eq_false h2,cond_false,decide_eq_true (show v≤63 by omega),zam (by omega),zph x hl n (i+1) v h3 (by omega)];rfl
  obtain rfl:i=x.vars.length:=by omega
  rw[ztP,cond_false,qbh];rfl
theorem zop(x:S_api_Factor)(hl:x.w.length≤4096):∀(n i:Nat),i≤x.w.length→x.w.length - i<n→zb6 x n (i:Int)=some (bif zxl (x.w.drop i)then .go ()else .ret noT)
 | 0,_,_,h=>absurd h (qar _)
 | n+1,i,hi,hn=>by
  unfold zb6;rcases qa2 i x.w.length with h3 | h3
  ·rw[zup h3,cond_true,zbn h3,qaa,qat h3];generalize x.w[i]=v;simp only[zxl];by_cases h1:v<0
   ·rw[decide_eq_true h1,cond_true,qaa,cond_true,decide_eq_false (show ¬ 0≤v by omega)];rfl
   rw[decide_eq_false h1,cond_false,qaa,decide_eq_true (show 0≤v by omega)];by_cases h2:4611686018427387903<v
   ·rw[decide_eq_true h2,cond_true,decide_eq_false (show ¬ v≤4611686018427387903 by omega)];rfl
   rw[decide_eq_false h2,cond_false,decide_eq_true (show v≤4611686018427387903 by omega),zam (by omega),zop x hl n (i+1) h3 (by omega)];rfl
  obtain rfl:i=x.w.length:=by omega
  rw[ztP,cond_false,qbh];rfl
theorem zez{ns:List Nat}(h:∀ c∈ns,1≤c):∀ k,zac (ns.drop k)≤zac ns:=by
 induction ns with
 | nil=>intro k; simp
 | cons n ns ih=>
  intro k;cases k with
  | zero=>exact qal _
  | succ k=>
   have h1:=ih (fun c hc=>h c (qaj _ hc)) k;have h2:=h n qan;show zac (ns.drop k)≤n * zac ns;exact qap h1 (qb6 _ h2)
theorem zkf(a b:List Nat):iL (a ++ b)=iL a ++ iL b:=by simp[iL]
theorem zic(k:Nat):iL (List.replicate k 0)=List.replicate k 0:=by simp[iL]
theorem zkP(x:S_api_Factor){ns:List Nat}(hx:x.zad=iL ns)(hc:∀ c∈ns,1≤c)(hp:zac ns≤4096)(hl:ns.length≤12):∀(k n:Nat),k≤ns.length→k<n →
  zbH x n ((zac (ns.drop k):Nat):Int) ((k:Int) - 1) (iL (List.replicate k 0 ++ zaS (ns.drop k)))=some (iL (zaS ns))
 | k,0,_,h=>absurd h (qar _)
 | 0,n+1,_,_=>by
  unfold zbH;rw[show decide ((0:Int)≤((0:Nat):Int) - 1)=false from rfl,cond_false];rfl
 | k+1,n+1,hk,hn=>by
  have ih:=zkP x hx hc hp hl k n (by omega) (by omega);have hk':k<ns.length:=hk;unfold zbH;have e:(((k+1:Nat):Int) - 1)=(k:Int):=by omega
  have hlen:k<(iL (List.replicate (k+1) 0 ++ zaS (ns.drop (k+1)))).length:=by rw[zan]; simp; omega
  rw[e,show decide ((0:Int)≤(k:Int))=true from decide_eq_true (by omega),cond_true,zbn hlen,qaa,zfD hlen,qaa,hx,za1 hk',qaa];have hd:ns.drop k=ns[k]:: ns.drop (k+1):=qat hk';have h1:(iL (List.replicate (k+1) 0 ++ zaS (ns.drop (k+1)))).set k ((zac (ns.drop (k+1)):Nat):Int)=iL (List.replicate k 0 ++ zaS (ns.drop k)):=by
   rw[hd,zkf,zkf,zic,zic,List.replicate_succ',qba,qcZ _ _ (by simp)];simp[zaS,iL]
  have h2:((zac (ns.drop (k+1)):Nat):Int)* ((ns[k]:Nat):Int)=((zac (ns.drop k):Nat):Int):=by
   rw[hd,← qaG,qaQ]; rfl
  have h3:=zez hc k;rw[h1,h2,zaq (by omega),zhr (by omega) (by omega)];exact ih
def zsV(xs:List Int):List Nat:=xs.map Int.toNat
theorem zg2(ns:List Nat):zsV (iL ns)=ns:=by
 induction ns with
 | nil=>rfl
 | cons n ns ih=>show(n:Int).toNat :: zsV (iL ns)=n :: ns; rw[ih,qaH]
theorem ziE{cs:List Int}(h:zbw cs=true):∃ ns:List Nat,cs=iL ns∧(∀ c∈ns,1≤c∧c≤8)∧zac ns≤4096∧ns.length≤12:=by
 unfold zbw at h;simp only[qah,decide_eq_true_eq]at h;obtain⟨ns,rfl,h1,h2⟩:=zjv h.2;exact⟨ns,rfl,h1,by have:=h2 (by omega); omega,by have:=h.1; rw[zan]at this; exact this⟩
theorem zyF(x:S_api_Factor):zb0 x=some (bif zzO x then(⟨x,iL (zaS (zsV x.zad))⟩,0)else noT):=by
 unfold zb0 zzO;rw[zrC,qaa];cases hc:zbw x.zad with
 | false=>
  rw[cond_false];rfl
 | true=>
  obtain⟨ns,hx,h1,h2,h3⟩:=ziE hc;rw[cond_true,show(((((zfN x.zad:Nat):Int),(0:Int)).2 == 0))=true from rfl,cond_true,qbt];by_cases hv:x.vars.length=x.zad.length
  ·rw[show(((x.vars.length:Nat):Int)==((x.zad.length:Nat):Int))=true by rw[hv]; exact beq_self_eq_true _,cond_true,qaa,decide_eq_true hv,qbt];by_cases hw:x.w.length=zfN x.zad
   ·have hw':x.w.length≤4096:=by rw[hw,hx,zen]; exact h2
    have hl:x.vars.length≤12:=by rw[hv,hx,zan]; exact h3
    rw[show(!(((x.w.length:Nat):Int)==((zfN x.zad:Nat):Int)))=false by rw[hw,beq_self_eq_true]; rfl,cond_false,decide_eq_true hw,qbt,zaL,zaL];have e1:=zph x hl (x.vars.length+2) 0 (-1) (qaz _) (by omega);have e2:=zop x hw' (x.w.length+2) 0 (qaz _) (by omega);rw[show((0:Nat):Int)=0 from rfl,qbb]at e1 e2;rw[e1,qaa];cases zwT (-1) x.vars with
    | false=>rfl
    | true=>
     rw[cond_true,qbt];simp only;rw[e2,qaa];cases zxl x.w with
     | false=>rfl
     | true=>
      rw[cond_true];simp only;have hlen:x.zad.length=ns.length:=by rw[hx,zan]
      have e3:=zkP x hx (fun c hc=>(h1 c hc).1) h2 h3 ns.length (ns.length+1+1) (qal _) (by omega);rw[qbh]at e3;rw[zdB (by omega),qaa,qaH,hlen,zhr (by omega) (by omega),show((ns.length:Int) - 1 - 0+2).toNat=ns.length+1 by omega];have e4:=zkP x hx (fun c hc=>(h1 c hc).1) h2 h3 ns.length (ns.length+1) (qal _) (by omega);rw[qbh]at e4;rw[show iL (List.replicate ns.length 0 ++ zaS [])=List.replicate ns.length 0 by simp[zaS,iL],show((zac []:Nat):Int)=1 from rfl]at e4;rw[e4,qaa,cond_true,hx,zg2]
   rw[show(!(((x.w.length:Nat):Int)==((zfN x.zad:Nat):Int)))=true by rw[qbT]; exact beq_false_of_ne (by omega),cond_true,decide_eq_false hw];rfl
  rw[show(((x.vars.length:Nat):Int)==((x.zad.length:Nat):Int))=false from beq_false_of_ne (by omega),cond_false,qaa,cond_true,decide_eq_false hv];rfl
structure Fc where
 vs:List Nat
 cs:List Nat
 ws:List Nat
def Fc.D(f:Fc):S_api_Factor:=⟨iL f.vs,iL f.cs,iL f.ws⟩
structure FcOk (f:Fc):Prop where
 len:f.vs.length=f.cs.length
 le:f.cs.length≤12
 zaE:∀ c∈f.cs,1≤c∧c≤8
 prod:zac f.cs≤4096
 size:f.ws.length=zac f.cs
 inc:f.vs.Pairwise (· < ·)
 var:∀ v∈f.vs,v<64
 num:∀ w∈f.ws,w≤zi5
theorem zrw:∀ {ns:List Nat} {l:Int},ns.Pairwise (· < ·)→(∀ v∈ns,v<64∧l<(v:Int))→zwT l (iL ns)=true
 | [],_,_,_=>rfl
 | n :: ns,l,h1,h2=>by
  have h3:=h2 n qan;obtain⟨h4,h5⟩:=qbg.1 h1;show(decide (l<(n:Int)) && decide ((n:Int)≤63) && zwT (n:Int) (iL ns))=true;rw[decide_eq_true h3.2,decide_eq_true (by omega),zrw h5 fun v hv=>⟨(h2 v (qaj _ hv)).1,by have:=h4 v hv; omega⟩];rfl
theorem zrL:∀ {ns:List Nat},(∀ w∈ns,w≤zi5)→zxl (iL ns)=true
 | [],_=>rfl
 | n :: ns,h=>by
  have h1:n≤4611686018427387903:=h n qan;show(decide (0≤(n:Int)) && decide ((n:Int)≤4611686018427387903) && zxl (iL ns))=true;rw[decide_eq_true (by omega),decide_eq_true (by omega),zrL fun w hw=>h w (qaj _ hw)];rfl
theorem zwD{f:Fc}(h:FcOk f):zzO f.D=true:=by
 unfold zzO Fc.D zbw;simp only[zan];rw[decide_eq_true h.le,zgy h.zaE (by have:=h.prod; omega),decide_eq_true h.len,decide_eq_true (by rw[zen]; exact h.size),zrw h.inc fun v hv=>⟨h.var v hv,by omega⟩,zrL h.num];rfl
def Fc.T(f:Fc):S_factor_table:=⟨f.D,iL (zaS f.cs)⟩
theorem zoK{f:Fc}(h:FcOk f):zb0 f.D=some (f.T,0):=by
 rw[zyF,zwD h,cond_true,show f.D.zad=iL f.cs from rfl,zg2];rfl
def zm4:List Int→Int→Option Nat
 | [],_=>none
 | x :: xs,v=>bif x == v then some 0 else(zm4 xs v).map (· + 1)
def ixZ:Option Nat→Int
 | none=>-1
 | some k=>(k:Int)
theorem zmv:∀ {xs:List Int} {v:Int} {k:Nat},zm4 xs v=some k→∃ h:k<xs.length,xs[k]=v
 | x :: xs,v,k,h=>by
  unfold zm4 at h;cases hb:(x == v)with
  | true=>
   rw[hb,cond_true]at h;cases h;exact⟨by simp,by simpa using hb⟩
  | false=>
   rw[hb,cond_false]at h;cases hp:zm4 xs v with
   | none=>rw[hp]at h; cases h
   | some j=>
    rw[hp]at h;cases h;obtain⟨g1,g2⟩:=zmv hp;exact⟨by simp; omega,by simpa using g2⟩
theorem zlT:∀ {xs:List Int} {v:Int},zm4 xs v=none→v ∉ xs
 | [],v,_=>by simp
 | x :: xs,v,h=>by
  unfold zm4 at h;cases hb:(x == v)with
  | true=>rw[hb,cond_true]at h; cases h
  | false=>
   rw[hb,cond_false]at h;have h1:zm4 xs v=none:=by
    cases hp:zm4 xs v with
    | none=>rfl
    | some j=>rw[hp]at h; cases h
   have h2:x≠v:=by simpa using hb
   intro hm;rcases qaK.1 hm with rfl | hm
   ·exact h2 rfl
   exact zlT h1 hm
theorem zo1(xs:List Int)(v:Int)(hl:xs.length<4611686018427387904):∀(n i:Nat),i≤xs.length→xs.length - i<n→zaQ xs v n (i:Int)=some (match zm4 (xs.drop i) v with | none=>.go ()| some k=>.ret ((i+k:Nat):Int))
 | 0,_,_,h=>absurd h (qar _)
 | n+1,i,hi,hn=>by
  unfold zaQ;rcases qa2 i xs.length with h3 | h3
  ·rw[zup h3,cond_true,zbn h3,qaa,qat h3];generalize xs[i]=x;unfold zm4;by_cases h:v=x
   ·subst h;rw[beq_self_eq_true,cond_true,cond_true];rfl
   rw[show(v == x)=false from beq_false_of_ne h,show(x == v)=false from beq_false_of_ne (fun e=>h e.symm),cond_false,cond_false,zam (by omega),zo1 xs v hl n (i+1) h3 (by omega)];cases zm4 (xs.drop (i+1)) v with
   | none=>rfl
   | some k=>
    simp only[qaP];rw[show i+1+k=i+(k+1) by omega]
  obtain rfl:i=xs.length:=by omega
  rw[ztP,cond_false,qbh];rfl
theorem zwV{xs:List Int}(hl:xs.length<4611686018427387904)(v:Int):za8 xs v=some (ixZ (zm4 xs v)):=by
 unfold za8;have h:=zo1 xs v hl (xs.length+2) 0 (qaz _) (by omega);rw[show((0:Nat):Int)=0 from rfl,qbb]at h;rw[zaL,h,qaa];cases zm4 xs v with
 | none=>rfl
 | some k=>simp only[qaM]; rfl
theorem FcOk.vl{f:Fc}(h:FcOk f):(iL f.vs).length<4611686018427387904:=by rw[zan,h.len]; have:=h.le; omega
theorem zom{f:Fc}(h:FcOk f)(v:Int):zaH f.T v=some (ixZ (zm4 (iL f.vs) v)):=by
 unfold zaH;rw[show f.T.factor.vars=iL f.vs from rfl,zwV h.vl,qaa]
theorem zqE(o:Option Nat):decide ((0:Int)≤ixZ o)=o.isSome:=by
 cases o with
 | none=>rfl
 | some k=>exact decide_eq_true (qby k)
def pos:List Nat→Nat→Option Nat
 | [],_=>none
 | x :: xs,v=>bif x == v then some 0 else(pos xs v).map (· + 1)
theorem zeM:∀(xs:List Nat) (v:Nat),zm4 (iL xs) (v:Int)=pos xs v
 | [],v=>rfl
 | x :: xs,v=>by
  show(bif ((x:Int)==(v:Int))then some 0 else(zm4 (iL xs) (v:Int)).map (· + 1))=pos (x :: xs) v;rw[zeM xs v];show _=(bif x == v then some 0 else(pos xs v).map (· + 1));cases hb:(x == v)with
  | true=>
   have:x=v:=by simpa using hb
   subst this;rw[beq_self_eq_true]
  | false=>
   have h1:x≠v:=by simpa using hb
   have h2:((x:Int)==(v:Int))=false:=beq_false_of_ne (by omega);rw[h2]
theorem zfH{xs:List Nat}{v k:Nat}(h:pos xs v=some k):∃ hk:k<xs.length,xs[k]=v:=by
 rw[← zeM]at h;obtain⟨h1,h2⟩:=zmv h;rw[zan]at h1;refine⟨h1,?_⟩;rw[zvV h1]at h2;omega
theorem zjX{xs:List Nat}{v:Nat}(h:pos xs v=none):v ∉ xs:=by
 rw[← zeM]at h;have:=zlT h;intro hm;exact this (qaF.2 ⟨v,hm,rfl⟩)
theorem zxe{xs:List Nat}{v:Nat}(h:v∈xs):∃ k,pos xs v=some k:=by
 cases hp:pos xs v with
 | none=>exact absurd h (zjX hp)
 | some k=>exact⟨k,rfl⟩
def zeV(f g:Fc):Nat→List Nat→Bool
 | _,[]=>true
 | i,v :: vs=>(match pos g.vs v with | none=>true | some k=>g.cs.getD k 0 == f.cs.getD i 0) && zeV f g (i+1) vs
theorem zeG{xs:List Nat}{i:Nat}(h:i<xs.length):zaZ (iL xs) (i:Int)=some ((xs.getD i 0:Nat):Int):=by
 rw[za1 h]; simp[List.getD,h]
theorem znN(a b:Nat):((a:Int)==(b:Int))=(a == b):=by
 rw[Bool.eq_iff_iff,beq_iff_eq,beq_iff_eq];exact Int.ofNat_inj
theorem zsK{f g:Fc}(hf:FcOk f)(hg:FcOk g):∀(n i:Nat),i≤f.vs.length→f.vs.length - i<n→zbO f.T g.T n (i:Int)=some (bif zeV f g i (f.vs.drop i)then .go ()else .ret false)
 | 0,_,_,h=>absurd h (qar _)
 | n+1,i,hi,hn=>by
  have hle:=hf.le;have hlen:=hf.len;unfold zbO;rw[show f.T.factor.vars=iL f.vs from rfl,show f.T.factor.zad=iL f.cs from rfl,show g.T.factor.zad=iL g.cs from rfl,zan];rcases qa2 i f.vs.length with h3 | h3
  ·rw[zup h3,cond_true,za1 h3,qaa,zom hg,zeM,qaa,zqE,qat h3];simp only[zeV];have ih:=zsK hf hg n (i+1) h3 (by omega);cases hp:pos g.vs f.vs[i]with
   | none=>
    rw[Option.isSome_none,cond_false,qaa,cond_false,zam (by omega),ih,qbt]
   | some k=>
    obtain⟨hk,_⟩:=zfH hp;rw[qcM,cond_true,show ixZ (some k)=(k:Int)from rfl,zeG (by rw[← hg.len]; exact hk),qaa,zeG (by omega),qaa,qaa,znN];cases hb:(g.cs.getD k 0 == f.cs.getD i 0)with
    | true=>simp only[hb]; rw[qa7,cond_false,zam (by omega),ih,qbt]
    | false=>simp only[hb]; rw[qbG,cond_true,Bool.false_and]; rfl
  obtain rfl:i=f.vs.length:=by omega
  rw[ztP,cond_false,qbh];rfl
theorem zw9{f g:Fc}(hf:FcOk f)(hg:FcOk g):zcy f.T g.T=some (zeV f g 0 f.vs):=by
 unfold zcy;have h:=zsK hf hg (f.vs.length+2) 0 (qaz _) (by omega);rw[show((0:Nat):Int)=0 from rfl,qbb]at h;rw[show f.T.factor.vars=iL f.vs from rfl,zan,zaL,h,qaa];cases zeV f g 0 f.vs<;>rfl
def dig:List Nat→Nat→List Nat
 | [],_=>[]
 | _ :: cs,i=>i / zac cs :: dig cs (i % zac cs)
theorem zf8:∀(cs:List Nat) (i:Nat),(dig cs i).length=cs.length
 | [],_=>rfl
 | _ :: cs,i=>by simp[dig,zf8 cs]
def dot:List Nat→List Nat→Nat
 | x :: xs,s :: ss=>x * s+dot xs ss
 | _,_=>0
theorem zkk:∀ {xs ss:List Nat} (ys ts:List Nat),xs.length=ss.length→dot (xs ++ ys) (ss ++ ts)=dot xs ss+dot ys ts
 | [],[],ys,ts,_=>by simp[dot]
 | x :: xs,s :: ss,ys,ts,h=>by
  simp only[qbe,dot];rw[zkk ys ts (by simpa using h)]; omega
 | [],_ :: _,_,_,h=>by simp at h
 | _ :: _,[],_,_,h=>by simp at h
theorem znZ(x s:Nat):dot [x] [s]=x * s:=by simp[dot]
def zb3:List Nat→List Nat→Prop
 | [],[]=>True
 | c :: cs,x :: xs=>x<c∧c≤8∧zb3 cs xs
 | _,_=>False
theorem zb3.len:∀ {cs xs:List Nat},zb3 cs xs→xs.length=cs.length
 | [],[],_=>rfl
 | c :: cs,x :: xs,h=>by simp[h.2.2.len]
theorem zb3.snoc:∀ {cs xs:List Nat} {c x:Nat},zb3 (cs ++ [c]) (xs ++ [x])→xs.length=cs.length→zb3 cs xs∧x<c∧c≤8
 | [],[],c,x,h,_=>⟨qdb,h.1,h.2.1⟩
 | c :: cs,x :: xs,_,_,h,hl=>by
  obtain⟨h1,h2,h3⟩:=h;obtain⟨g1,g2⟩:=h3.snoc (by simpa using hl);exact⟨⟨h1,h2,g1⟩,g2⟩
theorem zfI{cs:List Nat}(h:∀ c∈cs,1≤c∧c≤8):0<zac cs:=zcd fun c hc=>(h c hc).1
theorem zff:∀ {cs:List Nat} {i:Nat},(∀ c∈cs,1≤c∧c≤8)→i<zac cs→zb3 cs (dig cs i)
 | [],_,_,_=>trivial
 | c :: cs,i,h,hi=>by
  have hc:=h c qan;have hp:=zfI fun d hd=>h d (qaj c hd)
  refine⟨?_,hc.2,zff (fun d hd=>h d (qaj c hd)) (qbw _ hp)⟩;have h1:i<c * zac cs:=hi;exact qbZ (by rw[qaQ]; exact h1)
theorem zsk:∀ {cs xs ss:List Nat},zb3 cs xs→(∀ s∈ss,s≤4096)→dot xs ss≤cs.length * 32768
 | [],[],_,_,_=>by simp[dot]
 | c :: cs,x :: xs,[],_,_=>by simp[dot]
 | c :: cs,x :: xs,s :: ss,h,hs=>by
  have h1:=zsk h.2.2 fun t ht=>hs t (qaj _ ht)
  have h2:=hs s qan;have h3:x * s≤8 * 4096:=qbc (by have:=h.1; have:=h.2.1; omega) h2;simp only[dot,qaE];omega
def nxt:List Nat→List Nat→Option (List Nat)
 | c :: cs,v :: vs=>match nxt cs vs with
  | some vs'=>some (v :: vs')
  | none=>if v+1<c then some ((v+1):: List.replicate vs.length 0)else none
 | _,_=>none
theorem ziI:∀ {cs vs:List Nat} {c v:Nat},vs.length=cs.length→v+1<c→nxt (cs ++ [c]) (vs ++ [v])=some (vs ++ [v+1])
 | [],[],c,v,_,h=>by simp[nxt,h]
 | d :: cs,u :: vs,c,v,hl,h=>by
  simp only[qbe,nxt,ziI (show vs.length=cs.length by simpa using hl) h]
theorem zhl:∀ {cs vs:List Nat} {c v:Nat},vs.length=cs.length→¬ v+1<c→nxt (cs ++ [c]) (vs ++ [v])=(nxt cs vs).map (· ++ [0])
 | [],[],c,v,_,h=>by simp[nxt,h]
 | d :: cs,u :: vs,c,v,hl,h=>by
  simp only[qbe,nxt,zhl (show vs.length=cs.length by simpa using hl) h];cases hn:nxt cs vs with
  | some vs'=>rfl
  | none=>
   simp only[qc6];by_cases hu:u+1<d
   ·rw[if_pos hu,if_pos hu];simp[List.replicate_succ']
   rw[if_neg hu,if_neg hu]; rfl
theorem zj4:∀(cs:List Nat),dig cs 0=List.replicate cs.length 0
 | []=>rfl
 | c :: cs=>by simp[dig,zj4 cs,qaV]
theorem zrP:∀ {cs:List Nat} {i:Nat},(∀ c∈cs,1≤c∧c≤8)→i<zac cs→nxt cs (dig cs i)=if i+1<zac cs then some (dig cs (i+1))else none
 | [],i,_,hi=>by
  have:i=0:=by simpa [zac]using hi
  subst this;simp[nxt,zac]
 | c :: cs,i,h,hi=>by
  have hp:=zfI fun d hd=>h d (qaj c hd)
  have hm:=qbw i hp;have ih:=zrP (fun d hd=>h d (qaj c hd)) hm;have hi':i<c * zac cs:=hi;simp only[dig,nxt,ih];have hdm:=qcg i (zac cs);generalize hq:i / zac cs=q at *;generalize hr:i % zac cs=r at *;have hprod:zac (c :: cs)=c * zac cs:=rfl;by_cases h1:r+1<zac cs
  ·rw[if_pos h1];have e1:(i+1) / zac cs=q:=by
    rw[← hdm,qbn,Nat.mul_add_div hp,qbS h1,qbm]
   have e2:(i+1) % zac cs=r+1:=by
    rw[← hdm,qbn,Nat.mul_add_mod,qa0 h1]
   have hqc:q<c:=by rw[← hq]; exact qbZ (by rw[qaQ]; exact hi')
   have h2:i+1<zac (c :: cs):=by
    rw[hprod];have:(q+1)* zac cs≤c * zac cs:=qas _ hqc;rw[qaI,qbf,qaQ q]at this;omega
   rw[if_pos h2,e1,e2]
  rw[if_neg h1];have hr1:r+1=zac cs:=by omega
  have hi1:i+1=zac cs * (q+1):=by rw[qcU,qcT]; omega
  simp only;have h4:(q+1<c)↔(i+1<zac (c :: cs)):=by
   rw[hprod,hi1,qaQ c];exact(Nat.mul_lt_mul_left hp).symm
  by_cases h5:q+1<c
  ·rw[if_pos h5,if_pos (h4.1 h5),hi1,Nat.mul_div_cancel_left _ hp,Nat.mul_mod_right,zj4,zf8]
  rw[if_neg h5,if_neg (fun h=>h5 (h4.2 h))]
theorem zc7{xs ys:List Nat}{x:Nat}{k:Nat}(h:xs.length=k):zaZ (iL (xs ++ x :: ys)) (k:Int)=some (x:Int):=by
 subst h;rw[za1 (by simp)];simp
theorem zeD{xs ys:List Nat}{x y:Nat}{k:Nat}(h:xs.length=k):zfu (iL (xs ++ x :: ys)) (k:Int) (y:Int)=some (iL (xs ++ y :: ys)):=by
 subst h;rw[zfD (by rw[zan]; simp)];simp[iL]
theorem zoa{xs:List Nat}{k:Nat}(h:xs.length=k+1):∃ ys y,xs=ys ++ [y]∧ys.length=k:=by
 have hne:xs≠[]:=by rintro rfl; simp at h
 exact⟨xs.dropLast,xs.getLast hne,(List.dropLast_concat_getLast hne).symm,by simp[h]⟩
theorem zon:∀(k:Nat) (xs cx sx cy sy zs:List Nat) (e:Nat),xs.length=k→cx.length=k→sx.length=k→zb3 cx xs→(∀ s∈sx,s≤4096)→k≤12→e≤1000000 →
  ∃ r,zjz (iL (cx ++ cy)) (iL (sx ++ sy)) k (iL (xs ++ zs)) ((dot xs sx+e:Nat):Int)=some r∧match nxt cx xs with
   | none=>r.2.2 = -1
   | some xs'=>∃(j:Nat) (v st:Int),r.2.2=(j:Int)∧zaZ r.1 (j:Int)=some v∧zfu r.1 (j:Int) (w64 (v+1))=some (iL (xs' ++ zs))∧zaZ (iL (sx ++ sy)) (j:Int)=some st∧w64 (r.2.1+st)=((dot xs' sx+e:Nat):Int)
 | 0,xs,cx,sx,cy,sy,zs,e,hx,hc,hs,_,_,_,_=>by
  obtain rfl:xs=[]:=qaL.1 hx;obtain rfl:cx=[]:=qaL.1 hc;exact⟨_,rfl,rfl⟩
 | k+1,xs,cx,sx,cy,sy,zs,e,hx,hc,hs,hb,hsm,hk,he=>by
  obtain⟨xs,x,rfl,lx⟩:=zoa hx;obtain⟨cx,c,rfl,lc⟩:=zoa hc;obtain⟨sx,s,rfl,ls⟩:=zoa hs;obtain⟨hb1,hb2,hb3⟩:=hb.snoc (lx.trans lc.symm);have hd:=zsk hb1 fun t ht=>hsm t (qbP _ ht)
  have hss:s≤4096:=hsm s (by simp);have hxs:x * s≤8 * 4096:=qbc (by omega) hss;have hlen:cx.length * 32768≤12 * 32768:=qas _ (by omega);simp only[qba,qbA];unfold zjz;rw[zc7 lx,qaa,zc7 lc,qaa,zhr (by omega) (by omega)];rw[zkk [x] [s] (lx.trans ls.symm),znZ];by_cases h1:x+1<c
  ·rw[show((x:Int)==(c:Int) - 1)=false from beq_false_of_ne (by omega),cond_false,ziI (lx.trans lc.symm) h1];refine⟨_,rfl,k,(x:Int),(s:Int),rfl,zc7 lx,?_,zc7 ls,?_⟩
   ·rw[zam (by omega),zeD lx]; simp
   rw[zkk [x+1] [s] (lx.trans ls.symm),znZ,← qbq,zaq (by omega),qaI];congr 1; omega
  rw[show((x:Int)==(c:Int) - 1)=true by rw[show(x:Int)=(c:Int) - 1 by omega]; exact beq_self_eq_true _,cond_true,zc7 ls,qaa,show(0:Int)=((0:Nat):Int)from rfl,zeD lx,qaa,← qaG,
   zaq (by omega),show(((dot xs sx+x * s+e:Nat):Int) - ((x * s:Nat):Int))=((dot xs sx+e:Nat):Int) by omega,zaq (by omega),zhl (lx.trans lc.symm) h1]
  obtain⟨r,h2,h3⟩:=zon k xs cx sx (c :: cy) (s :: sy) (0 :: zs) e lx lc ls hb1 (fun t ht=>hsm t (qbP _ ht)) (by omega) he;refine⟨r,h2,?_⟩;cases hn:nxt cx xs with
  | none=>rw[hn]at h3; exact h3
  | some xs'=>
   rw[hn]at h3;obtain⟨j,v,st,g1,g2,g3,g4,g5⟩:=h3;have hl':xs'.length=sx.length:=by
    have:∀ {cs vs ws:List Nat},nxt cs vs=some ws→vs.length=cs.length→ws.length=vs.length:=by
     intro cs;induction cs with
     | nil=>intro vs ws h _; simp[nxt]at h
     | cons d cs ih=>
      intro vs ws h hl;cases vs with
      | nil=>simp[nxt]at h
      | cons u vs=>
       simp only[nxt]at h;cases hq:nxt cs vs with
       | some vs'=>
        rw[hq]at h;cases h;simp[ih hq (by simpa using hl)]
       | none=>
        rw[hq]at h;simp only at h;split at h
        ·cases h; simp
        cases h
    rw[this hn (lx.trans lc.symm),lx,ls]
   refine⟨j,v,st,g1,g2,by rw[g3]; simp,g4,?_⟩;rw[g5,zkk [0] [s] hl',znZ,qb1,qbm]
def ziV(cs ss:List Nat)(i m:Nat):List (Int×Int×List Int):=(List.range' i m).map fun j:Nat=>((j:Int),((dot (dig cs j) ss:Nat):Int),iL (dig cs j))
theorem zzt{cs ss:List Nat}(hc:∀ c∈cs,1≤c∧c≤8)(hl:cs.length≤12)(hp:zac cs≤4096)(hs:ss.length=cs.length)(hsm:∀ s∈ss,s≤4096):∀(m i n:Nat),i+(m+1)=zac cs→m<n →
  zxS (iL cs) (iL ss) n (iL (dig cs i)) (i:Int) ((dot (dig cs i) ss:Nat):Int)=some (ziV cs ss i (m+1))
 | m,i,0,_,h=>absurd h (qar _)
 | m,i,n+1,hi,hn=>by
  have hb:=zff hc (show i<zac cs by omega);obtain⟨r,h1,h2⟩:=zon cs.length (dig cs i) cs ss [] [] [] 0 (zf8 _ _) rfl hs hb hsm hl (by omega);simp only[qaT,qbm]at h1 h2;unfold zxS;rw[zan,h1,qaa];rw[zrP hc (show i<zac cs by omega)]at h2;cases m with
  | zero=>
   rw[if_neg (by omega)]at h2;simp only at h2;rw[h2];rfl
  | succ m=>
   rw[if_pos (by omega)]at h2;simp only at h2;obtain⟨j,v,st,g1,g2,g3,g4,g5⟩:=h2;rw[g1,show decide ((j:Int)<0)=false from decide_eq_false (by omega),cond_false,g2,qaa,g3,qaa,g4,qaa,g5,zam (by omega),zzt hc hl hp hs hsm m (i+1) n (by omega) (by omega)];rfl
theorem zrx(cs:List Nat):∀ a:Nat,(iL cs).foldl (· * ·) (a:Int)=((a * zac cs:Nat):Int):=by
 induction cs with
 | nil=>intro a; simp[iL,zac]
 | cons c cs ih=>
  intro a;show(iL cs).foldl (· * ·) ((a:Int)* (c:Int))=_;rw[← qaG,ih,qaZ];rfl
theorem zyN{cs ss:List Nat}(hc:∀ c∈cs,1≤c∧c≤8)(hl:cs.length≤12)(hp:zac cs≤4096)(hs:ss.length=cs.length)(hsm:∀ s∈ss,s≤4096):zxM (iL cs) (iL ss)=some (ziV cs ss 0 (zac cs)):=by
 have hpos:=zfI hc;unfold zxM zd3;rw[if_pos (by rw[zan]; omega),qaa,zan,zdB (by omega),qaa];have h:=zrx cs 1;rw[show((1:Nat):Int)=1 from rfl]at h;rw[h,qbf,qaH];obtain⟨m,hm⟩:∃ m,zac cs=m+1:=⟨zac cs - 1,by omega⟩;have e:=zzt hc hl hp hs hsm m 0 (m+1) (by omega) (by omega);have hz:∀(n:Nat) (ss:List Nat),dot (List.replicate n 0) ss=0:=by
  intro n;induction n with
  | zero=>intro ss; simp[dot]
  | succ n ih=>
   intro ss;cases ss with
   | nil=>simp[qaV,dot]
   | cons s ss=>simp[qaV,dot,ih]
 rw[zj4,hz,zic]at e;rw[hm];exact e
theorem zAZ(k:Nat):decide ((0:Int)≤(k:Int))=true:=decide_eq_true (qby k)
theorem pred_succ(k:Nat):((k+1:Nat):Int) - 1=(k:Int):=by omega
theorem zpq{cs:List Nat}(hc:∀ c∈cs,1≤c)(hp:zac cs≤4096):∀ s∈zaS cs,s≤4096:=by
 induction cs with
 | nil=>intro s hs; cases hs
 | cons c cs ih=>
  have h1:=hc c qan;have h2:zac cs≤4096:=qap (qb6 (zac cs) h1) hp;intro s hs;rcases qaK.1 hs with rfl | hs
  ·exact h2
  exact ih (fun d hd=>hc d (qaj _ hd)) h2 s hs
theorem zb3.drop:∀ {cs xs:List Nat} (k:Nat),zb3 cs xs→zb3 (cs.drop k) (xs.drop k)
 | cs,xs,0,h=>h
 | [],[],k+1,_=>trivial
 | c :: cs,x :: xs,k+1,h=>h.2.2.drop k
theorem zpm{cs ds:List Nat}(hb:zb3 cs ds)(hc:∀ c∈cs,1≤c)(hp:zac cs≤4096)(hl:cs.length≤12):∀(k n:Nat),k≤cs.length→k<n →
  zbQ (iL ds) (iL cs) n ((dot (ds.drop k) (zaS (cs.drop k)):Nat):Int) ((zac (cs.drop k):Nat):Int) ((k:Int) - 1)=some ((dot ds (zaS cs):Nat):Int)
 | k,0,_,h=>absurd h (qar _)
 | 0,n+1,_,_=>by
  unfold zbQ;rw[show decide ((0:Int)≤((0:Nat):Int) - 1)=false from rfl,cond_false];rfl
 | k+1,n+1,hk,hn=>by
  have hlen:=hb.len;have hk1:k<cs.length:=hk;have hk2:k<ds.length:=by omega
  have e1:ds.drop k=ds[k]:: ds.drop (k+1):=qat hk2;have e2:cs.drop k=cs[k]:: cs.drop (k+1):=qat hk1;have h1:=zez hc k;have h2:=zez hc (k+1);have h3:=zsk (hb.drop k) (zpq (cs:=cs.drop k) (fun c h=>hc c (qbY h)) (by omega));have h4:(cs.drop k).length * 32768≤12 * 32768:=qas _ (by simp; omega);have h5:dot (ds.drop k) (zaS (cs.drop k))=ds[k] * zac (cs.drop (k+1))+dot (ds.drop (k+1)) (zaS (cs.drop (k+1))):=by rw[e1,e2]; rfl
  have h6:zac (cs.drop k)=cs[k] * zac (cs.drop (k+1)):=by rw[e2]; rfl
  unfold zbQ
  rw[pred_succ,zAZ,cond_true,za1 hk2,qaa,za1 hk1,qaa,← qaG,zaq (by omega),← qbq,zaq (by omega),← qaG,zaq (by rw[qaQ]; omega),zhr (by omega) (by omega),
   show dot (ds.drop (k+1)) (zaS (cs.drop (k+1)))+ds[k] * zac (cs.drop (k+1))=dot (ds.drop k) (zaS (cs.drop k)) by omega,show zac (cs.drop (k+1))* cs[k]=zac (cs.drop k) by rw[h6,qaQ]]
  exact zpm hb hc hp hl k n (by omega) (by omega)
theorem zwO{cs ds:List Nat}(hb:zb3 cs ds)(hc:∀ c∈cs,1≤c)(hp:zac cs≤4096)(hl:cs.length≤12):zdO (iL cs) (iL ds)=some ((dot ds (zaS cs):Nat):Int):=by
 have hlen:=hb.len;unfold zdO;have h:=zpm hb hc hp hl cs.length (cs.length+1) (qal _) (by omega);rw[qbh,qct (by omega)]at h;rw[show((zac []:Nat):Int)=1 from rfl,show((dot [] (zaS []):Nat):Int)=0 from rfl]at h;rw[zan,zhr (by omega) (by omega),show((cs.length:Int) - 1 - 0+2).toNat=cs.length+1 by omega,h];rfl
theorem zml:∀ {cs ds:List Nat},zb3 cs ds→dot ds (zaS cs)<zac cs
 | [],[],_=>by simp[dot,zac]
 | c :: cs,d :: ds,h=>by
  have h1:=zml h.2.2;show d * zac cs+dot ds (zaS cs)<c * zac cs;have h2:(d+1)* zac cs≤c * zac cs:=qas _ h.1;rw[qaI,qbf]at h2;omega
theorem zka:∀ {cs:List Nat} {i:Nat},(∀ c∈cs,1≤c∧c≤8)→i<zac cs→dot (dig cs i) (zaS cs)=i
 | [],i,_,h=>by
  have:i=0:=by simpa [zac]using h
  subst this; rfl
 | c :: cs,i,hc,h=>by
  have hp:=zfI fun d hd=>hc d (qaj c hd)
  show i / zac cs * zac cs+dot (dig cs (i % zac cs)) (zaS cs)=i;rw[zka (fun d hd=>hc d (qaj c hd)) (qbw _ hp),qaQ];exact qcg i (zac cs)
theorem zj2:∀ {cs ds:List Nat},zb3 cs ds→dig cs (dot ds (zaS cs))=ds
 | [],[],_=>rfl
 | c :: cs,d :: ds,h=>by
  have h1:=zml h.2.2;have hp:0<zac cs:=by omega
  show((d * zac cs+dot ds (zaS cs)) / zac cs):: dig cs ((d * zac cs+dot ds (zaS cs)) % zac cs)=d :: ds;rw[qaQ d,Nat.mul_add_div hp,qbS h1,qbm,Nat.mul_add_mod,qa0 h1,zj2 h.2.2]
def stp:List Nat→List Nat→Nat→Nat
 | v :: vs,_ :: cs,u=>bif v == u then zac cs else stp vs cs u
 | _,_,_=>0
def at_:List Nat→List Nat→Nat→Nat
 | v :: vs,d :: ds,u=>bif v == u then d else at_ vs ds u
 | _,_,_=>0
theorem znj:∀ {vs cs:List Nat} {u:Nat},vs.length=cs.length→stp vs cs u=(match pos vs u with | none=>0 | some k=>(zaS cs).getD k 0)
 | [],_,u,_=>by simp[stp,pos]
 | v :: vs,[],_,h=>by simp at h
 | v :: vs,c :: cs,u,h=>by
  have ih:=znj (u:=u) (show vs.length=cs.length by simpa using h);unfold stp pos;cases hb:(v == u)with
  | true=>rfl
  | false=>
   rw[cond_false,cond_false,ih];cases pos vs u with
   | none=>rfl
   | some k=>simp[zaS]
theorem zqR{f:Fc}(hf:FcOk f){vs:List Nat}(hl:vs.length≤100):∀(n i:Nat),i≤vs.length→vs.length - i<n →
  zaX (iL vs) f.T n (i:Int) (iL ((vs.map (stp f.vs f.cs)).take i ++ List.replicate (vs.length - i) 0))=some (iL (vs.map (stp f.vs f.cs)))
 | 0,_,_,h=>absurd h (qar _)
 | n+1,i,hi,hn=>by
  unfold zaX;rw[zan];rcases qa2 i vs.length with h3 | h3
  ·have ih:=zqR hf hl n (i+1) h3 (by omega);have ht:((vs.map (stp f.vs f.cs)).take i).length=i:=by simp; omega
   have e:List.replicate (vs.length - i) 0=0 :: List.replicate (vs.length - (i+1)) 0:=by
    rw[show vs.length - i=(vs.length - (i+1))+1 by omega,qaV]
   have e2:(vs.map (stp f.vs f.cs)).take (i+1)=(vs.map (stp f.vs f.cs)).take i ++ [stp f.vs f.cs vs[i]]:=by
    rw[List.take_succ_eq_append_getElem (by simpa using h3)]; simp
   rw[e2,qba,qbA]at ih;rw[zup h3,cond_true,za1 h3,qaa,zom hf,qaa,zeM,zqE,e];rw[znj hf.len]at ih;cases hp:pos f.vs vs[i]with
   | none=>
    rw[hp]at ih;rw[Option.isSome_none,cond_false,qaa,zam (by omega)];exact ih
   | some k=>
    rw[hp]at ih;obtain⟨hk,_⟩:=zfH hp;rw[qcM,cond_true,show ixZ (some k)=(k:Int)from rfl,show f.T.steps=iL (zaS f.cs)from rfl,zeG (by rw[zpv,← hf.len]; exact hk),qaa,zc7 ht,qaa,zeD ht,qaa,qaa,zam (by omega)];exact ih
  obtain rfl:i=vs.length:=by omega
  rw[ztP,cond_false,qc0,qck,qaT,qaN (by simp)]
theorem zsH{f:Fc}(hf:FcOk f){vs:List Nat}(hl:vs.length≤100):za5 f.T (iL vs)=some (iL (vs.map (stp f.vs f.cs))):=by
 unfold za5;have h:=zqR hf hl (vs.length+2) 0 (qaz _) (by omega);rw[qb2,qa8,qcy,zic,show((0:Nat):Int)=0 from rfl]at h;rw[zan,zdB (by omega),qaa,zaL,h];rfl
theorem zs7(g h:Nat→Nat):∀(ds vs:List Nat),dot ds (vs.map fun v=>g v+h v)=dot ds (vs.map g)+dot ds (vs.map h)
 | [],_=>by simp[dot]
 | d :: ds,[]=>by simp[dot]
 | d :: ds,v :: vs=>by
  simp only[qaJ,dot,zs7 g h ds vs,qcU];omega
theorem zlf:∀(ds vs:List Nat) (g:Nat→Nat),(∀ v∈vs,g v=0)→dot ds (vs.map g)=0
 | [],_,_,_=>by simp[dot]
 | d :: ds,[],_,_=>by simp[dot]
 | d :: ds,v :: vs,g,h=>by
  simp only[qaJ,dot,h v qan,Nat.mul_zero,zlf ds vs g fun u hu=>h u (qaj _ hu)]
theorem ztc{u p:Nat}:∀ {vs ds:List Nat},vs.Nodup→dot ds (vs.map fun v=>bif u == v then p else 0)=at_ vs ds u * p
 | [],ds,_=>by cases ds<;>simp[dot,at_]
 | v :: vs,[],_=>by simp[dot,at_]
 | v :: vs,d :: ds,h=>by
  obtain⟨h1,h2⟩:=qbp.1 h;simp only[qaJ,dot,at_];by_cases hb:u=v
  ·subst hb;rw[beq_self_eq_true,cond_true,cond_true,zlf ds vs _ (fun w hw=>by rw[show(u == w)=false from beq_false_of_ne (fun e=>h1 (e ▸ hw))]; rfl),qbm]
  rw[show(u == v)=false from beq_false_of_ne hb,show(v == u)=false from beq_false_of_ne (fun e=>hb e.symm),cond_false,cond_false,ztc h2,Nat.mul_zero,qaM]
theorem zq2:∀ {us cs:List Nat} {u:Nat},u ∉ us→stp us cs u=0
 | [],_,_,_=>by simp[stp]
 | v :: us,[],_,_=>by simp[stp]
 | v :: us,c :: cs,u,h=>by
  unfold stp;rw[show(v == u)=false from beq_false_of_ne (fun e=>h (by rw[e]; exact qan)),cond_false,zq2 fun hm=>h (qaj _ hm)]
theorem ztx{vs ds:List Nat}(hv:vs.Nodup):∀ {us cs:List Nat},us.length=cs.length→us.Nodup→dot ds (vs.map (stp us cs))=dot (us.map (at_ vs ds)) (zaS cs)
 | [],cs,_,_=>by
  rw[zlf ds vs _ fun v _=>by simp[stp]];simp[dot]
 | u :: us,[],h,_=>by simp at h
 | u :: us,c :: cs,h,hn=>by
  obtain⟨h1,h2⟩:=qbp.1 hn;have e:vs.map (stp (u :: us) (c :: cs))=vs.map fun v=>(bif u == v then zac cs else 0)+stp us cs v:=by
   refine qbD fun v _=>?_
   rw[show stp (u :: us) (c :: cs) v=bif u == v then zac cs else stp us cs v from rfl];cases hb:(u == v)with
   | true=>
    have:u=v:=by simpa using hb
    subst this;rw[cond_true,cond_true,zq2 h1]; rfl
   | false=>
    rw[cond_false,cond_false,qaM]
  rw[e,zs7,ztc hv,ztx hv (by simpa using h) h2];rfl
theorem zdx{vs:List Nat}(h:vs.Pairwise (· < ·)):vs.Nodup:=h.imp fun h=>Nat.ne_of_lt h
def zs6(vs ws:List Nat):List Nat→List Nat→Prop
 | [],[]=>True
 | u :: us,c :: cs=>(u∈vs∧at_ vs ws u=c)∧zs6 vs ws us cs
 | _,_=>False
theorem zpg:∀ {vs ws ds:List Nat} {u:Nat},vs.length=ws.length→zb3 ws ds→u∈vs→at_ vs ds u<at_ vs ws u∧at_ vs ws u≤8
 | v :: vs,w :: ws,d :: ds,u,hl,hb,hm=>by
  unfold at_;by_cases h:v=u
  ·subst h;rw[beq_self_eq_true,cond_true,cond_true];exact⟨hb.1,hb.2.1⟩
  ·rw[show(v == u)=false from beq_false_of_ne h,cond_false,cond_false];rcases qaK.1 hm with e | hm
   ·exact absurd e.symm h
   ·exact zpg (by simpa using hl) hb.2.2 hm
 | [],_,_,_,_,_,hm=>by cases hm
 | v :: vs,[],_,_,hl,_,_=>by simp at hl
 | v :: vs,w :: ws,[],_,_,hb,_=>hb.elim
theorem zs6.below{vs ws ds:List Nat}(hl:vs.length=ws.length)(hb:zb3 ws ds):∀ {us cs:List Nat},zs6 vs ws us cs→zb3 cs (us.map (at_ vs ds))
 | [],[],_=>trivial
 | u :: us,c :: cs,⟨⟨h1,h2⟩,h3⟩=>by
  have:=zpg hl hb h1;rw[h2]at this;exact⟨this.1,this.2,zs6.below hl hb h3⟩
 | [],_ :: _,h=>h.elim
 | _ :: _,[],h=>h.elim
def Fc.at(f:Fc)(vs ds:List Nat):Nat:=f.ws.getD (dot (f.vs.map (at_ vs ds)) (zaS f.cs)) 0
theorem zwA{a:Nat}(ha:a<18446744073709551616):zkO .u64 (a:Int) 4294967295=((a % 4294967296:Nat):Int):=by
 rw[show(4294967295:Int)=((4294967295:Nat):Int)from rfl,zAF ha (by omega)];congr 1
 exact Nat.and_two_pow_sub_one_eq_mod a 32
theorem zsf(a:Nat):ziT .u64 (a:Int) 32=some ((a / 4294967296:Nat):Int):=by
 have h:=zAn (a:=a) (v:=32) (by omega);rw[show((32:Nat):Int)=32 from rfl]at h;rw[h,qbx]
theorem zAs{x y:Nat}(hx:x<18446744073709551616)(hy:y<18446744073709551616):zds (x:Int) (y:Int)=some (((x * y / 18446744073709551616:Nat):Int),((x * y % 18446744073709551616:Nat):Int)):=by
 unfold zds;rw[zsf,qaa,zsf,qaa,zwA hx,zwA hy];have ex:x=x / 4294967296 * 4294967296+x % 4294967296:=by omega
 have ey:y=y / 4294967296 * 4294967296+y % 4294967296:=by omega
 have exy:x * y=(x / 4294967296)* (y / 4294967296)* 18446744073709551616+((x / 4294967296)* (y % 4294967296)+(x % 4294967296)* (y / 4294967296))* 4294967296+(x % 4294967296)* (y % 4294967296):=by
  have:∀ a b c d:Nat,(a * 4294967296+b)* (c * 4294967296+d)=a * c * 18446744073709551616+(a * d+b * c)* 4294967296+b * d:=by
   intro a b c d;rw[qaI,qcU,qcU,Nat.mul_mul_mul_comm,show b * (c * 4294967296)=b * c * 4294967296 from(qaZ _ _ _).symm,show a * 4294967296 * d=a * d * 4294967296 by rw[qaZ,qaQ 4294967296 d,qaZ]];omega
  calc x * y=(x / 4294967296 * 4294967296+x % 4294967296)* (y / 4294967296 * 4294967296+y % 4294967296):=by rw[← ex,← ey]
   _=_:=this _ _ _ _
 rw[show(x:Int)* (y:Int)=((x * y:Nat):Int)from(qaG x y).symm,ztR];have ha:x / 4294967296≤4294967295:=by omega
 have hb:x % 4294967296≤4294967295:=by omega
 have hc:y / 4294967296≤4294967295:=by omega
 have hd:y % 4294967296≤4294967295:=by omega
 rw[exy];generalize x / 4294967296=a at *;generalize x % 4294967296=b at *;generalize y / 4294967296=c at *;generalize y % 4294967296=d at *;have h1:a * c≤4294967295 * 4294967295:=qbc ha hc;have h2:a * d≤4294967295 * 4294967295:=qbc ha hd;have h3:b * c≤4294967295 * 4294967295:=qbc hb hc;have h4:b * d≤4294967295 * 4294967295:=qbc hb hd;rw[← qaG,← qaG,← qaG,← qaG];generalize a * c=p at *;generalize a * d=q at *;generalize b * c=r at *;generalize b * d=s at *
 rw[zb1 (n:=s) (by omega),zsf,qaa,zb1 (n:=q) (by omega),← qbq,zb1 (n:=q+s / 4294967296) (by omega),zsf,qaa,zwA (by omega),zb1 (n:=r) (by omega),← qbq,zb1 (n:=(q+s / 4294967296) % 4294967296+r) (by omega),zsf,qaa,
  zb1 (n:=p) (by omega),← qbq,zb1 (n:=p+(q+s / 4294967296) / 4294967296) (by omega),← qbq,zb1 (n:=p+(q+s / 4294967296) / 4294967296+((q+s / 4294967296) % 4294967296+r) / 4294967296) (by omega)]
 congr 2
 congr 1
 omega
theorem ztz{xs:List Nat}{v:Nat}:(pos xs v).isSome=decide (v∈xs):=by
 cases h:pos xs v with
 | none=>exact(decide_eq_false (zjX h)).symm
 | some k=>
  obtain⟨hk,e⟩:=zfH h;exact(decide_eq_true (e ▸ qav hk)).symm
theorem zeA(u d:Nat)(us ds:List Nat)(v:Nat):at_ (u :: us) (d :: ds) v=bif u == v then d else at_ us ds v:=rfl
theorem zoR:∀ {vs ds:List Nat} {v k:Nat},pos vs v=some k→at_ vs ds v=ds.getD k 0
 | [],_,_,_,h=>by cases h
 | u :: us,[],v,k,_=>by simp[at_]
 | u :: us,d :: ds,v,k,h=>by
  rw[zeA];rw[show pos (u :: us) v=bif u == v then some 0 else(pos us v).map (· + 1)from rfl]at h;cases hb:(u == v)with
  | true=>rw[hb,cond_true]at h; cases h; rw[cond_true]; rfl
  | false=>
   rw[hb,cond_false]at h;cases hp:pos us v with
   | none=>rw[hp]at h; cases h
   | some j=>rw[hp]at h; cases h; rw[cond_false,zoR hp]; rfl
def inB(f g:Fc)(v:Nat):Bool:=decide (v∈f.vs)|| decide (v∈g.vs)
def cdF(f g:Fc)(v:Nat):Nat:=bif decide (v∈f.vs)then at_ f.vs f.cs v else at_ g.vs g.cs v
def uni(f g:Fc):List Nat:=(List.range' 0 64).filter (inB f g)
theorem zwm{xs:List Nat}{v:Nat}(h:xs.length≤100000):zdY 8 (iL xs) [(v:Int)]=some (iL (xs ++ [v])):=by
 rw[zed (by rw[zan]; simp; omega),zkf]; rfl
theorem zo7:∀ {xs:List Nat} {l:Nat},xs.Pairwise (· < ·)→(∀ x∈xs,l≤x∧x<64)→xs.length≤64 - l
 | [],_,_,_=>by simp
 | x :: xs,l,h,hb=>by
  obtain⟨h1,h2⟩:=qbg.1 h;have hx:=hb x qan;have:=zo7 (l:=x+1) h2 fun y hy=>⟨h1 y hy,(hb y (qaj _ hy)).2⟩
  rw[qaE]; omega
theorem zjl{f:Fc}(hf:FcOk f){v k:Nat}(hp:pos f.vs v=some k):zaZ f.D.zad (ixZ (some k))=some ((at_ f.vs f.cs v:Nat):Int):=by
 obtain⟨hk,_⟩:=zfH hp;show zaZ (iL f.cs) (k:Int)=_;rw[zeG (by rw[← hf.len]; exact hk),zoR hp]
theorem zdC{f g:Fc}(hf:FcOk f)(hg:FcOk g){v:Nat}:v∈uni f g↔v∈f.vs∨v∈g.vs:=by
 unfold uni inB;simp only[qbE,List.mem_range'_1,qbz,decide_eq_true_eq];constructor
 ·exact fun h=>h.2
 rintro(h | h)
 ·exact⟨⟨qaz _,by have:=hf.var _ h; omega⟩,.inl h⟩
 exact⟨⟨qaz _,by have:=hg.var _ h; omega⟩,.inr h⟩
theorem zhk(f g:Fc):(uni f g).Pairwise (· < ·):=qbJ _ List.pairwise_lt_range'
theorem zvD{f g:Fc}:∀ v∈uni f g,v<64:=by
 intro v hv;have:=(qbE.1 hv).1;simp only[List.mem_range'_1]at this;omega
theorem zvw(f g:Fc):(uni f g).length≤64:=zo7 (l:=0) (zhk f g) fun x hx=>⟨qaz _,zvD x hx⟩
theorem zh3:∀ {a b:List Nat},a.Pairwise (· < ·)→b.Pairwise (· < ·)→(∀ x,x∈a↔x∈b)→a=b
 | [],[],_,_,_=>rfl
 | [],b :: bs,_,_,h=>by have:=(h b).2 qan; simp at this
 | a :: xs,[],_,_,h=>by have:=(h a).1 qan; simp at this
 | a :: xs,b :: bs,ha,hb,h=>by
  obtain⟨ha1,ha2⟩:=qbg.1 ha;obtain⟨hb1,hb2⟩:=qbg.1 hb;have e:a=b:=by
   rcases qaK.1 ((h a).1 qan)with h1 | h1
   ·exact h1
   rcases qaK.1 ((h b).2 qan)with h2 | h2
   ·exact h2.symm
   have:=hb1 a h1; have:=ha1 b h2; omega
  subst e;refine congrArg (a :: ·) (zh3 ha2 hb2 fun x=>⟨fun hx=>?_,fun hx=>?_⟩)
  ·rcases qaK.1 ((h x).1 (qaj _ hx))with rfl | h1
   ·have:=ha1 x hx; omega
   exact h1
  rcases qaK.1 ((h x).2 (qaj _ hx))with rfl | h1
  ·have:=hb1 x hx; omega
  exact h1
theorem zoz:∀ {a b:List Int},a.Pairwise (· < ·)→b.Pairwise (· < ·)→(∀ x,x∈a↔x∈b)→a=b
 | [],[],_,_,_=>rfl
 | [],b :: bs,_,_,h=>by have:=(h b).2 qan; simp at this
 | a :: xs,[],_,_,h=>by have:=(h a).1 qan; simp at this
 | a :: xs,b :: bs,ha,hb,h=>by
  obtain⟨ha1,ha2⟩:=qbg.1 ha;obtain⟨hb1,hb2⟩:=qbg.1 hb;have e:a=b:=by
   rcases qaK.1 ((h a).1 qan)with h1 | h1
   ·exact h1
   rcases qaK.1 ((h b).2 qan)with h2 | h2
   ·exact h2.symm
   have:=hb1 a h1; have:=ha1 b h2; omega
  subst e;refine congrArg (a :: ·) (zoz ha2 hb2 fun x=>⟨fun hx=>?_,fun hx=>?_⟩)
  ·rcases qaK.1 ((h x).1 (qaj _ hx))with rfl | h1
   ·have:=ha1 x hx; omega
   exact h1
  rcases qaK.1 ((h x).2 (qaj _ hx))with rfl | h1
  ·have:=hb1 x hx; omega
  exact h1
section
variable {s:List Int}
theorem zjZ{j:Nat}(h:j<s.length):s.toArray[j]! = s[j]:=by simp[h]
theorem zvI(hs:s.Pairwise (· ≤ ·)){i j:Nat}(hij:i≤j)(hj:j<s.length):s.toArray[i]!≤s.toArray[j]!:=by
 rw[zjZ (by omega),zjZ hj];rcases Nat.eq_or_lt_of_le hij with h | h
 ·subst h; exact qbU _
 exact qbd.1 hs i j (by omega) hj h
theorem zxE(hs:s.Pairwise (· ≤ ·)):(Go.Lib.compact s).Pairwise (· < ·):=by
 unfold Go.Lib.compact Go.Lib.compactUpTo;refine List.pairwise_map.2 ((qbJ _ (qcu (n:=s.length))).imp_of_mem fun {a b} _ hb hab=>?_);obtain⟨h1,h2⟩:=qbE.1 hb;have hb:=qbl.1 h1;have h3:s.toArray[b]!≠s.toArray[b - 1]!:=by
  rcases of_decide_eq_true h2 with h | h
  ·omega
  exact h
 have h4:=zvI hs (show a≤b - 1 by omega) (by omega);have h5:=zvI hs (show b - 1≤b by omega) hb;omega
theorem zov:∀ j:Nat,j<s.length→∃ i,i<s.length∧Go.Lib.keeps s.toArray i=true∧s.toArray[i]! = s.toArray[j]!
 | 0,h=>⟨0,h,decide_eq_true (.inl rfl),rfl⟩
 | j+1,h=>by
  by_cases e:s.toArray[j+1]! = s.toArray[j]!
  ·obtain⟨i,h1,h2,h3⟩:=zov j (by omega);exact⟨i,h1,h2,h3.trans e.symm⟩
  exact⟨j+1,h,decide_eq_true (.inr e),rfl⟩
theorem zxu{x:Int}:x∈Go.Lib.compact s↔x∈s:=by
 unfold Go.Lib.compact Go.Lib.compactUpTo;constructor
 ·intro h;obtain⟨j,h1,rfl⟩:=qaF.1 h;have hj:=qbl.1 (qbE.1 h1).1;rw[zjZ hj];exact qav hj
 intro h;obtain⟨j,hj,rfl⟩:=qcF.1 h;obtain⟨i,h1,h2,h3⟩:=zov j hj;exact qaF.2 ⟨i,qbE.2 ⟨qbl.2 h1,h2⟩,h3.trans (zjZ hj)⟩
end
theorem zuV(zs:List Int):(zfp zs).Pairwise (· ≤ ·):=by
 have:=List.pairwise_mergeSort (le:=fun x y:Int=>decide (x≤y)) (fun a b c h1 h2=>by simp at *; omega) (fun a b=>by simp; omega) zs;exact this.imp fun h=>by simpa using h
theorem zr7{zs:List Int}{x:Int}:x∈zfp zs↔x∈zs:=List.mem_mergeSort
theorem zx0{xs:List Nat}(h:xs.Pairwise (· < ·)):(iL xs).Pairwise (· < ·):=List.pairwise_map.2 (h.imp fun h=>Int.ofNat_lt.2 h)
theorem zvP{xs:List Nat}{x:Int}:x∈iL xs↔∃ k∈xs,(k:Int)=x:=qaF
theorem zxy{f g:Fc}(hf:FcOk f)(hg:FcOk g):Go.Lib.compact (zfp (iL f.vs ++ iL g.vs))=iL (uni f g):=by
 refine zoz (zxE (zuV _)) (zx0 (zhk f g)) fun x=>?_
 rw[zxu,zr7,← zkf,zvP,zvP];constructor
 ·rintro⟨k,h1,h2⟩; exact⟨k,(zdC hf hg).2 (qbB.1 h1),h2⟩
 rintro⟨k,h1,h2⟩; exact⟨k,qbB.2 ((zdC hf hg).1 h1),h2⟩
theorem zsv{f g:Fc}(hf:FcOk f)(hg:FcOk g){vs:List Nat}(hl:vs.length≤100)(hm:∀ v∈vs,v∈f.vs∨v∈g.vs):∀(n i:Nat),i≤vs.length→vs.length - i<n →
  zbz (iL vs) f.T g.T n (i:Int) (iL ((vs.map (cdF f g)).take i ++ List.replicate (vs.length - i) 0))=some (iL (vs.map (cdF f g)))
 | 0,_,_,h=>absurd h (qar _)
 | n+1,i,hi,hn=>by
  unfold zbz;rw[zan];rcases qa2 i vs.length with h3 | h3
  ·have ih:=zsv hf hg hl hm n (i+1) h3 (by omega);have ht:((vs.map (cdF f g)).take i).length=i:=by simp; omega
   have e:List.replicate (vs.length - i) 0=0 :: List.replicate (vs.length - (i+1)) 0:=by
    rw[show vs.length - i=(vs.length - (i+1))+1 by omega,qaV]
   have e2:(vs.map (cdF f g)).take (i+1)=(vs.map (cdF f g)).take i ++ [cdF f g vs[i]]:=by
    rw[List.take_succ_eq_append_getElem (by simpa using h3)]; simp
   rw[e2,qba,qbA]at ih;rw[zup h3,cond_true,za1 h3,qaa,zom hf,qaa,zeM,zqE,e];cases hp:pos f.vs vs[i]with
   | some k=>
    have hm:decide (vs[i]∈f.vs)=true:=by rw[← ztz,hp]; rfl
    rw[show cdF f g vs[i]=at_ f.vs f.cs vs[i] by unfold cdF; rw[hm]; rfl]at ih;rw[qcM,cond_true,show f.T.factor=f.D from rfl,zjl hf hp,qaa,zc7 ht,qaa,zeD ht,qaa,qaa,zam (by omega)];exact ih
   | none=>
    have hm1:decide (vs[i]∈f.vs)=false:=by rw[← ztz,hp]; rfl
    rw[show cdF f g vs[i]=at_ g.vs g.cs vs[i] by unfold cdF; rw[hm1]; rfl]at ih;have hm2:vs[i]∈g.vs:=(hm vs[i] (qav h3)).resolve_left (of_decide_eq_false hm1);obtain⟨k,hq⟩:=zxe hm2;rw[Option.isSome_none,cond_false,zom hg,qaa,zeM,hq,show g.T.factor=g.D from rfl,zjl hg hq,qaa,zc7 ht,qaa,zeD ht,qaa,qaa,zam (by omega)];exact ih
  obtain rfl:i=vs.length:=by omega
  rw[ztP,cond_false,qc0,qck,qaT,qaN (by simp)]
theorem zwz{f g:Fc}(hf:FcOk f)(hg:FcOk g):zcv f.T g.T=some (iL (uni f g),iL ((uni f g).map (cdF f g))):=by
 have hl:=zvw f g;have h1:=hf.le; have h2:=hg.le; have h3:=hf.len; have h4:=hg.len;unfold zcv
 rw[show f.T.factor.vars=iL f.vs from rfl,show g.T.factor.vars=iL g.vs from rfl,zj3 (by rw[zan]; omega),qaa,zed (by rw[zan,zan]; omega),qaa,
  show zmA 8 (iL f.vs ++ iL g.vs)=some (zfp (iL f.vs ++ iL g.vs))from by unfold zmA; rw[if_pos (by rw[qaA,zan,zan]; simp only[zai]; omega)],qaa,
  show zxL (zfp (iL f.vs ++ iL g.vs))=some (Go.Lib.compact (zfp (iL f.vs ++ iL g.vs)))from rfl,qaa,zxy hf hg,zan,zdB (by omega),qaa,zaL]
 have:=zsv hf hg (vs:=uni f g) (by omega) (fun v hv=>(zdC hf hg).1 hv) ((uni f g).length+2) 0 (qaz _) (by omega);rw[qb2,qa8,qcy,zic]at this;rw[show zbz (iL (uni f g)) f.T g.T ((uni f g).length+2) 0 (List.replicate (uni f g).length 0)=_ from this];rfl
abbrev noF:S_api_Factor:=⟨[],[],[]⟩
theorem zyo{P:Nat}:((bif (((P / 18446744073709551616:Nat):Int)== 0)then some (decide ((4611686018427387903:Int)<((P % 18446744073709551616:Nat):Int)))else some true):Option Bool)=some (!decide (P≤zi5)):=by
 by_cases h:P / 18446744073709551616=0
 ·rw[h,show(((0:Nat):Int)== 0)=true from rfl,cond_true];congr 1
  by_cases h2:P≤zi5
  ·rw[decide_eq_true h2]; exact decide_eq_false (by have:P≤4611686018427387903:=h2; omega)
  rw[decide_eq_false h2]; exact decide_eq_true (by have:¬ P≤4611686018427387903:=h2; omega)
 rw[show(((P / 18446744073709551616:Nat):Int)== 0)=false from beq_eq_false_iff_ne.2 (by omega),cond_false,decide_eq_false (show ¬ P≤zi5 by intro(h2:P≤4611686018427387903); omega)];rfl
theorem zsQ{x:Nat}(h:x≤zi5):IntKind.u64.wrap (x:Int)=(x:Int):=by
 have:x≤4611686018427387903:=h;rw[ztR,qa0 (by omega)]
theorem zyY{P:Nat}(h:P≤zi5):w64 ((P % 18446744073709551616:Nat):Int)=(P:Int):=by
 have:P≤4611686018427387903:=h;rw[qa0 (by omega),zaq (by omega)]
structure Dom (u c:List Nat):Prop where
 len:u.length=c.length
 nodup:u.Nodup
 zaE:∀ x∈c,1≤x∧x≤8
 le:c.length≤12
 prod:zac c≤4096
theorem znO{cs:List Nat}(h:zbw (iL cs)=true):(∀ c∈cs,1≤c∧c≤8)∧zac cs≤4096∧cs.length≤12:=by
 obtain⟨ns,h1,h2⟩:=ziE h;have:cs=ns:=by rw[← zg2 cs,h1,zg2]
 subst this;exact h2
theorem Fc.zyp{f:Fc}(hf:FcOk f)(u ds:List Nat):f.at u ds≤zi5:=by
 unfold Fc.at;generalize dot _ _=k;by_cases h:k<f.ws.length
 ·rw[qam,qad h];exact hf.num _ (qav h)
 rw[qam,qa9 (by omega)];exact qaz _
theorem wat{f:Fc}(hf:FcOk f){u c ds:List Nat}(hD:Dom u c)(hs:zs6 u c f.vs f.cs)(hb:zb3 c ds):zaZ f.D.w ((dot ds (u.map (stp f.vs f.cs)):Nat):Int)=some ((f.at u ds:Nat):Int):=by
 rw[ztx hD.nodup hf.len (zdx hf.inc)];show zaZ (iL f.ws) _=_;have:=zml (zs6.below hD.len hb hs);rw[zeG (by rw[hf.size]; exact this)];rfl
theorem zjC(c ss:List Nat)(i m:Nat):ziV c ss i (m+1)=((i:Int),((dot (dig c i) ss:Nat):Int),iL (dig c i)):: ziV c ss (i+1) m:=by
 unfold ziV;rw[qcp,qaJ]
theorem zvv{f:Fc}(hf:FcOk f){r12:Int×Int}{u c:List Nat}{e:Int}(hD:Dom u c)(hs:zs6 u c f.vs f.cs):∀(m i:Nat) (ys:List Nat),i+m=zac c→ys.length=i →
  zbV (f.T,e) r12 (ziV c (u.map (stp f.vs f.cs)) i m) (iL (ys ++ List.replicate m 0))=some (iL (ys ++ (List.range' i m).map fun j=>f.at u (dig c j)))
 | 0,i,ys,_,_=>by simp[ziV,zbV]
 | m+1,i,ys,h,hy=>by
  rw[zjC];show(zaZ f.D.w ((dot (dig c i) (u.map (stp f.vs f.cs)):Nat):Int)).bind _=_;rw[wat hf hD hs (zff hD.zaE (by omega)),qaa];simp only[];rw[qaV,zc7 hy,qaa,zeD hy,qaa,show ys ++ f.at u (dig c i):: List.replicate m 0=(ys ++ [f.at u (dig c i)])++ List.replicate m 0 by simp,zvv hf hD hs m (i+1) _ (by omega) (by simp[hy]),qcp,qaJ,qba,qbA]
theorem zvz{g:Fc}(hg:FcOk g){r12:Int×Int}{u c:List Nat}{e:Int}(hD:Dom u c)(hs:zs6 u c g.vs g.cs){fa:Nat→Nat}(hfa:∀ j,fa j≤zi5):∀(m i:Nat) (ys:List Nat),i+m=zac c→ys.length=i →
  zbZ (g.T,e) r12 (ziV c (u.map (stp g.vs g.cs)) i m) (iL (ys ++ (List.range' i m).map fa))=
   some (bif (List.range' i m).all fun j=>decide (fa j * g.at u (dig c j)≤zi5)then .go (iL (ys ++ (List.range' i m).map fun j=>fa j * g.at u (dig c j)))else .ret (noF,6))
 | 0,i,ys,_,_=>by simp[ziV,zbZ]
 | m+1,i,ys,h,hy=>by
  have h1:fa i≤4611686018427387903:=hfa i;have h2:g.at u (dig c i)≤4611686018427387903:=Fc.zyp hg u _;rw[zjC,qcp,qaJ,qc5];show(zaZ (iL (ys ++ fa i :: _)) (i:Int)).bind _=_;rw[zc7 hy,qaa];simp only[];rw[show(g.T,e).1.factor.w=g.D.w from rfl,wat hg hD hs (zff hD.zaE (by omega)),qaa,zsQ h1,zsQ h2,zAs (by omega) (by omega),qaa];simp only[];rw[zyo,qaa];by_cases hp:fa i * g.at u (dig c i)≤zi5
  ·rw[decide_eq_true hp,qa7,cond_false,qaa,zyY hp,zeD hy,qaa,
    show ys ++ fa i * g.at u (dig c i)::(List.range' (i+1) m).map fa=(ys ++ [fa i * g.at u (dig c i)])++ (List.range' (i+1) m).map fa by simp,zvz hg hD hs hfa m (i+1) _ (by omega) (by simp[hy])]
   simp
  rw[decide_eq_false hp,qbG,cond_true,Bool.false_and,cond_false]
theorem zgL{h:Nat→Nat}{v:Nat}:∀ {us:List Nat},v∈us→at_ us (us.map h) v=h v
 | [],hm=>by simp at hm
 | u :: us,hm=>by
  rw[qaJ,zeA];cases hb:(u == v)with
  | true=>rw[cond_true]; rw[beq_iff_eq]at hb; rw[hb]
  | false=>
   rw[cond_false];rcases qaK.1 hm with e | e
   ·rw[e]at hb; simp at hb
   exact zgL e
theorem ztd:∀ {vs ds:List Nat} {i:Nat} (hn:vs.Nodup) (h:i<vs.length),at_ vs ds vs[i]=ds.getD i 0
 | v :: vs,[],i,_,_=>by simp[at_]
 | v :: vs,d :: ds,0,_,_=>by rw[zeA]; simp
 | v :: vs,d :: ds,i+1,hn,h=>by
  obtain⟨h1,h2⟩:=qbp.1 hn;have hi:i<vs.length:=by simpa using h
  rw[zeA,show(v :: vs)[i+1]=vs[i]from rfl,show(v == vs[i])=false from beq_false_of_ne (fun e=>h1 (e ▸ qav hi)),cond_false,ztd h2 hi];rfl
theorem zvg{vs ds:List Nat}(hn:vs.Nodup)(hl:vs.length=ds.length):vs.map (at_ vs ds)=ds:=by
 refine qcq (by simpa using hl) fun i h1 h2=>?_
 rw[List.getElem_map,ztd hn (by simpa using h1),qam,qad h2];rfl
theorem zrE{vs ws:List Nat}:∀ {us cs:List Nat},us.length=cs.length→us.Nodup→(∀ u∈us,u∈vs∧at_ vs ws u=at_ us cs u)→zs6 vs ws us cs
 | [],[],_,_,_=>trivial
 | [],c :: cs,h,_,_=>by simp at h
 | u :: us,[],h,_,_=>by simp at h
 | u :: us,c :: cs,hl,hn,h=>by
  obtain⟨h1,h2⟩:=qbp.1 hn;refine⟨⟨(h u qan).1,?_⟩,zrE (by simpa using hl) h2 fun x hx=>⟨(h x (qaj _ hx)).1,?_⟩⟩
  ·rw[(h u qan).2,zeA,beq_self_eq_true,cond_true]
  rw[(h x (qaj _ hx)).2,zeA,show(u == x)=false from beq_false_of_ne (fun e=>h1 (e ▸ hx)),cond_false]
def Agr(f g:Fc):Prop:=∀ v,v∈f.vs→v∈g.vs→at_ f.vs f.cs v=at_ g.vs g.cs v
theorem zl1{f g:Fc}(hf:FcOk f)(hg:FcOk g):zeV f g 0 f.vs=true↔Agr f g:=by
 have key:∀(m i:Nat),i+m=f.vs.length→(zeV f g i (f.vs.drop i)=true↔∀ v∈f.vs.drop i,v∈g.vs→at_ f.vs f.cs v=at_ g.vs g.cs v):=by
  intro m;induction m with
  | zero=>intro i h; rw[qa6 (by omega)]; simp[zeV]
  | succ m ih=>
   intro i h;have hi:i<f.vs.length:=by omega
   rw[qat hi];rw[show zeV f g i (f.vs[i]:: f.vs.drop (i+1))=((match pos g.vs f.vs[i]with | none=>true | some k=>g.cs.getD k 0 == f.cs.getD i 0) && zeV f g (i+1) (f.vs.drop (i+1)))from rfl,qah,ih (i+1) (by omega),List.forall_mem_cons];refine and_congr ?_ Iff.rfl;rw[ztd (zdx hf.inc) hi];cases hp:pos g.vs f.vs[i]with
   | none=>exact⟨fun _ hm=>absurd hm (zjX hp),fun _=>rfl⟩
   | some k=>
    obtain⟨hk,e⟩:=zfH hp;rw[zoR hp];simp only[beq_iff_eq];exact⟨fun h _=>h.symm,fun h=>(h (e ▸ qav hk)).symm⟩
 have:=key f.vs.length 0 (by omega)
 rwa [qbb]at this
def ucs(f g:Fc):List Nat:=(uni f g).map (cdF f g)
theorem zAh{f g:Fc}{v:Nat}(h:v∈f.vs):cdF f g v=at_ f.vs f.cs v:=by unfold cdF; rw[decide_eq_true h,cond_true]
theorem zAA{f g:Fc}(ha:Agr f g){v:Nat}(h:v∈g.vs):cdF f g v=at_ g.vs g.cs v:=by
 unfold cdF;by_cases h1:v∈f.vs
 ·rw[decide_eq_true h1,cond_true,ha v h1 h]
 rw[decide_eq_false h1,cond_false]
theorem zzP{f g:Fc}(hf:FcOk f)(hg:FcOk g):zs6 (uni f g) (ucs f g) f.vs f.cs:=
 zrE hf.len (zdx hf.inc) fun u hu=>by
  have hm:=(zdC hf hg).2 (.inl hu);exact⟨hm,by unfold ucs; rw[zgL hm,zAh hu]⟩
theorem zAv{f g:Fc}(hf:FcOk f)(hg:FcOk g)(ha:Agr f g):zs6 (uni f g) (ucs f g) g.vs g.cs:=
 zrE hg.len (zdx hg.inc) fun u hu=>by
  have hm:=(zdC hf hg).2 (.inr hu);exact⟨hm,by unfold ucs; rw[zgL hm,zAA ha hu]⟩
theorem znr{f g:Fc}(h:zbw (iL (ucs f g))=true):Dom (uni f g) (ucs f g):=by
 obtain⟨h1,h2,h3⟩:=znO h;exact⟨by unfold ucs; simp,zdx (zhk f g),h1,h3,h2⟩
def znv(f g:Fc):Bool:=(List.range' 0 (zac (ucs f g))).all fun j=>decide (f.at (uni f g) (dig (ucs f g) j)* g.at (uni f g) (dig (ucs f g) j)≤zi5)
def ztI(f g:Fc):Fc:=⟨uni f g,ucs f g,(List.range' 0 (zac (ucs f g))).map fun j=>f.at (uni f g) (dig (ucs f g) j)* g.at (uni f g) (dig (ucs f g) j)⟩
def mulR(f g:Fc):S_api_Factor×Int:=bif zbw (iL (ucs f g))then bif znv f g then((ztI f g).D,0)else(noF,6)else(noF,3)
theorem zq1{f:Fc}(hf:FcOk f)(v:Nat):stp f.vs f.cs v≤4096:=by
 rw[znj hf.len];cases hp:pos f.vs v with
 | none=>exact qaz _
 | some k=>
  simp only;by_cases h:k<(zaS f.cs).length
  ·rw[qam,qad h];exact zpq (fun c hc=>(hf.zaE c hc).1) hf.prod _ (qav h)
  rw[qam,qa9 (by omega)];exact qaz _
theorem zmI(a b:List Int):zcG a b=some (a,b):=by rfl
theorem zlS{f:Fc}(hf:FcOk f){u c:List Nat}(hD:Dom u c):zxM (iL c) (iL (u.map (stp f.vs f.cs)))=some (ziV c (u.map (stp f.vs f.cs)) 0 (zac c)):=
 zyN hD.zaE hD.le hD.prod (by rw[qaB,hD.len]) fun s hs=>by
  obtain⟨v,_,rfl⟩:=qaF.1 hs;exact zq1 hf v
theorem zwk{f g:Fc}(hf:FcOk f)(hg:FcOk g):zcc f.D g.D=some (bif zeV f g 0 f.vs then mulR f g else(noF,2)):=by
 unfold zcc mulR;rw[zoK hf,qaa];simp only[];rw[show((0:Int)== 0)=true from rfl,cond_true,zoK hg,qaa];simp only[];rw[show((0:Int)== 0)=true from rfl,cond_true,zw9 hf hg,qaa];cases ha:zeV f g 0 f.vs with
 | false=>rfl
 | true=>
  have hA:=(zl1 hf hg).1 ha;rw[cond_true,cond_true,zwz hf hg,qaa];show(zbS (iL (ucs f g))).bind _=_;rw[zrC,qaa];cases hc:zbw (iL (ucs f g))with
  | false=>rfl
  | true=>
   have hD:=znr hc;rw[cond_true,cond_true];have hlu:=zvw f g;have hp:=hD.prod;simp only[];rw[show((0:Int)== 0)=true from rfl,cond_true,zen,zdB (by omega),qaa,zsH hf (by omega),qaa,zmI,qaa];simp only[];rw[show iL ((uni f g).map (cdF f g))=iL (ucs f g)from rfl,zlS hf hD,qaa,← zic];have e1:=zvv hf (r12:=((zac (ucs f g):Nat),0)) (e:=0) hD (zzP hf hg) (zac (ucs f g)) 0 [] (by omega) rfl;rw[qa8]at e1;rw[e1,qaa,zsH hg (by omega),qaa,zmI,qaa];simp only[];rw[zlS hg hD,qaa];have e2:=zvz hg (r12:=((zac (ucs f g):Nat),0)) (e:=0) hD (zAv hf hg hA) (fa:=fun j=>f.at (uni f g) (dig (ucs f g) j)) (fun j=>Fc.zyp hf _ _) (zac (ucs f g)) 0 [] (by omega) rfl;rw[e2,qaa];unfold znv;cases hk:(List.range' 0 (zac (ucs f g))).all fun j=>decide (f.at (uni f g) (dig (ucs f g) j)* g.at (uni f g) (dig (ucs f g) j)≤zi5)with
   | false=>rfl
   | true=>rfl
end Go.Dc
