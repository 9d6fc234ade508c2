/-
 Plain laws: numbers and sets of bits. Conditions: none.
-/
import Derived.Test.YtnfgibomhkbcpaaNrJ6
import Derived.Test.YtnfgibomhkbcpaaNrJ9
set_option linter.unusedSimpArgs false
set_option linter.unusedVariables false
namespace Go.Dc
open Go Go.Mx Go.Lx
theorem zav{n:Nat}(h:n<9223372036854775808):w64 (n:Int)=(n:Int):=wrap64 (by omega) (by omega)
theorem zf4{n:Int}(h1:-9223372036854775808≤n)(h2:n<9223372036854775808):w64 n=n:=wrap64 h1 h2
theorem zap{n:Nat}(h:n+1<9223372036854775808):w64 ((n:Int)+1)=((n+1:Nat):Int):=by
 rw[zf4 (by omega) (by omega)]; omega
theorem zxR(n:Nat):IntKind.u64.wrap (n:Int)=((n % 18446744073709551616:Nat):Int):=by
 simp only[IntKind.wrap,IntKind.bits,IntKind.signed]; simp
theorem zez{n:Nat}(h:n<18446744073709551616):IntKind.u64.wrap (n:Int)=(n:Int):=by
 rw[zxR,qaZ h]
theorem zzR{a b:Nat}(ha:a<18446744073709551616)(hb:b<18446744073709551616):zpX .u64 (a:Int) (b:Int)=((a &&& b:Nat):Int):=by
 have h:(BitVec.ofInt 64 (a:Int) &&& BitVec.ofInt 64 (b:Int)).toNat=a &&& b:=by
  simp only[qch,BitVec.toNat_and,BitVec.toNat_ofNat];rw[qaZ ha,qaZ hb]
 show IntKind.u64.wrap ((BitVec.ofInt 64 (a:Int) &&& BitVec.ofInt 64 (b:Int)).toNat:Int)=_;rw[h];exact zez (qca Nat.and_le_left ha)
theorem orU{a b:Nat}(ha:a<18446744073709551616)(hb:b<18446744073709551616):orI .u64 (a:Int) (b:Int)=((a ||| b:Nat):Int):=by
 have h:(BitVec.ofInt 64 (a:Int)||| BitVec.ofInt 64 (b:Int)).toNat=a ||| b:=by
  simp only[qch,BitVec.toNat_or,BitVec.toNat_ofNat];rw[qaZ ha,qaZ hb]
 show IntKind.u64.wrap ((BitVec.ofInt 64 (a:Int)||| BitVec.ofInt 64 (b:Int)).toNat:Int)=_;rw[h];exact zez (Nat.or_lt_two_pow (n:=64) ha hb)
def diff(a b:Nat):Nat:=(BitVec.ofNat 64 a &&& ~~~ BitVec.ofNat 64 b).toNat
theorem zvf(a b:Nat):diff a b<18446744073709551616:=(BitVec.ofNat 64 a &&& ~~~ BitVec.ofNat 64 b).isLt
theorem zAl(a b:Nat):zys .u64 (a:Int) (b:Int)=((diff a b:Nat):Int):=by
 show IntKind.u64.wrap ((BitVec.ofInt 64 (a:Int) &&& ~~~ BitVec.ofInt 64 (b:Int)).toNat:Int)=_;rw[qch,qch];exact zez (zvf a b)
theorem zol{a b i:Nat}(ha:a<18446744073709551616)(hb:b<18446744073709551616):(diff a b).testBit i=(a.testBit i && !b.testBit i):=by
 unfold diff;rw[BitVec.testBit_toNat,BitVec.getLsbD_and,BitVec.getLsbD_not,BitVec.getLsbD_ofNat,BitVec.getLsbD_ofNat];by_cases hi:i<64
 ·simp[hi]
 have:a.testBit i=false:=Nat.testBit_lt_two_pow (qbv ha (qbY (n:=2) (by decide) (show 64≤i by omega)));simp[hi,this]
theorem zzE{v:Nat}(hv:v<64):zsS .u64 1 (v:Int)=some ((2 ^ v:Nat):Int):=by
 unfold zsS;rw[if_pos (by omega)];congr 1
 have h1:min (v:Int).toNat IntKind.u64.bits=v:=by
  rw[show IntKind.u64.bits=64 from rfl,qaD]; exact qbK (by omega)
 rw[h1,Int.one_mul];have h2:((2:Int) ^ v)=((2 ^ v:Nat):Int):=by simp
 rw[h2];exact zez (qcA (by decide) hv)
theorem zzF{a v:Nat}(hv:v<64):zmr .u64 (a:Int) (v:Int)=some ((a >>> v:Nat):Int):=by
 unfold zmr;rw[if_pos (by omega)];congr 1
 have h1:min (v:Int).toNat IntKind.u64.bits=v:=by
  rw[show IntKind.u64.bits=64 from rfl,qaD]; exact qbK (by omega)
 rw[h1,qbG];have h2:((2:Int) ^ v)=((2 ^ v:Nat):Int):=by simp
 rw[h2,qcy _ (qbx _)];rfl
theorem zzv(a v:Nat):((a >>> v) &&& 1)=(a.testBit v).toNat:=by
 rw[Nat.and_one_is_mod,Nat.testBit_eq_decide_div_mod_eq,qbG];have h:=Nat.mod_two_eq_zero_or_one (a / 2 ^ v);rcases h with h | h<;>simp[h]
theorem zAa{a v:Nat}(ha:a<18446744073709551616)(hv:v<64):∃ q:Int,zmr .u64 (a:Int) (v:Int)=some q∧zpX .u64 q 1=((a.testBit v).toNat:Int):=by
 refine⟨_,zzF hv,?_⟩;rw[show(1:Int)=((1:Nat):Int)from rfl,zzR (qca (by rw[qbG]; exact qcL _ _) ha) (by decide),zzv]
variable {α:Type}
theorem zoM{xs:List α}{i:Nat}:za5 xs (i:Int)=xs[i]?:=by
 unfold za5;rw[if_pos (qbx i),qaD]
theorem zbw{xs:List α}{i:Nat}(h:i<xs.length):za5 xs (i:Int)=some (xs[i]'h):=by
 rw[zoM,qad h]
theorem zes{xs:List α}{i:Nat}{v:α}(h:i<xs.length):zeP xs (i:Int) v=some (xs.set i v):=by
 unfold zeP;rw[if_pos (by omega),qaD]
theorem zdZ{b:Nat}{xs ys:List α}(h:(xs.length+ys.length)* b≤70368744177664):zdL b xs ys=some (xs ++ ys):=by
 unfold zdL;rw[if_pos (by simp only[zag]; omega)]
theorem zc6{b n:Nat}{z:α}(h:n * b≤70368744177664):zd5 b (n:Int) z=some (List.replicate n z):=by
 have h2:(n:Int)* (b:Int)≤zag:=by
  rw[← qaW]; simp only[zag]; omega
 unfold zd5;rw[if_pos ⟨qbx n,h2⟩,qaD]
theorem zgB{b:Nat}{xs:List α}(h:xs.length * b≤70368744177664):zdq b xs=some xs:=by
 unfold zdq;rw[if_pos (by simp only[zag]; omega)]
theorem zaH{i n:Nat}:decide ((i:Int)<(n:Int))=decide (i<n):=by simp
theorem zaX(n:Nat):((n:Int) - 0+2).toNat=n+2:=by omega
theorem zqL{p0:S_api_Net}(hl:p0.nodes.length≤8):∀(n i:Nat) (acc:List Int),i≤p0.nodes.length→acc.length≤i→p0.nodes.length - i<n →
  zcO p0 n (i:Int) acc=some (acc ++ (p0.nodes.drop i).map (·.card))
 | 0,_,_,_,_,h=>absurd h (qas _)
 | n+1,i,acc,h1,h2,h3=>by
  unfold zcO;by_cases hi:i<p0.nodes.length
  ·rw[zaH,decide_eq_true hi,cond_true,zbw hi,qaa,zdZ (by simp; omega),qaa,zap (by omega),
    zqL hl n (i+1) _ hi (by simp; omega) (by omega),qav hi]
   rw[qa6]; rfl
  rw[zaH,decide_eq_false hi,cond_false,qbc (by omega)];simp
theorem zty{p0:S_api_Net}(hl:p0.nodes.length≤8):zdI p0=some (p0.nodes.map (·.card)):=by
 unfold zdI;rw[zaX];have h:=zqL hl (p0.nodes.length+2) 0 [] (qaC _) (qam _) (by omega);rw[show((0:Nat):Int)=0 from rfl]at h;rw[h];simp
def Pl(n:Nat)(xs:List Nat):Prop:=∀ x∈xs,x<n
def iL(xs:List Nat):List Int:=xs.map (fun x:Nat=>(x:Int))
theorem zan(xs:List Nat):(iL xs).length=xs.length:=by simp[iL]
theorem zuv{xs:List Nat}{i:Nat}(h:i<xs.length):(iL xs)[i]'(by rw[zan]; exact h)=((xs[i]:Nat):Int):=by simp[iL]
theorem za7{xs:List Nat}{i:Nat}(h:i<xs.length):za5 (iL xs) (i:Int)=some ((xs[i]:Nat):Int):=by
 rw[zbw (by rw[zan]; exact h),zuv h]
theorem zzC{cs:List Int}{ps:List Nat}(hp:Pl cs.length ps)(hl:ps.length≤8):∀(n i:Nat) (acc:List Int),i≤ps.length→acc.length≤i→ps.length - i<n →
  zea (iL ps) cs n (i:Int) acc=some (acc ++ (ps.drop i).map fun p=>cs.getD p 0)
 | 0,_,_,_,_,h=>absurd h (qas _)
 | n+1,i,acc,h1,h2,h3=>by
  unfold zea;rw[zan];by_cases hi:i<ps.length
  ·have hb:ps[i]<cs.length:=hp _ (qat hi)
   rw[zaH,decide_eq_true hi,cond_true,za7 hi,qaa,zbw hb,qaa,zdZ (by simp; omega),qaa,zap (by omega),
    zzC hp hl n (i+1) _ hi (by simp; omega) (by omega),qav hi]
   rw[qa6,qaG,show cs.getD ps[i] 0=cs[ps[i]] by simp[hb]]; rfl
  rw[zaH,decide_eq_false hi,cond_false,qbc (by omega)];simp
theorem zyM{cs:List Int}{ps:List Nat}(hp:Pl cs.length ps)(hl:ps.length≤8):zgI cs (iL ps)=some (ps.map fun p=>cs.getD p 0):=by
 unfold zgI;rw[zan,zaX];have h:=zzC hp hl (ps.length+2) 0 [] (qaC _) (qam _) (by omega);rw[show((0:Nat):Int)=0 from rfl]at h;rw[h];simp
def zab(xs:List Nat):Nat:=xs.foldr (· * ·) 1
theorem zdl{xs:List Nat}(h:∀ x∈xs,1≤x):1≤zab xs:=by
 induction xs with
 | nil=>exact qam 1
 | cons x xs ih=>exact qbz (h x qar) (ih fun y hy=>h y (qak _ hy))
theorem zul{cs:List Nat}(hc:∀ x∈cs,1≤x)(hl:cs.length≤8):∀(n i a:Nat),i≤cs.length→a * zab (cs.drop i)≤65536→cs.length - i<n →
  zcf (iL cs) n (a:Int) (i:Int)=some ((a * zab (cs.drop i):Nat):Int)
 | 0,_,_,_,_,h=>absurd h (qas _)
 | n+1,i,a,h1,h2,h3=>by
  unfold zcf;rw[zan];by_cases hi:i<cs.length
  ·have e:cs.drop i=cs[i]:: cs.drop (i+1):=qav hi;have e2:a * zab (cs.drop i)=a * cs[i] * zab (cs.drop (i+1)):=by rw[e]; exact(qbi _ _ _).symm
   rw[e2]at h2;have hq:1≤zab (cs.drop (i+1)):=zdl fun x hx=>hc x (qcg hx)
   have hle:a * cs[i]≤65536:=qao (qaX _ hq) h2
   rw[zaH,decide_eq_true hi,cond_true,za7 hi,qaa,zap (by omega),show((a:Int)* ((cs[i]:Nat):Int))=((a * cs[i]:Nat):Int) by simp,
    zav (by omega),zul hc hl n (i+1) _ hi h2 (by omega),e2]
  rw[zaH,decide_eq_false hi,cond_false,qbc (by omega)];simp[zab]
theorem zv0{cs:List Nat}(hc:∀ x∈cs,1≤x)(hl:cs.length≤8)(hp:zab cs≤65536):zcF (iL cs)=some ((zab cs:Nat):Int):=by
 unfold zcF;rw[zan,zaX];have h:=zul hc hl (cs.length+2) 0 1 (qaC _) (by simpa using hp) (by omega);rw[show((0:Nat):Int)=0 from rfl,show((1:Nat):Int)=1 from rfl]at h;rw[h];simp
theorem zuF{i n:Nat}(h:i<n):decide ((i:Int)<(n:Int))=true:=decide_eq_true (by omega)
theorem zuU(n:Nat):decide ((n:Int)<(n:Int))=false:=decide_eq_false (by omega)
abbrev zg7:Nat:=4611686018427387903
def zeE:Nat→List Int→Bool
 | _,[]=>true
 | a,c :: cs=>decide (1≤c) && decide (c≤8) && decide (a * c.toNat≤4096) && zeE (a * c.toNat) cs
theorem zjk:∀ {cs:List Int} {a:Nat},zeE a cs=true→∃ ns:List Nat,cs=iL ns∧(∀ c∈ns,1≤c∧c≤8)∧(a≤4096→a * zab ns≤4096)
 | [],a,_=>⟨[],rfl,by simp,fun h=>by simpa [zab]using h⟩
 | c :: cs,a,h=>by
  simp only[zeE,qah,decide_eq_true_eq]at h;obtain⟨⟨⟨h1,h2⟩,h3⟩,h4⟩:=h;obtain⟨ns,e,g1,g2⟩:=zjk h4;refine⟨c.toNat :: ns,?_,?_,fun _=>?_⟩
  ·rw[e]; simp[iL]; omega
  ·intro d hd;rcases qaP.1 hd with rfl | hd
   ·omega
   exact g1 d hd
  have:=g2 h3;show a * (c.toNat * zab ns)≤4096;rw[← qbi]; exact this
theorem zkO:∀ {ns:List Nat} {a:Nat},(∀ c∈ns,1≤c∧c≤8)→a * zab ns≤4096→zeE a (iL ns)=true
 | [],a,_,_=>rfl
 | n :: ns,a,h,hp=>by
  have h1:=h n qar;have hp':a * n * zab ns≤4096:=by rw[qbi]; exact hp
  have hpos:1≤zab ns:=zdl fun x hx=>(h x (qak _ hx)).1
  have hle:a * n≤4096:=qao (qaX _ hpos) hp';show(decide ((1:Int)≤(n:Int)) && decide ((n:Int)≤8) && decide (a * (n:Int).toNat≤4096) && zeE (a * (n:Int).toNat) (iL ns))=true;rw[qaD,zkO (fun c hc=>h c (qak _ hc)) hp',decide_eq_true (by omega),decide_eq_true (by omega),decide_eq_true hle];rfl
def zfv:List Int→Nat
 | []=>1
 | c :: cs=>c.toNat * zfv cs
theorem zf9(ns:List Nat):zfv (iL ns)=zab ns:=by
 induction ns with
 | nil=>rfl
 | cons n ns ih=>show(n:Int).toNat * zfv (iL ns)=n * zab ns; rw[ih,qaD]
theorem zo0(cs:List Int)(hl:cs.length≤12):∀(n i:Nat) (a:Nat),a≤4096→i≤cs.length→cs.length - i<n→zb7 cs n ((a:Nat):Int) (i:Int)=some (bif zeE a (cs.drop i)then(((a * zfv (cs.drop i):Nat):Int),true)else(0,false))
 | 0,_,_,_,_,h=>absurd h (qas _)
 | n+1,i,a,ha,hi,hn=>by
  unfold zb7;rcases qa0 i cs.length with h3 | h3
  ·rw[zuF h3,cond_true,zbw h3,qaa,qav h3];generalize cs[i]=c;simp only[zeE,zfv];by_cases h1:c<1
   ·rw[decide_eq_true h1,cond_true,qaa,cond_true,decide_eq_false (show ¬ 1≤c by omega)];rfl
   rw[decide_eq_false h1,cond_false,decide_eq_true (show 1≤c by omega)];by_cases h2:8<c
   ·rw[decide_eq_true h2,cond_true,qaa,cond_true,decide_eq_false (show ¬ c≤8 by omega)];rfl
   rw[decide_eq_false h2,cond_false,decide_eq_true (show c≤8 by omega)];obtain⟨m,rfl⟩:∃ m:Nat,c=(m:Int):=⟨c.toNat,by omega⟩;have hb:a * m≤4096 * 8:=qbz ha (by omega);rw[← qaW,zav (by omega),qaa,qaD];by_cases h4:a * m≤4096
   ·rw[show decide ((4096:Int)<((a * m:Nat):Int))=false from decide_eq_false (by omega),cond_false,zap (by omega),zo0 cs hl n (i+1) (a * m) h4 h3 (by omega),decide_eq_true h4,qbi];rfl
   rw[show decide ((4096:Int)<((a * m:Nat):Int))=true from decide_eq_true (by omega),cond_true,decide_eq_false h4];rfl
  obtain rfl:i=cs.length:=by omega
  rw[zuU,cond_false,qbs];simp[zeE,zfv]
def zdB(cs:List Int):Bool:=decide (cs.length≤12) && zeE 1 cs
theorem zxa(cs:List Int):zdm cs=some (bif zdB cs then(((zfv cs:Nat):Int),0)else(0,20)):=by
 unfold zdm zdr zdB;by_cases hl:cs.length≤12
 ·rw[show decide ((12:Int)<(cs.length:Int))=false from decide_eq_false (by omega),cond_false,zaX];have:=zo0 cs hl (cs.length+2) 0 1 (by omega) (qaC _) (by omega);rw[show((1:Nat):Int)=1 from rfl,show((0:Nat):Int)=0 from rfl,qa8,qbb]at this;rw[this,decide_eq_true hl,qbL];cases zeE 1 cs<;>rfl
 rw[show decide ((12:Int)<(cs.length:Int))=true from decide_eq_true (by omega),cond_true,decide_eq_false hl];rfl
theorem zoY(cs:List Int)(hl:cs.length≤12):∀(n i:Nat) (a:Nat),a≤4096→zeE a (cs.drop i)=true→i≤cs.length→cs.length - i<n→zcf cs n ((a:Nat):Int) (i:Int)=some (((a * zfv (cs.drop i):Nat):Int))
 | 0,_,_,_,_,_,h=>absurd h (qas _)
 | n+1,i,a,ha,hc,hi,hn=>by
  unfold zcf;rcases qa0 i cs.length with h3 | h3
  ·rw[qav h3]at hc ⊢;rw[zuF h3,cond_true,zbw h3,qaa];simp only[zeE,zfv,qah,decide_eq_true_eq]at hc ⊢;obtain⟨⟨⟨h1,h2⟩,h4⟩,h5⟩:=hc;obtain⟨m,hm⟩:∃ m:Nat,cs[i]=(m:Int):=⟨cs[i].toNat,by omega⟩;rw[hm,qaD]at h4 h5 ⊢;rw[← qaW,zav (by omega),zap (by omega),zoY cs hl n (i+1) (a * m) h4 h5 h3 (by omega),qbi]
  obtain rfl:i=cs.length:=by omega
  rw[zuU,cond_false,qbs];simp[zfv]
theorem zoP{cs:List Int}(h:zdB cs=true):zcF cs=some ((zfv cs:Nat):Int):=by
 unfold zdB at h;simp only[qah,decide_eq_true_eq]at h;unfold zcF;rw[zaX];have:=zoY cs h.1 (cs.length+2) 0 1 (by omega) (by rw[qa8]; exact h.2) (qaC _) (by omega);rw[show((1:Nat):Int)=1 from rfl,show((0:Nat):Int)=0 from rfl,qa8,qbb]at this;rw[this];rfl
def zvs:Int→List Int→Bool
 | _,[]=>true
 | l,v :: vs=>decide (l<v) && decide (v≤63) && zvs v vs
def zvC:List Int→Bool
 | []=>true
 | w :: ws=>decide (0≤w) && decide (w≤4611686018427387903) && zvC ws
def zyy(x:S_api_Factor):Bool:=zdB x.cards && decide (x.vars.length=x.cards.length) && decide (x.w.length=zfv x.cards) && zvs (-1) x.vars && zvC x.w
def zax:List Nat→List Nat
 | []=>[]
 | _ :: cs=>zab cs :: zax cs
theorem zfp(cs:List Nat):(zax cs).length=cs.length:=by induction cs with | nil=>rfl | cons c cs ih=>simp[zax,ih]
abbrev noT:S_factor_table×Int:=(⟨⟨[],[],[]⟩,[]⟩,30)
theorem znL(x:S_api_Factor)(hl:x.vars.length≤12):∀(n i:Nat) (l:Int),i≤x.vars.length→x.vars.length - i<n→zb3 x n l (i:Int)=some (bif zvs l (x.vars.drop i)then .go ()else .ret noT)
 | 0,_,_,_,h=>absurd h (qas _)
 | n+1,i,l,hi,hn=>by
  unfold zb3;rcases qa0 i x.vars.length with h3 | h3
  ·rw[zuF h3,cond_true,zbw h3,qaa,qav h3];generalize x.vars[i]=v;simp only[zvs];by_cases h1:v≤l
   ·rw[decide_eq_true h1,cond_true,qaa,cond_true,decide_eq_false (show ¬ l<v by omega)];rfl
   rw[decide_eq_false h1,cond_false,qaa,decide_eq_true (show l<v by omega)];by_cases h2:63<v
   ·rw[decide_eq_true h2,cond_true,decide_eq_false (show ¬ v≤63 by omega)];rfl
   rw[decide_eq_false h2,cond_false,decide_eq_true (show v≤63 by omega),zap (by omega),znL x hl n (i+1) v h3 (by omega)];rfl
  obtain rfl:i=x.vars.length:=by omega
  rw[zuU,cond_false,qbs];rfl
theorem znH(x:S_api_Factor)(hl:x.w.length≤4096):∀(n i:Nat),i≤x.w.length→x.w.length - i<n→zb0 x n (i:Int)=some (bif zvC (x.w.drop i)then .go ()else .ret noT)
 | 0,_,_,h=>absurd h (qas _)
 | n+1,i,hi,hn=>by
  unfold zb0;rcases qa0 i x.w.length with h3 | h3
  ·rw[zuF h3,cond_true,zbw h3,qaa,qav h3];generalize x.w[i]=v;simp only[zvC];by_cases h1:v<0
   ·rw[decide_eq_true h1,cond_true,qaa,cond_true,decide_eq_false (show ¬ 0≤v by omega)];rfl
   rw[decide_eq_false h1,cond_false,qaa,decide_eq_true (show 0≤v by omega)];by_cases h2:4611686018427387903<v
   ·rw[decide_eq_true h2,cond_true,decide_eq_false (show ¬ v≤4611686018427387903 by omega)];rfl
   rw[decide_eq_false h2,cond_false,decide_eq_true (show v≤4611686018427387903 by omega),zap (by omega),znH x hl n (i+1) h3 (by omega)];rfl
  obtain rfl:i=x.w.length:=by omega
  rw[zuU,cond_false,qbs];rfl
theorem zgx{ns:List Nat}(h:∀ c∈ns,1≤c):∀ k,zab (ns.drop k)≤zab ns:=by
 induction ns with
 | nil=>intro k; simp
 | cons n ns ih=>
  intro k;cases k with
  | zero=>exact qam _
  | succ k=>
   have h1:=ih (fun c hc=>h c (qak _ hc)) k;have h2:=h n qar;show zab (ns.drop k)≤n * zab ns;exact qao h1 (qcs _ h2)
theorem zmI(a b:List Nat):iL (a ++ b)=iL a ++ iL b:=by simp[iL]
theorem zgl(k:Nat):iL (List.replicate k 0)=List.replicate k 0:=by simp[iL]
theorem zjY(x:S_api_Factor){ns:List Nat}(hx:x.cards=iL ns)(hc:∀ c∈ns,1≤c)(hp:zab ns≤4096)(hl:ns.length≤12):∀(k n:Nat),k≤ns.length→k<n →
  zbF x n ((zab (ns.drop k):Nat):Int) ((k:Int) - 1) (iL (List.replicate k 0 ++ zax (ns.drop k)))=some (iL (zax ns))
 | k,0,_,h=>absurd h (qas _)
 | 0,n+1,_,_=>by
  unfold zbF;rw[show decide ((0:Int)≤((0:Nat):Int) - 1)=false from rfl,cond_false];rfl
 | k+1,n+1,hk,hn=>by
  have ih:=zjY x hx hc hp hl k n (by omega) (by omega);have hk':k<ns.length:=hk;unfold zbF;have e:(((k+1:Nat):Int) - 1)=(k:Int):=by omega
  have hlen:k<(iL (List.replicate (k+1) 0 ++ zax (ns.drop (k+1)))).length:=by rw[zan]; simp; omega
  rw[e,show decide ((0:Int)≤(k:Int))=true from decide_eq_true (by omega),cond_true,zbw hlen,qaa,zes hlen,qaa,hx,za7 hk',qaa];have hd:ns.drop k=ns[k]:: ns.drop (k+1):=qav hk';have h1:(iL (List.replicate (k+1) 0 ++ zax (ns.drop (k+1)))).set k ((zab (ns.drop (k+1)):Nat):Int)=iL (List.replicate k 0 ++ zax (ns.drop k)):=by
   rw[hd,zmI,zmI,zgl,zgl,List.replicate_succ',qa6,qcW _ _ (by simp)];simp[zax,iL]
  have h2:((zab (ns.drop (k+1)):Nat):Int)* ((ns[k]:Nat):Int)=((zab (ns.drop k):Nat):Int):=by
   rw[hd,← qaW,qaQ]; rfl
  have h3:=zgx hc k;rw[h1,h2,zav (by omega),zf4 (by omega) (by omega)];exact ih
def zrx(xs:List Int):List Nat:=xs.map Int.toNat
theorem zlQ(ns:List Nat):zrx (iL ns)=ns:=by
 induction ns with
 | nil=>rfl
 | cons n ns ih=>show(n:Int).toNat :: zrx (iL ns)=n :: ns; rw[ih,qaD]
theorem znc{cs:List Int}(h:zdB cs=true):∃ ns:List Nat,cs=iL ns∧(∀ c∈ns,1≤c∧c≤8)∧zab ns≤4096∧ns.length≤12:=by
 unfold zdB at h;simp only[qah,decide_eq_true_eq]at h;obtain⟨ns,rfl,h1,h2⟩:=zjk h.2;exact⟨ns,rfl,h1,by have:=h2 (by omega); omega,by have:=h.1; rw[zan]at this; exact this⟩
theorem zwV(x:S_api_Factor):zbW x=some (bif zyy x then(⟨x,iL (zax (zrx x.cards))⟩,0)else noT):=by
 unfold zbW zyy;rw[zxa,qaa];cases hc:zdB x.cards with
 | false=>
  rw[cond_false];rfl
 | true=>
  obtain⟨ns,hx,h1,h2,h3⟩:=znc hc;rw[cond_true,show(((((zfv x.cards:Nat):Int),(0:Int)).2 == 0))=true from rfl,cond_true,qbL];by_cases hv:x.vars.length=x.cards.length
  ·rw[show(((x.vars.length:Nat):Int)==((x.cards.length:Nat):Int))=true by rw[hv]; exact beq_self_eq_true _,cond_true,qaa,decide_eq_true hv,qbL];by_cases hw:x.w.length=zfv x.cards
   ·have hw':x.w.length≤4096:=by rw[hw,hx,zf9]; exact h2
    have hl:x.vars.length≤12:=by rw[hv,hx,zan]; exact h3
    rw[show(!(((x.w.length:Nat):Int)==((zfv x.cards:Nat):Int)))=false by rw[hw,beq_self_eq_true]; rfl,cond_false,decide_eq_true hw,qbL,zaX,zaX];have e1:=znL x hl (x.vars.length+2) 0 (-1) (qaC _) (by omega);have e2:=znH x hw' (x.w.length+2) 0 (qaC _) (by omega);rw[show((0:Nat):Int)=0 from rfl,qa8]at e1 e2;rw[e1,qaa];cases zvs (-1) x.vars with
    | false=>rfl
    | true=>
     rw[cond_true,qbL];simp only;rw[e2,qaa];cases zvC x.w with
     | false=>rfl
     | true=>
      rw[cond_true];simp only;have hlen:x.cards.length=ns.length:=by rw[hx,zan]
      have e3:=zjY x hx (fun c hc=>(h1 c hc).1) h2 h3 ns.length (ns.length+1+1) (qam _) (by omega);rw[qbs]at e3;rw[zc6 (by omega),qaa,qaD,hlen,zf4 (by omega) (by omega),show((ns.length:Int) - 1 - 0+2).toNat=ns.length+1 by omega];have e4:=zjY x hx (fun c hc=>(h1 c hc).1) h2 h3 ns.length (ns.length+1) (qam _) (by omega);rw[qbs]at e4;rw[show iL (List.replicate ns.length 0 ++ zax [])=List.replicate ns.length 0 by simp[zax,iL],show((zab []:Nat):Int)=1 from rfl]at e4;rw[e4,qaa,cond_true,hx,zlQ]
   rw[show(!(((x.w.length:Nat):Int)==((zfv x.cards:Nat):Int)))=true by rw[qbA]; exact beq_false_of_ne (by omega),cond_true,decide_eq_false hw];rfl
  rw[show(((x.vars.length:Nat):Int)==((x.cards.length:Nat):Int))=false from beq_false_of_ne (by omega),cond_false,qaa,cond_true,decide_eq_false hv];rfl
structure Fc where
 vs:List Nat
 cs:List Nat
 ws:List Nat
def Fc.D(f:Fc):S_api_Factor:=⟨iL f.vs,iL f.cs,iL f.ws⟩
structure FcOk (f:Fc):Prop where
 len:f.vs.length=f.cs.length
 le:f.cs.length≤12
 card:∀ c∈f.cs,1≤c∧c≤8
 prod:zab f.cs≤4096
 size:f.ws.length=zab f.cs
 inc:f.vs.Pairwise (· < ·)
 var:∀ v∈f.vs,v<64
 num:∀ w∈f.ws,w≤zg7
theorem zrU:∀ {ns:List Nat} {l:Int},ns.Pairwise (· < ·)→(∀ v∈ns,v<64∧l<(v:Int))→zvs l (iL ns)=true
 | [],_,_,_=>rfl
 | n :: ns,l,h1,h2=>by
  have h3:=h2 n qar;obtain⟨h4,h5⟩:=qbw.1 h1;show(decide (l<(n:Int)) && decide ((n:Int)≤63) && zvs (n:Int) (iL ns))=true;rw[decide_eq_true h3.2,decide_eq_true (by omega),zrU h5 fun v hv=>⟨(h2 v (qak _ hv)).1,by have:=h4 v hv; omega⟩];rfl
theorem zrG:∀ {ns:List Nat},(∀ w∈ns,w≤zg7)→zvC (iL ns)=true
 | [],_=>rfl
 | n :: ns,h=>by
  have h1:n≤4611686018427387903:=h n qar;show(decide (0≤(n:Int)) && decide ((n:Int)≤4611686018427387903) && zvC (iL ns))=true;rw[decide_eq_true (by omega),decide_eq_true (by omega),zrG fun w hw=>h w (qak _ hw)];rfl
theorem zvx{f:Fc}(h:FcOk f):zyy f.D=true:=by
 unfold zyy Fc.D zdB;simp only[zan];rw[decide_eq_true h.le,zkO h.card (by have:=h.prod; omega),decide_eq_true h.len,decide_eq_true (by rw[zf9]; exact h.size),zrU h.inc fun v hv=>⟨h.var v hv,by omega⟩,zrG h.num];rfl
def Fc.T(f:Fc):S_factor_table:=⟨f.D,iL (zax f.cs)⟩
theorem zn2{f:Fc}(h:FcOk f):zbW f.D=some (f.T,0):=by
 rw[zwV,zvx h,cond_true,show f.D.cards=iL f.cs from rfl,zlQ];rfl
def zmn:List Int→Int→Option Nat
 | [],_=>none
 | x :: xs,v=>bif x == v then some 0 else(zmn xs v).map (· + 1)
def ixZ:Option Nat→Int
 | none=>-1
 | some k=>(k:Int)
theorem zk1:∀ {xs:List Int} {v:Int} {k:Nat},zmn xs v=some k→∃ h:k<xs.length,xs[k]=v
 | x :: xs,v,k,h=>by
  unfold zmn at h;cases hb:(x == v)with
  | true=>
   rw[hb,cond_true]at h;cases h;exact⟨by simp,by simpa using hb⟩
  | false=>
   rw[hb,cond_false]at h;cases hp:zmn xs v with
   | none=>rw[hp]at h; cases h
   | some j=>
    rw[hp]at h;cases h;obtain⟨g1,g2⟩:=zk1 hp;exact⟨by simp; omega,by simpa using g2⟩
theorem zlN:∀ {xs:List Int} {v:Int},zmn xs v=none→v ∉ xs
 | [],v,_=>by simp
 | x :: xs,v,h=>by
  unfold zmn at h;cases hb:(x == v)with
  | true=>rw[hb,cond_true]at h; cases h
  | false=>
   rw[hb,cond_false]at h;have h1:zmn xs v=none:=by
    cases hp:zmn xs v with
    | none=>rfl
    | some j=>rw[hp]at h; cases h
   have h2:x≠v:=by simpa using hb
   intro hm;rcases qaP.1 hm with rfl | hm
   ·exact h2 rfl
   exact zlN h1 hm
theorem zoH(xs:List Int)(v:Int)(hl:xs.length<4611686018427387904):∀(n i:Nat),i≤xs.length→xs.length - i<n→zaU xs v n (i:Int)=some (match zmn (xs.drop i) v with | none=>.go ()| some k=>.ret ((i+k:Nat):Int))
 | 0,_,_,h=>absurd h (qas _)
 | n+1,i,hi,hn=>by
  unfold zaU;rcases qa0 i xs.length with h3 | h3
  ·rw[zuF h3,cond_true,zbw h3,qaa,qav h3];generalize xs[i]=x;unfold zmn;by_cases h:v=x
   ·subst h;rw[beq_self_eq_true,cond_true,cond_true];rfl
   rw[show(v == x)=false from beq_false_of_ne h,show(x == v)=false from beq_false_of_ne (fun e=>h e.symm),cond_false,cond_false,zap (by omega),zoH xs v hl n (i+1) h3 (by omega)];cases zmn (xs.drop (i+1)) v with
   | none=>rfl
   | some k=>
    simp only[qaM];rw[show i+1+k=i+(k+1) by omega]
  obtain rfl:i=xs.length:=by omega
  rw[zuU,cond_false,qbs];rfl
theorem zu3{xs:List Int}(hl:xs.length<4611686018427387904)(v:Int):za9 xs v=some (ixZ (zmn xs v)):=by
 unfold za9;have h:=zoH xs v hl (xs.length+2) 0 (qaC _) (by omega);rw[show((0:Nat):Int)=0 from rfl,qa8]at h;rw[zaX,h,qaa];cases zmn xs v with
 | none=>rfl
 | some k=>simp only[qaO]; rfl
theorem FcOk.vl{f:Fc}(h:FcOk f):(iL f.vs).length<4611686018427387904:=by rw[zan,h.len]; have:=h.le; omega
theorem zlz{f:Fc}(h:FcOk f)(v:Int):zaC f.T v=some (ixZ (zmn (iL f.vs) v)):=by
 unfold zaC;rw[show f.T.factor.vars=iL f.vs from rfl,zu3 h.vl,qaa]
theorem zxT(o:Option Nat):decide ((0:Int)≤ixZ o)=o.isSome:=by
 cases o with
 | none=>rfl
 | some k=>exact decide_eq_true (qbx k)
def pos:List Nat→Nat→Option Nat
 | [],_=>none
 | x :: xs,v=>bif x == v then some 0 else(pos xs v).map (· + 1)
theorem zdW:∀(xs:List Nat) (v:Nat),zmn (iL xs) (v:Int)=pos xs v
 | [],v=>rfl
 | x :: xs,v=>by
  show(bif ((x:Int)==(v:Int))then some 0 else(zmn (iL xs) (v:Int)).map (· + 1))=pos (x :: xs) v;rw[zdW xs v];show _=(bif x == v then some 0 else(pos xs v).map (· + 1));cases hb:(x == v)with
  | true=>
   have:x=v:=by simpa using hb
   subst this;rw[beq_self_eq_true]
  | false=>
   have h1:x≠v:=by simpa using hb
   have h2:((x:Int)==(v:Int))=false:=beq_false_of_ne (by omega);rw[h2]
theorem zeo{xs:List Nat}{v k:Nat}(h:pos xs v=some k):∃ hk:k<xs.length,xs[k]=v:=by
 rw[← zdW]at h;obtain⟨h1,h2⟩:=zk1 h;rw[zan]at h1;refine⟨h1,?_⟩;rw[zuv h1]at h2;omega
theorem ztC{xs:List Nat}{v:Nat}(h:pos xs v=none):v ∉ xs:=by
 rw[← zdW]at h;have:=zlN h;intro hm;exact this (qaJ.2 ⟨v,hm,rfl⟩)
theorem zjH{xs:List Nat}{v:Nat}(h:v∈xs):∃ k,pos xs v=some k:=by
 cases hp:pos xs v with
 | none=>exact absurd h (ztC hp)
 | some k=>exact⟨k,rfl⟩
theorem zep{xs:List Nat}{i:Nat}(h:i<xs.length):za5 (iL xs) (i:Int)=some ((xs.getD i 0:Nat):Int):=by
 rw[za7 h]; simp[List.getD,h]
theorem zqh(a b:Nat):((a:Int)==(b:Int))=(a == b):=by
 rw[Bool.eq_iff_iff,beq_iff_eq,beq_iff_eq];exact Int.ofNat_inj
def dig:List Nat→Nat→List Nat
 | [],_=>[]
 | _ :: cs,i=>i / zab cs :: dig cs (i % zab cs)
theorem zfO:∀(cs:List Nat) (i:Nat),(dig cs i).length=cs.length
 | [],_=>rfl
 | _ :: cs,i=>by simp[dig,zfO cs]
def dot:List Nat→List Nat→Nat
 | x :: xs,s :: ss=>x * s+dot xs ss
 | _,_=>0
theorem zkq:∀ {xs ss:List Nat} (ys ts:List Nat),xs.length=ss.length→dot (xs ++ ys) (ss ++ ts)=dot xs ss+dot ys ts
 | [],[],ys,ts,_=>by simp[dot]
 | x :: xs,s :: ss,ys,ts,h=>by
  simp only[qba,dot];rw[zkq ys ts (by simpa using h)]; omega
 | [],_ :: _,_,_,h=>by simp at h
 | _ :: _,[],_,_,h=>by simp at h
theorem zmC(x s:Nat):dot [x] [s]=x * s:=by simp[dot]
def zcw:List Nat→List Nat→Prop
 | [],[]=>True
 | c :: cs,x :: xs=>x<c∧c≤8∧zcw cs xs
 | _,_=>False
theorem zcw.len:∀ {cs xs:List Nat},zcw cs xs→xs.length=cs.length
 | [],[],_=>rfl
 | c :: cs,x :: xs,h=>by simp[h.2.2.len]
theorem zcw.snoc:∀ {cs xs:List Nat} {c x:Nat},zcw (cs ++ [c]) (xs ++ [x])→xs.length=cs.length→zcw cs xs∧x<c∧c≤8
 | [],[],c,x,h,_=>⟨qc8,h.1,h.2.1⟩
 | c :: cs,x :: xs,_,_,h,hl=>by
  obtain⟨h1,h2,h3⟩:=h;obtain⟨g1,g2⟩:=h3.snoc (by simpa using hl);exact⟨⟨h1,h2,g1⟩,g2⟩
theorem zbK{cs:List Nat}(h:∀ c∈cs,1≤c∧c≤8):0<zab cs:=zdl fun c hc=>(h c hc).1
theorem zeZ:∀ {cs:List Nat} {i:Nat},(∀ c∈cs,1≤c∧c≤8)→i<zab cs→zcw cs (dig cs i)
 | [],_,_,_=>trivial
 | c :: cs,i,h,hi=>by
  have hc:=h c qar;have hp:=zbK fun d hd=>h d (qak c hd)
  refine⟨?_,hc.2,zeZ (fun d hd=>h d (qak c hd)) (qbf _ hp)⟩;have h1:i<c * zab cs:=hi;exact qbC (by rw[qaQ]; exact h1)
theorem zun:∀ {cs xs ss:List Nat},zcw cs xs→(∀ s∈ss,s≤4096)→dot xs ss≤cs.length * 32768
 | [],[],_,_,_=>by simp[dot]
 | c :: cs,x :: xs,[],_,_=>by simp[dot]
 | c :: cs,x :: xs,s :: ss,h,hs=>by
  have h1:=zun h.2.2 fun t ht=>hs t (qak _ ht)
  have h2:=hs s qar;have h3:x * s≤8 * 4096:=qbz (by have:=h.1; have:=h.2.1; omega) h2;simp only[dot,qaF];omega
def nxt:List Nat→List Nat→Option (List Nat)
 | c :: cs,v :: vs=>match nxt cs vs with
  | some vs'=>some (v :: vs')
  | none=>if v+1<c then some ((v+1):: List.replicate vs.length 0)else none
 | _,_=>none
theorem zhL:∀ {cs vs:List Nat} {c v:Nat},vs.length=cs.length→v+1<c→nxt (cs ++ [c]) (vs ++ [v])=some (vs ++ [v+1])
 | [],[],c,v,_,h=>by simp[nxt,h]
 | d :: cs,u :: vs,c,v,hl,h=>by
  simp only[qba,nxt,zhL (show vs.length=cs.length by simpa using hl) h]
theorem zg4:∀ {cs vs:List Nat} {c v:Nat},vs.length=cs.length→¬ v+1<c→nxt (cs ++ [c]) (vs ++ [v])=(nxt cs vs).map (· ++ [0])
 | [],[],c,v,_,h=>by simp[nxt,h]
 | d :: cs,u :: vs,c,v,hl,h=>by
  simp only[qba,nxt,zg4 (show vs.length=cs.length by simpa using hl) h];cases hn:nxt cs vs with
  | some vs'=>rfl
  | none=>
   simp only[qc4];by_cases hu:u+1<d
   ·rw[if_pos hu,if_pos hu];simp[List.replicate_succ']
   rw[if_neg hu,if_neg hu]; rfl
theorem zjI:∀(cs:List Nat),dig cs 0=List.replicate cs.length 0
 | []=>rfl
 | c :: cs=>by simp[dig,zjI cs,qaU]
theorem zru:∀ {cs:List Nat} {i:Nat},(∀ c∈cs,1≤c∧c≤8)→i<zab cs→nxt cs (dig cs i)=if i+1<zab cs then some (dig cs (i+1))else none
 | [],i,_,hi=>by
  have:i=0:=by simpa [zab]using hi
  subst this;simp[nxt,zab]
 | c :: cs,i,h,hi=>by
  have hp:=zbK fun d hd=>h d (qak c hd)
  have hm:=qbf i hp;have ih:=zru (fun d hd=>h d (qak c hd)) hm;have hi':i<c * zab cs:=hi;simp only[dig,nxt,ih];have hdm:=qbV i (zab cs);generalize hq:i / zab cs=q at *;generalize hr:i % zab cs=r at *;have hprod:zab (c :: cs)=c * zab cs:=rfl;by_cases h1:r+1<zab cs
  ·rw[if_pos h1];have e1:(i+1) / zab cs=q:=by
    rw[← hdm,qbh,Nat.mul_add_div hp,qbO h1,qbn]
   have e2:(i+1) % zab cs=r+1:=by
    rw[← hdm,qbh,Nat.mul_add_mod,qaZ h1]
   have hqc:q<c:=by rw[← hq]; exact qbC (by rw[qaQ]; exact hi')
   have h2:i+1<zab (c :: cs):=by
    rw[hprod];have:(q+1)* zab cs≤c * zab cs:=qaq _ hqc;rw[qaH,qbb,qaQ q]at this;omega
   rw[if_pos h2,e1,e2]
  rw[if_neg h1];have hr1:r+1=zab cs:=by omega
  have hi1:i+1=zab cs * (q+1):=by rw[Nat.mul_add,qcU]; omega
  simp only;have h4:(q+1<c)↔(i+1<zab (c :: cs)):=by
   rw[hprod,hi1,qaQ c];exact(Nat.mul_lt_mul_left hp).symm
  by_cases h5:q+1<c
  ·rw[if_pos h5,if_pos (h4.1 h5),hi1,Nat.mul_div_cancel_left _ hp,Nat.mul_mod_right,zjI,zfO]
  rw[if_neg h5,if_neg (fun h=>h5 (h4.2 h))]
theorem zds{xs ys:List Nat}{x:Nat}{k:Nat}(h:xs.length=k):za5 (iL (xs ++ x :: ys)) (k:Int)=some (x:Int):=by
 subst h;rw[za7 (by simp)];simp
theorem zgi{xs ys:List Nat}{x y:Nat}{k:Nat}(h:xs.length=k):zeP (iL (xs ++ x :: ys)) (k:Int) (y:Int)=some (iL (xs ++ y :: ys)):=by
 subst h;rw[zes (by rw[zan]; simp)];simp[iL]
theorem znw{xs:List Nat}{k:Nat}(h:xs.length=k+1):∃ ys y,xs=ys ++ [y]∧ys.length=k:=by
 have hne:xs≠[]:=by rintro rfl; simp at h
 exact⟨xs.dropLast,xs.getLast hne,(List.dropLast_concat_getLast hne).symm,by simp[h]⟩
theorem znO:∀(k:Nat) (xs cx sx cy sy zs:List Nat) (e:Nat),xs.length=k→cx.length=k→sx.length=k→zcw cx xs→(∀ s∈sx,s≤4096)→k≤12→e≤1000000 →
  ∃ r,ziL (iL (cx ++ cy)) (iL (sx ++ sy)) k (iL (xs ++ zs)) ((dot xs sx+e:Nat):Int)=some r∧match nxt cx xs with
   | none=>r.2.2 = -1
   | some xs'=>∃(j:Nat) (v st:Int),r.2.2=(j:Int)∧za5 r.1 (j:Int)=some v∧zeP r.1 (j:Int) (w64 (v+1))=some (iL (xs' ++ zs))∧za5 (iL (sx ++ sy)) (j:Int)=some st∧w64 (r.2.1+st)=((dot xs' sx+e:Nat):Int)
 | 0,xs,cx,sx,cy,sy,zs,e,hx,hc,hs,_,_,_,_=>by
  obtain rfl:xs=[]:=qa1.1 hx;obtain rfl:cx=[]:=qa1.1 hc;exact⟨_,rfl,rfl⟩
 | k+1,xs,cx,sx,cy,sy,zs,e,hx,hc,hs,hb,hsm,hk,he=>by
  obtain⟨xs,x,rfl,lx⟩:=znw hx;obtain⟨cx,c,rfl,lc⟩:=znw hc;obtain⟨sx,s,rfl,ls⟩:=znw hs;obtain⟨hb1,hb2,hb3⟩:=hb.snoc (lx.trans lc.symm);have hd:=zun hb1 fun t ht=>hsm t (qc2 _ ht)
  have hss:s≤4096:=hsm s (by simp);have hxs:x * s≤8 * 4096:=qbz (by omega) hss;have hlen:cx.length * 32768≤12 * 32768:=qaq _ (by omega);simp only[qa6,qby];unfold ziL;rw[zds lx,qaa,zds lc,qaa,zf4 (by omega) (by omega)];rw[zkq [x] [s] (lx.trans ls.symm),zmC];by_cases h1:x+1<c
  ·rw[show((x:Int)==(c:Int) - 1)=false from beq_false_of_ne (by omega),cond_false,zhL (lx.trans lc.symm) h1];refine⟨_,rfl,k,(x:Int),(s:Int),rfl,zds lx,?_,zds ls,?_⟩
   ·rw[zap (by omega),zgi lx]; simp
   rw[zkq [x+1] [s] (lx.trans ls.symm),zmC,← qci,zav (by omega),qaH];congr 1; omega
  rw[show((x:Int)==(c:Int) - 1)=true by rw[show(x:Int)=(c:Int) - 1 by omega]; exact beq_self_eq_true _,cond_true,zds ls,qaa,show(0:Int)=((0:Nat):Int)from rfl,zgi lx,qaa,← qaW,
   zav (by omega),show(((dot xs sx+x * s+e:Nat):Int) - ((x * s:Nat):Int))=((dot xs sx+e:Nat):Int) by omega,zav (by omega),zg4 (lx.trans lc.symm) h1]
  obtain⟨r,h2,h3⟩:=znO k xs cx sx (c :: cy) (s :: sy) (0 :: zs) e lx lc ls hb1 (fun t ht=>hsm t (qc2 _ ht)) (by omega) he;refine⟨r,h2,?_⟩;cases hn:nxt cx xs with
  | none=>rw[hn]at h3; exact h3
  | some xs'=>
   rw[hn]at h3;obtain⟨j,v,st,g1,g2,g3,g4,g5⟩:=h3;have hl':xs'.length=sx.length:=by
    have:∀ {cs vs ws:List Nat},nxt cs vs=some ws→vs.length=cs.length→ws.length=vs.length:=by
     intro cs;induction cs with
     | nil=>intro vs ws h _; simp[nxt]at h
     | cons d cs ih=>
      intro vs ws h hl;cases vs with
      | nil=>simp[nxt]at h
      | cons u vs=>
       simp only[nxt]at h;cases hq:nxt cs vs with
       | some vs'=>
        rw[hq]at h;cases h;simp[ih hq (by simpa using hl)]
       | none=>
        rw[hq]at h;simp only at h;split at h
        ·cases h; simp
        cases h
    rw[this hn (lx.trans lc.symm),lx,ls]
   refine⟨j,v,st,g1,g2,by rw[g3]; simp,g4,?_⟩;rw[g5,zkq [0] [s] hl',zmC,qb6,qbn]
def zk9(cs ss:List Nat)(i m:Nat):List (Int×Int×List Int):=(List.range' i m).map fun j:Nat=>((j:Int),((dot (dig cs j) ss:Nat):Int),iL (dig cs j))
theorem zye{cs ss:List Nat}(hc:∀ c∈cs,1≤c∧c≤8)(hl:cs.length≤12)(hp:zab cs≤4096)(hs:ss.length=cs.length)(hsm:∀ s∈ss,s≤4096):∀(m i n:Nat),i+(m+1)=zab cs→m<n →
  zwA (iL cs) (iL ss) n (iL (dig cs i)) (i:Int) ((dot (dig cs i) ss:Nat):Int)=some (zk9 cs ss i (m+1))
 | m,i,0,_,h=>absurd h (qas _)
 | m,i,n+1,hi,hn=>by
  have hb:=zeZ hc (show i<zab cs by omega);obtain⟨r,h1,h2⟩:=znO cs.length (dig cs i) cs ss [] [] [] 0 (zfO _ _) rfl hs hb hsm hl (by omega);simp only[qa2,qbn]at h1 h2;unfold zwA;rw[zan,h1,qaa];rw[zru hc (show i<zab cs by omega)]at h2;cases m with
  | zero=>
   rw[if_neg (by omega)]at h2;simp only at h2;rw[h2];rfl
  | succ m=>
   rw[if_pos (by omega)]at h2;simp only at h2;obtain⟨j,v,st,g1,g2,g3,g4,g5⟩:=h2;rw[g1,show decide ((j:Int)<0)=false from decide_eq_false (by omega),cond_false,g2,qaa,g3,qaa,g4,qaa,g5,zap (by omega),zye hc hl hp hs hsm m (i+1) n (by omega) (by omega)];rfl
theorem zqP(cs:List Nat):∀ a:Nat,(iL cs).foldl (· * ·) (a:Int)=((a * zab cs:Nat):Int):=by
 induction cs with
 | nil=>intro a; simp[iL,zab]
 | cons c cs ih=>
  intro a;show(iL cs).foldl (· * ·) ((a:Int)* (c:Int))=_;rw[← qaW,ih,qbi];rfl
theorem zuk{cs ss:List Nat}(hc:∀ c∈cs,1≤c∧c≤8)(hl:cs.length≤12)(hp:zab cs≤4096)(hs:ss.length=cs.length)(hsm:∀ s∈ss,s≤4096):zwZ (iL cs) (iL ss)=some (zk9 cs ss 0 (zab cs)):=by
 have hpos:=zbK hc;unfold zwZ zfa;rw[if_pos (by rw[zan]; omega),qaa,zan,zc6 (by omega),qaa];have h:=zqP cs 1;rw[show((1:Nat):Int)=1 from rfl]at h;rw[h,qbb,qaD];obtain⟨m,hm⟩:∃ m,zab cs=m+1:=⟨zab cs - 1,by omega⟩;have e:=zye hc hl hp hs hsm m 0 (m+1) (by omega) (by omega);have hz:∀(n:Nat) (ss:List Nat),dot (List.replicate n 0) ss=0:=by
  intro n;induction n with
  | zero=>intro ss; simp[dot]
  | succ n ih=>
   intro ss;cases ss with
   | nil=>simp[qaU,dot]
   | cons s ss=>simp[qaU,dot,ih]
 rw[zjI,hz,zgl]at e;rw[hm];exact e
theorem zzY(k:Nat):decide ((0:Int)≤(k:Int))=true:=decide_eq_true (qbx k)
theorem pred_succ(k:Nat):((k+1:Nat):Int) - 1=(k:Int):=by omega
theorem zoo{cs:List Nat}(hc:∀ c∈cs,1≤c)(hp:zab cs≤4096):∀ s∈zax cs,s≤4096:=by
 induction cs with
 | nil=>intro s hs; cases hs
 | cons c cs ih=>
  have h1:=hc c qar;have h2:zab cs≤4096:=qao (qcs (zab cs) h1) hp;intro s hs;rcases qaP.1 hs with rfl | hs
  ·exact h2
  exact ih (fun d hd=>hc d (qak _ hd)) h2 s hs
theorem zcw.drop:∀ {cs xs:List Nat} (k:Nat),zcw cs xs→zcw (cs.drop k) (xs.drop k)
 | cs,xs,0,h=>h
 | [],[],k+1,_=>trivial
 | c :: cs,x :: xs,k+1,h=>h.2.2.drop k
theorem zlE:∀ {cs ds:List Nat},zcw cs ds→dot ds (zax cs)<zab cs
 | [],[],_=>by simp[dot,zab]
 | c :: cs,d :: ds,h=>by
  have h1:=zlE h.2.2;show d * zab cs+dot ds (zax cs)<c * zab cs;have h2:(d+1)* zab cs≤c * zab cs:=qaq _ h.1;rw[qaH,qbb]at h2;omega
theorem zgT:∀ {cs:List Nat} {i:Nat},(∀ c∈cs,1≤c∧c≤8)→i<zab cs→dot (dig cs i) (zax cs)=i
 | [],i,_,h=>by
  have:i=0:=by simpa [zab]using h
  subst this; rfl
 | c :: cs,i,hc,h=>by
  have hp:=zbK fun d hd=>hc d (qak c hd)
  show i / zab cs * zab cs+dot (dig cs (i % zab cs)) (zax cs)=i;rw[zgT (fun d hd=>hc d (qak c hd)) (qbf _ hp),qaQ];exact qbV i (zab cs)
theorem znb:∀ {cs ds:List Nat},zcw cs ds→dig cs (dot ds (zax cs))=ds
 | [],[],_=>rfl
 | c :: cs,d :: ds,h=>by
  have h1:=zlE h.2.2;have hp:0<zab cs:=by omega
  show((d * zab cs+dot ds (zax cs)) / zab cs):: dig cs ((d * zab cs+dot ds (zax cs)) % zab cs)=d :: ds;rw[qaQ d,Nat.mul_add_div hp,qbO h1,qbn,Nat.mul_add_mod,qaZ h1,znb h.2.2]
def stp:List Nat→List Nat→Nat→Nat
 | v :: vs,_ :: cs,u=>bif v == u then zab cs else stp vs cs u
 | _,_,_=>0
def at_:List Nat→List Nat→Nat→Nat
 | v :: vs,d :: ds,u=>bif v == u then d else at_ vs ds u
 | _,_,_=>0
theorem zj4:∀ {vs cs:List Nat} {u:Nat},vs.length=cs.length→stp vs cs u=(match pos vs u with | none=>0 | some k=>(zax cs).getD k 0)
 | [],_,u,_=>by simp[stp,pos]
 | v :: vs,[],_,h=>by simp at h
 | v :: vs,c :: cs,u,h=>by
  have ih:=zj4 (u:=u) (show vs.length=cs.length by simpa using h);unfold stp pos;cases hb:(v == u)with
  | true=>rfl
  | false=>
   rw[cond_false,cond_false,ih];cases pos vs u with
   | none=>rfl
   | some k=>simp[zax]
theorem zsF{f:Fc}(hf:FcOk f){vs:List Nat}(hl:vs.length≤100):∀(n i:Nat),i≤vs.length→vs.length - i<n →
  zaZ (iL vs) f.T n (i:Int) (iL ((vs.map (stp f.vs f.cs)).take i ++ List.replicate (vs.length - i) 0))=some (iL (vs.map (stp f.vs f.cs)))
 | 0,_,_,h=>absurd h (qas _)
 | n+1,i,hi,hn=>by
  unfold zaZ;rw[zan];rcases qa0 i vs.length with h3 | h3
  ·have ih:=zsF hf hl n (i+1) h3 (by omega);have ht:((vs.map (stp f.vs f.cs)).take i).length=i:=by simp; omega
   have e:List.replicate (vs.length - i) 0=0 :: List.replicate (vs.length - (i+1)) 0:=by
    rw[show vs.length - i=(vs.length - (i+1))+1 by omega,qaU]
   have e2:(vs.map (stp f.vs f.cs)).take (i+1)=(vs.map (stp f.vs f.cs)).take i ++ [stp f.vs f.cs vs[i]]:=by
    rw[qcf (by simpa using h3)]; simp
   rw[e2,qa6,qby]at ih;rw[zuF h3,cond_true,za7 h3,qaa,zlz hf,qaa,zdW,zxT,e];rw[zj4 hf.len]at ih;cases hp:pos f.vs vs[i]with
   | none=>
    rw[hp]at ih;rw[Option.isSome_none,cond_false,qaa,zap (by omega)];exact ih
   | some k=>
    rw[hp]at ih;obtain⟨hk,_⟩:=zeo hp;rw[Option.isSome_some,cond_true,show ixZ (some k)=(k:Int)from rfl,show f.T.steps=iL (zax f.cs)from rfl,zep (by rw[zfp,← hf.len]; exact hk),qaa,zds ht,qaa,zgi ht,qaa,qaa,zap (by omega)];exact ih
  obtain rfl:i=vs.length:=by omega
  rw[zuU,cond_false,qcX,qcl,qa2,qaK (by simp)]
theorem zv1{f:Fc}(hf:FcOk f){vs:List Nat}(hl:vs.length≤100):zbn f.T (iL vs)=some (iL (vs.map (stp f.vs f.cs))):=by
 unfold zbn;have h:=zsF hf hl (vs.length+2) 0 (qaC _) (by omega);rw[qb0,qa9,qcw,zgl,show((0:Nat):Int)=0 from rfl]at h;rw[zan,zc6 (by omega),qaa,zaX,h];rfl
theorem zqM(g h:Nat→Nat):∀(ds vs:List Nat),dot ds (vs.map fun v=>g v+h v)=dot ds (vs.map g)+dot ds (vs.map h)
 | [],_=>by simp[dot]
 | d :: ds,[]=>by simp[dot]
 | d :: ds,v :: vs=>by
  simp only[qaG,dot,zqM g h ds vs,Nat.mul_add];omega
theorem zjS:∀(ds vs:List Nat) (g:Nat→Nat),(∀ v∈vs,g v=0)→dot ds (vs.map g)=0
 | [],_,_,_=>by simp[dot]
 | d :: ds,[],_,_=>by simp[dot]
 | d :: ds,v :: vs,g,h=>by
  simp only[qaG,dot,h v qar,Nat.mul_zero,zjS ds vs g fun u hu=>h u (qak _ hu)]
theorem zsf{u p:Nat}:∀ {vs ds:List Nat},vs.Nodup→dot ds (vs.map fun v=>bif u == v then p else 0)=at_ vs ds u * p
 | [],ds,_=>by cases ds<;>simp[dot,at_]
 | v :: vs,[],_=>by simp[dot,at_]
 | v :: vs,d :: ds,h=>by
  obtain⟨h1,h2⟩:=qbr.1 h;simp only[qaG,dot,at_];by_cases hb:u=v
  ·subst hb;rw[beq_self_eq_true,cond_true,cond_true,zjS ds vs _ (fun w hw=>by rw[show(u == w)=false from beq_false_of_ne (fun e=>h1 (e ▸ hw))]; rfl),qbn]
  rw[show(u == v)=false from beq_false_of_ne hb,show(v == u)=false from beq_false_of_ne (fun e=>hb e.symm),cond_false,cond_false,zsf h2,Nat.mul_zero,qaO]
theorem zq4:∀ {us cs:List Nat} {u:Nat},u ∉ us→stp us cs u=0
 | [],_,_,_=>by simp[stp]
 | v :: us,[],_,_=>by simp[stp]
 | v :: us,c :: cs,u,h=>by
  unfold stp;rw[show(v == u)=false from beq_false_of_ne (fun e=>h (by rw[e]; exact qar)),cond_false,zq4 fun hm=>h (qak _ hm)]
theorem zrI{vs ds:List Nat}(hv:vs.Nodup):∀ {us cs:List Nat},us.length=cs.length→us.Nodup→dot ds (vs.map (stp us cs))=dot (us.map (at_ vs ds)) (zax cs)
 | [],cs,_,_=>by
  rw[zjS ds vs _ fun v _=>by simp[stp]];simp[dot]
 | u :: us,[],h,_=>by simp at h
 | u :: us,c :: cs,h,hn=>by
  obtain⟨h1,h2⟩:=qbr.1 hn;have e:vs.map (stp (u :: us) (c :: cs))=vs.map fun v=>(bif u == v then zab cs else 0)+stp us cs v:=by
   refine qbp fun v _=>?_
   rw[show stp (u :: us) (c :: cs) v=bif u == v then zab cs else stp us cs v from rfl];cases hb:(u == v)with
   | true=>
    have:u=v:=by simpa using hb
    subst this;rw[cond_true,cond_true,zq4 h1]; rfl
   | false=>
    rw[cond_false,cond_false,qaO]
  rw[e,zqM,zsf hv,zrI hv (by simpa using h) h2];rfl
theorem zbr{vs:List Nat}(h:vs.Pairwise (· < ·)):vs.Nodup:=h.imp fun h=>Nat.ne_of_lt h
def zvO(vs ws:List Nat):List Nat→List Nat→Prop
 | [],[]=>True
 | u :: us,c :: cs=>(u∈vs∧at_ vs ws u=c)∧zvO vs ws us cs
 | _,_=>False
theorem zhq:∀ {vs ws ds:List Nat} {u:Nat},vs.length=ws.length→zcw ws ds→u∈vs→at_ vs ds u<at_ vs ws u∧at_ vs ws u≤8
 | v :: vs,w :: ws,d :: ds,u,hl,hb,hm=>by
  unfold at_;by_cases h:v=u
  ·subst h;rw[beq_self_eq_true,cond_true,cond_true];exact⟨hb.1,hb.2.1⟩
  ·rw[show(v == u)=false from beq_false_of_ne h,cond_false,cond_false];rcases qaP.1 hm with e | hm
   ·exact absurd e.symm h
   ·exact zhq (by simpa using hl) hb.2.2 hm
 | [],_,_,_,_,_,hm=>by cases hm
 | v :: vs,[],_,_,hl,_,_=>by simp at hl
 | v :: vs,w :: ws,[],_,_,hb,_=>hb.elim
theorem zvO.below{vs ws ds:List Nat}(hl:vs.length=ws.length)(hb:zcw ws ds):∀ {us cs:List Nat},zvO vs ws us cs→zcw cs (us.map (at_ vs ds))
 | [],[],_=>trivial
 | u :: us,c :: cs,⟨⟨h1,h2⟩,h3⟩=>by
  have:=zhq hl hb h1;rw[h2]at this;exact⟨this.1,this.2,zvO.below hl hb h3⟩
 | [],_ :: _,h=>h.elim
 | _ :: _,[],h=>h.elim
def Fc.at(f:Fc)(vs ds:List Nat):Nat:=f.ws.getD (dot (f.vs.map (at_ vs ds)) (zax f.cs)) 0
theorem zeQ(u d:Nat)(us ds:List Nat)(v:Nat):at_ (u :: us) (d :: ds) v=bif u == v then d else at_ us ds v:=rfl
theorem zrq:∀ {vs ds:List Nat} {v k:Nat},pos vs v=some k→at_ vs ds v=ds.getD k 0
 | [],_,_,_,h=>by cases h
 | u :: us,[],v,k,_=>by simp[at_]
 | u :: us,d :: ds,v,k,h=>by
  rw[zeQ];rw[show pos (u :: us) v=bif u == v then some 0 else(pos us v).map (· + 1)from rfl]at h;cases hb:(u == v)with
  | true=>rw[hb,cond_true]at h; cases h; rw[cond_true]; rfl
  | false=>
   rw[hb,cond_false]at h;cases hp:pos us v with
   | none=>rw[hp]at h; cases h
   | some j=>rw[hp]at h; cases h; rw[cond_false,zrq hp]; rfl
theorem zwi{xs:List Nat}{v:Nat}(h:xs.length≤100000):zdL 8 (iL xs) [(v:Int)]=some (iL (xs ++ [v])):=by
 rw[zdZ (by rw[zan]; simp; omega),zmI]; rfl
theorem zpt{f:Fc}(hf:FcOk f){v k:Nat}(hp:pos f.vs v=some k):za5 f.D.cards (ixZ (some k))=some ((at_ f.vs f.cs v:Nat):Int):=by
 obtain⟨hk,_⟩:=zeo hp;show za5 (iL f.cs) (k:Int)=_;rw[zep (by rw[← hf.len]; exact hk),zrq hp]
theorem zgX:∀ {a b:List Nat},a.Pairwise (· < ·)→b.Pairwise (· < ·)→(∀ x,x∈a↔x∈b)→a=b
 | [],[],_,_,_=>rfl
 | [],b :: bs,_,_,h=>by have:=(h b).2 qar; simp at this
 | a :: xs,[],_,_,h=>by have:=(h a).1 qar; simp at this
 | a :: xs,b :: bs,ha,hb,h=>by
  obtain⟨ha1,ha2⟩:=qbw.1 ha;obtain⟨hb1,hb2⟩:=qbw.1 hb;have e:a=b:=by
   rcases qaP.1 ((h a).1 qar)with h1 | h1
   ·exact h1
   rcases qaP.1 ((h b).2 qar)with h2 | h2
   ·exact h2.symm
   have:=hb1 a h1; have:=ha1 b h2; omega
  subst e;refine congrArg (a :: ·) (zgX ha2 hb2 fun x=>⟨fun hx=>?_,fun hx=>?_⟩)
  ·rcases qaP.1 ((h x).1 (qak _ hx))with rfl | h1
   ·have:=ha1 x hx; omega
   exact h1
  rcases qaP.1 ((h x).2 (qak _ hx))with rfl | h1
  ·have:=hb1 x hx; omega
  exact h1
section
variable {s:List Int}
end
theorem ztt(zs:List Int):(zfM zs).Pairwise (· ≤ ·):=by
 have:=List.pairwise_mergeSort (le:=fun x y:Int=>decide (x≤y)) (fun a b c h1 h2=>by simp at *; omega) (fun a b=>by simp; omega) zs;exact this.imp fun h=>by simpa using h
abbrev noF:S_api_Factor:=⟨[],[],[]⟩
structure Dom (u c:List Nat):Prop where
 len:u.length=c.length
 nodup:u.Nodup
 card:∀ x∈c,1≤x∧x≤8
 le:c.length≤12
 prod:zab c≤4096
theorem zi6(c ss:List Nat)(i m:Nat):zk9 c ss i (m+1)=((i:Int),((dot (dig c i) ss:Nat):Int),iL (dig c i)):: zk9 c ss (i+1) m:=by
 unfold zk9;rw[qcp,qaG]
theorem ziN{h:Nat→Nat}{v:Nat}:∀ {us:List Nat},v∈us→at_ us (us.map h) v=h v
 | [],hm=>by simp at hm
 | u :: us,hm=>by
  rw[qaG,zeQ];cases hb:(u == v)with
  | true=>rw[cond_true]; rw[beq_iff_eq]at hb; rw[hb]
  | false=>
   rw[cond_false];rcases qaP.1 hm with e | e
   ·rw[e]at hb; simp at hb
   exact ziN e
theorem zob:∀ {vs ds:List Nat} {i:Nat} (hn:vs.Nodup) (h:i<vs.length),at_ vs ds vs[i]=ds.getD i 0
 | v :: vs,[],i,_,_=>by simp[at_]
 | v :: vs,d :: ds,0,_,_=>by rw[zeQ]; simp
 | v :: vs,d :: ds,i+1,hn,h=>by
  obtain⟨h1,h2⟩:=qbr.1 hn;have hi:i<vs.length:=by simpa using h
  rw[zeQ,show(v :: vs)[i+1]=vs[i]from rfl,show(v == vs[i])=false from beq_false_of_ne (fun e=>h1 (e ▸ qat hi)),cond_false,zob h2 hi];rfl
theorem zou{vs ds:List Nat}(hn:vs.Nodup)(hl:vs.length=ds.length):vs.map (at_ vs ds)=ds:=by
 refine qbP (by simpa using hl) fun i h1 h2=>?_
 rw[qc1,zob hn (by simpa using h1),qai,qad h2];rfl
theorem zum{vs ws:List Nat}:∀ {us cs:List Nat},us.length=cs.length→us.Nodup→(∀ u∈us,u∈vs∧at_ vs ws u=at_ us cs u)→zvO vs ws us cs
 | [],[],_,_,_=>trivial
 | [],c :: cs,h,_,_=>by simp at h
 | u :: us,[],h,_,_=>by simp at h
 | u :: us,c :: cs,hl,hn,h=>by
  obtain⟨h1,h2⟩:=qbr.1 hn;refine⟨⟨(h u qar).1,?_⟩,zum (by simpa using hl) h2 fun x hx=>⟨(h x (qak _ hx)).1,?_⟩⟩
  ·rw[(h u qar).2,zeQ,beq_self_eq_true,cond_true]
  rw[(h x (qak _ hx)).2,zeQ,show(u == x)=false from beq_false_of_ne (fun e=>h1 (e ▸ hx)),cond_false]
theorem zk4(a b:List Int):zcx a b=some (a,b):=by rfl
end Go.Dc
