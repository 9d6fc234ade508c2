/-
 Plain laws: numbers and sets of bits. Conditions: none.
-/
import Derived.Test.YtbjogdohfhdaiaaGreatESJ8
set_option linter.unusedSimpArgs false
set_option linter.unusedVariables false
namespace Go.Dc
open Go Go.Mx Go.Lx
theorem zaH{n:Nat}(h:n<9223372036854775808):w64 (n:Int)=(n:Int):=wrap64 (by omega) (by omega)
theorem zgv{n:Int}(h1:-9223372036854775808≤n)(h2:n<9223372036854775808):w64 n=n:=wrap64 h1 h2
theorem zal{n:Nat}(h:n+1<9223372036854775808):w64 ((n:Int)+1)=((n+1:Nat):Int):=by
 rw[zgv (by omega) (by omega)]; omega
theorem zyn(n:Nat):IntKind.u64.wrap (n:Int)=((n % 18446744073709551616:Nat):Int):=by
 simp only[IntKind.wrap,IntKind.bits,IntKind.signed]; simp
theorem zet{n:Nat}(h:n<18446744073709551616):IntKind.u64.wrap (n:Int)=(n:Int):=by
 rw[zyn,qa6 h]
theorem zA5{a b:Nat}(ha:a<18446744073709551616)(hb:b<18446744073709551616):zfz .u64 (a:Int) (b:Int)=((a &&& b:Nat):Int):=by
 have h:(BitVec.ofInt 64 (a:Int) &&& BitVec.ofInt 64 (b:Int)).toNat=a &&& b:=by
  simp only[qcM,BitVec.toNat_and,BitVec.toNat_ofNat];rw[qa6 ha,qa6 hb]
 show IntKind.u64.wrap ((BitVec.ofInt 64 (a:Int) &&& BitVec.ofInt 64 (b:Int)).toNat:Int)=_;rw[h];exact zet (qb5 Nat.and_le_left ha)
theorem orU{a b:Nat}(ha:a<18446744073709551616)(hb:b<18446744073709551616):orI .u64 (a:Int) (b:Int)=((a ||| b:Nat):Int):=by
 have h:(BitVec.ofInt 64 (a:Int)||| BitVec.ofInt 64 (b:Int)).toNat=a ||| b:=by
  simp only[qcM,BitVec.toNat_or,BitVec.toNat_ofNat];rw[qa6 ha,qa6 hb]
 show IntKind.u64.wrap ((BitVec.ofInt 64 (a:Int)||| BitVec.ofInt 64 (b:Int)).toNat:Int)=_;rw[h];exact zet (qbo (n:=64) ha hb)
def diff(a b:Nat):Nat:=(BitVec.ofNat 64 a &&& ~~~ BitVec.ofNat 64 b).toNat
theorem zg3(a b:Nat):diff a b<18446744073709551616:=(BitVec.ofNat 64 a &&& ~~~ BitVec.ofNat 64 b).isLt
theorem zxU(a b:Nat):zub .u64 (a:Int) (b:Int)=((diff a b:Nat):Int):=by
 show IntKind.u64.wrap ((BitVec.ofInt 64 (a:Int) &&& ~~~ BitVec.ofInt 64 (b:Int)).toNat:Int)=_;rw[qcM,qcM];exact zet (zg3 a b)
theorem zfe{a b i:Nat}(ha:a<18446744073709551616)(hb:b<18446744073709551616):(diff a b).testBit i=(a.testBit i && !b.testBit i):=by
 unfold diff;rw[BitVec.testBit_toNat,BitVec.getLsbD_and,BitVec.getLsbD_not,BitVec.getLsbD_ofNat,BitVec.getLsbD_ofNat];by_cases hi:i<64
 ·simp[hi]
 have:a.testBit i=false:=Nat.testBit_lt_two_pow (qbq ha (qbT (n:=2) (by decide) (show 64≤i by omega)));simp[hi,this]
theorem ztC{v:Nat}(hv:v<64):zmB .u64 1 (v:Int)=some ((2 ^ v:Nat):Int):=by
 unfold zmB;rw[if_pos (by omega)];congr 1
 have h1:min (v:Int).toNat IntKind.u64.bits=v:=by
  rw[show IntKind.u64.bits=64 from rfl,qaK]; exact qb0 (by omega)
 rw[h1,Int.one_mul];have h2:((2:Int) ^ v)=((2 ^ v:Nat):Int):=by simp
 rw[h2];exact zet (qa7 (by decide) hv)
theorem zBg{a v:Nat}(hv:v<64):zhP .u64 (a:Int) (v:Int)=some ((a >>> v:Nat):Int):=by
 unfold zhP;rw[if_pos (by omega)];congr 1
 have h1:min (v:Int).toNat IntKind.u64.bits=v:=by
  rw[show IntKind.u64.bits=64 from rfl,qaK]; exact qb0 (by omega)
 rw[h1,qcl];have h2:((2:Int) ^ v)=((2 ^ v:Nat):Int):=by simp
 rw[h2,Int.fdiv_eq_ediv_of_nonneg _ (qbM _)];rfl
theorem zBN(a v:Nat):((a >>> v) &&& 1)=(a.testBit v).toNat:=by
 rw[Nat.and_one_is_mod,Nat.testBit_eq_decide_div_mod_eq,qcl];have h:=Nat.mod_two_eq_zero_or_one (a / 2 ^ v);rcases h with h | h<;>simp[h]
theorem ztN{a v:Nat}(ha:a<18446744073709551616)(hv:v<64):∃ q:Int,zhP .u64 (a:Int) (v:Int)=some q∧zfz .u64 q 1=((a.testBit v).toNat:Int):=by
 refine⟨_,zBg hv,?_⟩;rw[show(1:Int)=((1:Nat):Int)from rfl,zA5 (qb5 (by rw[qcl]; exact Nat.div_le_self _ _) ha) (by decide),zBN]
variable {α:Type}
theorem zup{xs:List α}{i:Nat}:za3 xs (i:Int)=xs[i]?:=by
 unfold za3;rw[if_pos (qbM i),qaK]
theorem zbd{xs:List α}{i:Nat}(h:i<xs.length):za3 xs (i:Int)=some (xs[i]'h):=by
 rw[zup,qac h]
theorem zga{xs:List α}{i:Nat}{v:α}(h:i<xs.length):zfo xs (i:Int) v=some (xs.set i v):=by
 unfold zfo;rw[if_pos (by omega),qaK]
theorem zd1{b:Nat}{xs ys:List α}(h:(xs.length+ys.length)* b≤70368744177664):zem b xs ys=some (xs ++ ys):=by
 unfold zem;rw[if_pos (by simp only[zai]; omega)]
theorem zdp{b n:Nat}{z:α}(h:n * b≤70368744177664):zen b (n:Int) z=some (List.replicate n z):=by
 have h2:(n:Int)* (b:Int)≤zai:=by
  rw[← qbg]; simp only[zai]; omega
 unfold zen;rw[if_pos ⟨qbM n,h2⟩,qaK]
theorem zhG{b:Nat}{xs:List α}(h:xs.length * b≤70368744177664):ze3 b xs=some xs:=by
 unfold ze3;rw[if_pos (by simp only[zai]; omega)]
theorem zaz{i n:Nat}:decide ((i:Int)<(n:Int))=decide (i<n):=by simp
theorem zaN(n:Nat):((n:Int) - 0+2).toNat=n+2:=by omega
theorem ztu{p0:S_api_Net}(hl:p0.nodes.length≤8):∀(n i:Nat) (acc:List Int),i≤p0.nodes.length→acc.length≤i→p0.nodes.length - i<n →
  zcw p0 n (i:Int) acc=some (acc ++ (p0.nodes.drop i).map (·.zaD))
 | 0,_,_,_,_,h=>absurd h (qap _)
 | n+1,i,acc,h1,h2,h3=>by
  unfold zcw;by_cases hi:i<p0.nodes.length
  ·rw[zaz,decide_eq_true hi,cond_true,zbd hi,qaa,zd1 (by simp; omega),qaa,zal (by omega),
    ztu hl n (i+1) _ hi (by simp; omega) (by omega),qaG hi]
   rw[qbw]; rfl
  rw[zaz,decide_eq_false hi,cond_false,qbu (by omega)];simp
theorem zuz{p0:S_api_Net}(hl:p0.nodes.length≤8):zdG p0=some (p0.nodes.map (·.zaD)):=by
 unfold zdG;rw[zaN];have h:=ztu hl (p0.nodes.length+2) 0 [] (qaC _) (qan _) (by omega);rw[show((0:Nat):Int)=0 from rfl]at h;rw[h];simp
def Pl(n:Nat)(xs:List Nat):Prop:=∀ x∈xs,x<n
def iL(xs:List Nat):List Int:=xs.map (fun x:Nat=>(x:Int))
theorem zao(xs:List Nat):(iL xs).length=xs.length:=by simp[iL]
theorem zvw{xs:List Nat}{i:Nat}(h:i<xs.length):(iL xs)[i]'(by rw[zao]; exact h)=((xs[i]:Nat):Int):=by simp[iL]
theorem zbf{xs:List Nat}{i:Nat}(h:i<xs.length):za3 (iL xs) (i:Int)=some ((xs[i]:Nat):Int):=by
 rw[zbd (by rw[zao]; exact h),zvw h]
theorem zBh{cs:List Int}{ps:List Nat}(hp:Pl cs.length ps)(hl:ps.length≤8):∀(n i:Nat) (acc:List Int),i≤ps.length→acc.length≤i→ps.length - i<n →
  zei (iL ps) cs n (i:Int) acc=some (acc ++ (ps.drop i).map fun p=>cs.getD p 0)
 | 0,_,_,_,_,h=>absurd h (qap _)
 | n+1,i,acc,h1,h2,h3=>by
  unfold zei;rw[zao];by_cases hi:i<ps.length
  ·have hb:ps[i]<cs.length:=hp _ (qat hi)
   rw[zaz,decide_eq_true hi,cond_true,zbf hi,qaa,zbd hb,qaa,zd1 (by simp; omega),qaa,zal (by omega),
    zBh hp hl n (i+1) _ hi (by simp; omega) (by omega),qaG hi]
   rw[qbw,qaL,show cs.getD ps[i] 0=cs[ps[i]] by simp[hb]]; rfl
  rw[zaz,decide_eq_false hi,cond_false,qbu (by omega)];simp
theorem zAN{cs:List Int}{ps:List Nat}(hp:Pl cs.length ps)(hl:ps.length≤8):zgG cs (iL ps)=some (ps.map fun p=>cs.getD p 0):=by
 unfold zgG;rw[zao,zaN];have h:=zBh hp hl (ps.length+2) 0 [] (qaC _) (qan _) (by omega);rw[show((0:Nat):Int)=0 from rfl]at h;rw[h];simp
def zac(xs:List Nat):Nat:=xs.foldr (· * ·) 1
theorem zdj{xs:List Nat}(h:∀ x∈xs,1≤x):1≤zac xs:=by
 induction xs with
 | nil=>exact qan 1
 | cons x xs ih=>exact qbz (h x qao) (ih fun y hy=>h y (qaj _ hy))
theorem zvl{cs:List Nat}(hc:∀ x∈cs,1≤x)(hl:cs.length≤8):∀(n i a:Nat),i≤cs.length→a * zac (cs.drop i)≤65536→cs.length - i<n →
  zcY (iL cs) n (a:Int) (i:Int)=some ((a * zac (cs.drop i):Nat):Int)
 | 0,_,_,_,_,h=>absurd h (qap _)
 | n+1,i,a,h1,h2,h3=>by
  unfold zcY;rw[zao];by_cases hi:i<cs.length
  ·have e:cs.drop i=cs[i]:: cs.drop (i+1):=qaG hi;have e2:a * zac (cs.drop i)=a * cs[i] * zac (cs.drop (i+1)):=by rw[e]; exact(qa4 _ _ _).symm
   rw[e2]at h2;have hq:1≤zac (cs.drop (i+1)):=zdj fun x hx=>hc x (qco hx)
   have hle:a * cs[i]≤65536:=qam (qaZ _ hq) h2
   rw[zaz,decide_eq_true hi,cond_true,zbf hi,qaa,zal (by omega),show((a:Int)* ((cs[i]:Nat):Int))=((a * cs[i]:Nat):Int) by simp,
    zaH (by omega),zvl hc hl n (i+1) _ hi h2 (by omega),e2]
  rw[zaz,decide_eq_false hi,cond_false,qbu (by omega)];simp[zac]
theorem zw5{cs:List Nat}(hc:∀ x∈cs,1≤x)(hl:cs.length≤8)(hp:zac cs≤65536):zd9 (iL cs)=some ((zac cs:Nat):Int):=by
 unfold zd9;rw[zao,zaN];have h:=zvl hc hl (cs.length+2) 0 1 (qaC _) (by simpa using hp) (by omega);rw[show((0:Nat):Int)=0 from rfl,show((1:Nat):Int)=1 from rfl]at h;rw[h];simp
theorem zxR{i n:Nat}(h:i<n):decide ((i:Int)<(n:Int))=true:=decide_eq_true (by omega)
theorem zx2(n:Nat):decide ((n:Int)<(n:Int))=false:=decide_eq_false (by omega)
abbrev zdl:Nat:=4611686018427387903
def zfD:Nat→List Int→Bool
 | _,[]=>true
 | a,c :: cs=>decide (1≤c) && decide (c≤8) && decide (a * c.toNat≤4096) && zfD (a * c.toNat) cs
theorem zjk:∀ {cs:List Int} {a:Nat},zfD a cs=true→∃ ns:List Nat,cs=iL ns∧(∀ c∈ns,1≤c∧c≤8)∧(a≤4096→a * zac ns≤4096)
 | [],a,_=>⟨[],rfl,by simp,fun h=>by simpa [zac]using h⟩
 | c :: cs,a,h=>by
  simp only[zfD,qaf,decide_eq_true_eq]at h;obtain⟨⟨⟨h1,h2⟩,h3⟩,h4⟩:=h;obtain⟨ns,e,g1,g2⟩:=zjk h4;refine⟨c.toNat :: ns,?_,?_,fun _=>?_⟩
  ·rw[e]; simp[iL]; omega
  ·intro d hd;rcases qaz.1 hd with rfl | hd
   ·omega
   exact g1 d hd
  have:=g2 h3;show a * (c.toNat * zac ns)≤4096;rw[← qa4]; exact this
theorem zgn:∀ {ns:List Nat} {a:Nat},(∀ c∈ns,1≤c∧c≤8)→a * zac ns≤4096→zfD a (iL ns)=true
 | [],a,_,_=>rfl
 | n :: ns,a,h,hp=>by
  have h1:=h n qao;have hp':a * n * zac ns≤4096:=by rw[qa4]; exact hp
  have hpos:1≤zac ns:=zdj fun x hx=>(h x (qaj _ hx)).1
  have hle:a * n≤4096:=qam (qaZ _ hpos) hp';show(decide ((1:Int)≤(n:Int)) && decide ((n:Int)≤8) && decide (a * (n:Int).toNat≤4096) && zfD (a * (n:Int).toNat) (iL ns))=true;rw[qaK,zgn (fun c hc=>h c (qaj _ hc)) hp',decide_eq_true (by omega),decide_eq_true (by omega),decide_eq_true hle];rfl
def zhq:List Int→Nat
 | []=>1
 | c :: cs=>c.toNat * zhq cs
theorem zmd(ns:List Nat):zhq (iL ns)=zac ns:=by
 induction ns with
 | nil=>rfl
 | cons n ns ih=>show(n:Int).toNat * zhq (iL ns)=n * zac ns; rw[ih,qaK]
theorem zoM(cs:List Int)(hl:cs.length≤12):∀(n i:Nat) (a:Nat),a≤4096→i≤cs.length→cs.length - i<n→zc6 cs n ((a:Nat):Int) (i:Int)=some (bif zfD a (cs.drop i)then(((a * zhq (cs.drop i):Nat):Int),true)else(0,false))
 | 0,_,_,_,_,h=>absurd h (qap _)
 | n+1,i,a,ha,hi,hn=>by
  unfold zc6;rcases qa3 i cs.length with h3 | h3
  ·rw[zxR h3,cond_true,zbd h3,qaa,qaG h3];generalize cs[i]=c;simp only[zfD,zhq];by_cases h1:c<1
   ·rw[decide_eq_true h1,cond_true,qaa,cond_true,decide_eq_false (show ¬ 1≤c by omega)];rfl
   rw[decide_eq_false h1,cond_false,decide_eq_true (show 1≤c by omega)];by_cases h2:8<c
   ·rw[decide_eq_true h2,cond_true,qaa,cond_true,decide_eq_false (show ¬ c≤8 by omega)];rfl
   rw[decide_eq_false h2,cond_false,decide_eq_true (show c≤8 by omega)];obtain⟨m,rfl⟩:∃ m:Nat,c=(m:Int):=⟨c.toNat,by omega⟩;have hb:a * m≤4096 * 8:=qbz ha (by omega);rw[← qbg,zaH (by omega),qaa,qaK];by_cases h4:a * m≤4096
   ·rw[show decide ((4096:Int)<((a * m:Nat):Int))=false from decide_eq_false (by omega),cond_false,zal (by omega),zoM cs hl n (i+1) (a * m) h4 h3 (by omega),decide_eq_true h4,qa4];rfl
   rw[show decide ((4096:Int)<((a * m:Nat):Int))=true from decide_eq_true (by omega),cond_true,decide_eq_false h4];rfl
  obtain rfl:i=cs.length:=by omega
  rw[zx2,cond_false,qb7];simp[zfD,zhq]
def zb2(cs:List Int):Bool:=decide (cs.length≤12) && zfD 1 cs
theorem zyw(cs:List Int):zfd cs=some (bif zb2 cs then(((zhq cs:Nat):Int),0)else(0,20)):=by
 unfold zfd zf2 zb2;by_cases hl:cs.length≤12
 ·rw[show decide ((12:Int)<(cs.length:Int))=false from decide_eq_false (by omega),cond_false,zaN];have:=zoM cs hl (cs.length+2) 0 1 (by omega) (qaC _) (by omega);rw[show((1:Nat):Int)=1 from rfl,show((0:Nat):Int)=0 from rfl,qby,qba]at this;rw[this,decide_eq_true hl,qbF];cases zfD 1 cs<;>rfl
 rw[show decide ((12:Int)<(cs.length:Int))=true from decide_eq_true (by omega),cond_true,decide_eq_false hl];rfl
def zxN:Int→List Int→Bool
 | _,[]=>true
 | l,v :: vs=>decide (l<v) && decide (v≤63) && zxN v vs
def zxw:List Int→Bool
 | []=>true
 | w :: ws=>decide (0≤w) && decide (w≤4611686018427387903) && zxw ws
def zz5(x:S_api_Factor):Bool:=zb2 x.zay && decide (x.vars.length=x.zay.length) && decide (x.w.length=zhq x.zay) && zxN (-1) x.vars && zxw x.w
def zas:List Nat→List Nat
 | []=>[]
 | _ :: cs=>zac cs :: zas cs
theorem zfm(cs:List Nat):(zas cs).length=cs.length:=by induction cs with | nil=>rfl | cons c cs ih=>simp[zas,ih]
abbrev noT:S_factor_table×Int:=(⟨⟨[],[],[]⟩,[]⟩,30)
theorem zoV(x:S_api_Factor)(hl:x.vars.length≤12):∀(n i:Nat) (l:Int),i≤x.vars.length→x.vars.length - i<n→zdc x n l (i:Int)=some (bif zxN l (x.vars.drop i)then .go ()else .ret noT)
 | 0,_,_,_,h=>absurd h (qap _)
 | n+1,i,l,hi,hn=>by
  unfold zdc;rcases qa3 i x.vars.length with h3 | h3
  ·rw[zxR h3,cond_true,zbd h3,qaa,qaG h3];generalize x.vars[i]=v;simp only[zxN];by_cases h1:v≤l
   ·rw[decide_eq_true h1,cond_true,qaa,cond_true,decide_eq_false (show ¬ l<v by omega)];rfl
   rw[decide_eq_false h1,cond_false,qaa,decide_eq_true (show l<v by omega)];by_cases h2:63<v
   ·rw[decide_eq_true h2,cond_true,decide_eq_false (show ¬ v≤63 by omega)];rfl
   rw[decide_eq_false h2,cond_false,decide_eq_true (show v≤63 by omega),zal (by omega),zoV x hl n (i+1) v h3 (by omega)];rfl
  obtain rfl:i=x.vars.length:=by omega
  rw[zx2,cond_false,qb7];rfl
theorem zpi(x:S_api_Factor)(hl:x.w.length≤4096):∀(n i:Nat),i≤x.w.length→x.w.length - i<n→zda x n (i:Int)=some (bif zxw (x.w.drop i)then .go ()else .ret noT)
 | 0,_,_,h=>absurd h (qap _)
 | n+1,i,hi,hn=>by
  unfold zda;rcases qa3 i x.w.length with h3 | h3
  ·rw[zxR h3,cond_true,zbd h3,qaa,qaG h3];generalize x.w[i]=v;simp only[zxw];by_cases h1:v<0
   ·rw[decide_eq_true h1,cond_true,qaa,cond_true,decide_eq_false (show ¬ 0≤v by omega)];rfl
   rw[decide_eq_false h1,cond_false,qaa,decide_eq_true (show 0≤v by omega)];by_cases h2:4611686018427387903<v
   ·rw[decide_eq_true h2,cond_true,decide_eq_false (show ¬ v≤4611686018427387903 by omega)];rfl
   rw[decide_eq_false h2,cond_false,decide_eq_true (show v≤4611686018427387903 by omega),zal (by omega),zpi x hl n (i+1) h3 (by omega)];rfl
  obtain rfl:i=x.w.length:=by omega
  rw[zx2,cond_false,qb7];rfl
theorem zgu{ns:List Nat}(h:∀ c∈ns,1≤c):∀ k,zac (ns.drop k)≤zac ns:=by
 induction ns with
 | nil=>intro k; simp
 | cons n ns ih=>
  intro k;cases k with
  | zero=>exact qan _
  | succ k=>
   have h1:=ih (fun c hc=>h c (qaj _ hc)) k;have h2:=h n qao;show zac (ns.drop k)≤n * zac ns;exact qam h1 (qcC _ h2)
theorem zsp(a b:List Nat):iL (a ++ b)=iL a ++ iL b:=by simp[iL]
theorem zhh(k:Nat):iL (List.replicate k 0)=List.replicate k 0:=by simp[iL]
theorem zkO(x:S_api_Factor){ns:List Nat}(hx:x.zay=iL ns)(hc:∀ c∈ns,1≤c)(hp:zac ns≤4096)(hl:ns.length≤12):∀(k n:Nat),k≤ns.length→k<n →
  zcg x n ((zac (ns.drop k):Nat):Int) ((k:Int) - 1) (iL (List.replicate k 0 ++ zas (ns.drop k)))=some (iL (zas ns))
 | k,0,_,h=>absurd h (qap _)
 | 0,n+1,_,_=>by
  unfold zcg;rw[show decide ((0:Int)≤((0:Nat):Int) - 1)=false from rfl,cond_false];rfl
 | k+1,n+1,hk,hn=>by
  have ih:=zkO x hx hc hp hl k n (by omega) (by omega);have hk':k<ns.length:=hk;unfold zcg;have e:(((k+1:Nat):Int) - 1)=(k:Int):=by omega
  have hlen:k<(iL (List.replicate (k+1) 0 ++ zas (ns.drop (k+1)))).length:=by rw[zao]; simp; omega
  rw[e,show decide ((0:Int)≤(k:Int))=true from decide_eq_true (by omega),cond_true,zbd hlen,qaa,zga hlen,qaa,hx,zbf hk',qaa];have hd:ns.drop k=ns[k]:: ns.drop (k+1):=qaG hk';have h1:(iL (List.replicate (k+1) 0 ++ zas (ns.drop (k+1)))).set k ((zac (ns.drop (k+1)):Nat):Int)=iL (List.replicate k 0 ++ zas (ns.drop k)):=by
   rw[hd,zsp,zsp,zhh,zhh,List.replicate_succ',qbw,List.set_append_right _ _ (by simp)];simp[zas,iL]
  have h2:((zac (ns.drop (k+1)):Nat):Int)* ((ns[k]:Nat):Int)=((zac (ns.drop k):Nat):Int):=by
   rw[hd,← qbg,qaR]; rfl
  have h3:=zgu hc k;rw[h1,h2,zaH (by omega),zgv (by omega) (by omega)];exact ih
def zrZ(xs:List Int):List Nat:=xs.map Int.toNat
theorem zgI(ns:List Nat):zrZ (iL ns)=ns:=by
 induction ns with
 | nil=>rfl
 | cons n ns ih=>show(n:Int).toNat :: zrZ (iL ns)=n :: ns; rw[ih,qaK]
theorem zia{cs:List Int}(h:zb2 cs=true):∃ ns:List Nat,cs=iL ns∧(∀ c∈ns,1≤c∧c≤8)∧zac ns≤4096∧ns.length≤12:=by
 unfold zb2 at h;simp only[qaf,decide_eq_true_eq]at h;obtain⟨ns,rfl,h1,h2⟩:=zjk h.2;exact⟨ns,rfl,h1,by have:=h2 (by omega); omega,by have:=h.1; rw[zao]at this; exact this⟩
theorem zzK(x:S_api_Factor):zcO x=some (bif zz5 x then(⟨x,iL (zas (zrZ x.zay))⟩,0)else noT):=by
 unfold zcO zz5;rw[zyw,qaa];cases hc:zb2 x.zay with
 | false=>
  rw[cond_false];rfl
 | true=>
  obtain⟨ns,hx,h1,h2,h3⟩:=zia hc;rw[cond_true,show(((((zhq x.zay:Nat):Int),(0:Int)).2 == 0))=true from rfl,cond_true,qbF];by_cases hv:x.vars.length=x.zay.length
  ·rw[show(((x.vars.length:Nat):Int)==((x.zay.length:Nat):Int))=true by rw[hv]; exact beq_self_eq_true _,cond_true,qaa,decide_eq_true hv,qbF];by_cases hw:x.w.length=zhq x.zay
   ·have hw':x.w.length≤4096:=by rw[hw,hx,zmd]; exact h2
    have hl:x.vars.length≤12:=by rw[hv,hx,zao]; exact h3
    rw[show(!(((x.w.length:Nat):Int)==((zhq x.zay:Nat):Int)))=false by rw[hw,beq_self_eq_true]; rfl,cond_false,decide_eq_true hw,qbF,zaN,zaN];have e1:=zoV x hl (x.vars.length+2) 0 (-1) (qaC _) (by omega);have e2:=zpi x hw' (x.w.length+2) 0 (qaC _) (by omega);rw[show((0:Nat):Int)=0 from rfl,qby]at e1 e2;rw[e1,qaa];cases zxN (-1) x.vars with
    | false=>rfl
    | true=>
     rw[cond_true,qbF];simp only;rw[e2,qaa];cases zxw x.w with
     | false=>rfl
     | true=>
      rw[cond_true];simp only;have hlen:x.zay.length=ns.length:=by rw[hx,zao]
      have e3:=zkO x hx (fun c hc=>(h1 c hc).1) h2 h3 ns.length (ns.length+1+1) (qan _) (by omega);rw[qb7]at e3;rw[zdp (by omega),qaa,qaK,hlen,zgv (by omega) (by omega),show((ns.length:Int) - 1 - 0+2).toNat=ns.length+1 by omega];have e4:=zkO x hx (fun c hc=>(h1 c hc).1) h2 h3 ns.length (ns.length+1) (qan _) (by omega);rw[qb7]at e4;rw[show iL (List.replicate ns.length 0 ++ zas [])=List.replicate ns.length 0 by simp[zas,iL],show((zac []:Nat):Int)=1 from rfl]at e4;rw[e4,qaa,cond_true,hx,zgI]
   rw[show(!(((x.w.length:Nat):Int)==((zhq x.zay:Nat):Int)))=true by rw[qbn]; exact beq_false_of_ne (by omega),cond_true,decide_eq_false hw];rfl
  rw[show(((x.vars.length:Nat):Int)==((x.zay.length:Nat):Int))=false from beq_false_of_ne (by omega),cond_false,qaa,cond_true,decide_eq_false hv];rfl
structure Fc where
 vs:List Nat
 cs:List Nat
 ws:List Nat
def Fc.D(f:Fc):S_api_Factor:=⟨iL f.vs,iL f.cs,iL f.ws⟩
structure FcOk (f:Fc):Prop where
 len:f.vs.length=f.cs.length
 le:f.cs.length≤12
 zaD:∀ c∈f.cs,1≤c∧c≤8
 prod:zac f.cs≤4096
 size:f.ws.length=zac f.cs
 inc:f.vs.Pairwise (· < ·)
 var:∀ v∈f.vs,v<64
 num:∀ w∈f.ws,w≤zdl
theorem ztz:∀ {ns:List Nat} {l:Int},ns.Pairwise (· < ·)→(∀ v∈ns,v<64∧l<(v:Int))→zxN l (iL ns)=true
 | [],_,_,_=>rfl
 | n :: ns,l,h1,h2=>by
  have h3:=h2 n qao;obtain⟨h4,h5⟩:=qbf.1 h1;show(decide (l<(n:Int)) && decide ((n:Int)≤63) && zxN (n:Int) (iL ns))=true;rw[decide_eq_true h3.2,decide_eq_true (by omega),ztz h5 fun v hv=>⟨(h2 v (qaj _ hv)).1,by have:=h4 v hv; omega⟩];rfl
theorem ztj:∀ {ns:List Nat},(∀ w∈ns,w≤zdl)→zxw (iL ns)=true
 | [],_=>rfl
 | n :: ns,h=>by
  have h1:n≤4611686018427387903:=h n qao;show(decide (0≤(n:Int)) && decide ((n:Int)≤4611686018427387903) && zxw (iL ns))=true;rw[decide_eq_true (by omega),decide_eq_true (by omega),ztj fun w hw=>h w (qaj _ hw)];rfl
theorem zxh{f:Fc}(h:FcOk f):zz5 f.D=true:=by
 unfold zz5 Fc.D zb2;simp only[zao];rw[decide_eq_true h.le,zgn h.zaD (by have:=h.prod; omega),decide_eq_true h.len,decide_eq_true (by rw[zmd]; exact h.size),ztz h.inc fun v hv=>⟨h.var v hv,by omega⟩,ztj h.num];rfl
def Fc.T(f:Fc):S_factor_table:=⟨f.D,iL (zas f.cs)⟩
theorem zoL{f:Fc}(h:FcOk f):zcO f.D=some (f.T,0):=by
 rw[zzK,zxh h,cond_true,show f.D.zay=iL f.cs from rfl,zgI];rfl
def zmW:List Int→Int→Option Nat
 | [],_=>none
 | x :: xs,v=>bif x == v then some 0 else(zmW xs v).map (· + 1)
def ixZ:Option Nat→Int
 | none=>-1
 | some k=>(k:Int)
theorem zmi:∀ {xs:List Int} {v:Int} {k:Nat},zmW xs v=some k→∃ h:k<xs.length,xs[k]=v
 | x :: xs,v,k,h=>by
  unfold zmW at h;cases hb:(x == v)with
  | true=>
   rw[hb,cond_true]at h;cases h;exact⟨by simp,by simpa using hb⟩
  | false=>
   rw[hb,cond_false]at h;cases hp:zmW xs v with
   | none=>rw[hp]at h; cases h
   | some j=>
    rw[hp]at h;cases h;obtain⟨g1,g2⟩:=zmi hp;exact⟨by simp; omega,by simpa using g2⟩
theorem zlN:∀ {xs:List Int} {v:Int},zmW xs v=none→v ∉ xs
 | [],v,_=>by simp
 | x :: xs,v,h=>by
  unfold zmW at h;cases hb:(x == v)with
  | true=>rw[hb,cond_true]at h; cases h
  | false=>
   rw[hb,cond_false]at h;have h1:zmW xs v=none:=by
    cases hp:zmW xs v with
    | none=>rfl
    | some j=>rw[hp]at h; cases h
   have h2:x≠v:=by simpa using hb
   intro hm;rcases qaz.1 hm with rfl | hm
   ·exact h2 rfl
   exact zlN h1 hm
theorem zo8(xs:List Int)(v:Int)(hl:xs.length<4611686018427387904):∀(n i:Nat),i≤xs.length→xs.length - i<n→zbk xs v n (i:Int)=some (match zmW (xs.drop i) v with | none=>.go ()| some k=>.ret ((i+k:Nat):Int))
 | 0,_,_,h=>absurd h (qap _)
 | n+1,i,hi,hn=>by
  unfold zbk;rcases qa3 i xs.length with h3 | h3
  ·rw[zxR h3,cond_true,zbd h3,qaa,qaG h3];generalize xs[i]=x;unfold zmW;by_cases h:v=x
   ·subst h;rw[beq_self_eq_true,cond_true,cond_true];rfl
   rw[show(v == x)=false from beq_false_of_ne h,show(x == v)=false from beq_false_of_ne (fun e=>h e.symm),cond_false,cond_false,zal (by omega),zo8 xs v hl n (i+1) h3 (by omega)];cases zmW (xs.drop (i+1)) v with
   | none=>rfl
   | some k=>
    simp only[qaU];rw[show i+1+k=i+(k+1) by omega]
  obtain rfl:i=xs.length:=by omega
  rw[zx2,cond_false,qb7];rfl
theorem zwE{xs:List Int}(hl:xs.length<4611686018427387904)(v:Int):zbT xs v=some (ixZ (zmW xs v)):=by
 unfold zbT;have h:=zo8 xs v hl (xs.length+2) 0 (qaC _) (by omega);rw[show((0:Nat):Int)=0 from rfl,qby]at h;rw[zaN,h,qaa];cases zmW xs v with
 | none=>rfl
 | some k=>simp only[qaP]; rfl
theorem FcOk.vl{f:Fc}(h:FcOk f):(iL f.vs).length<4611686018427387904:=by rw[zao,h.len]; have:=h.le; omega
theorem zlU{f:Fc}(h:FcOk f)(v:Int):zaQ f.T v=some (ixZ (zmW (iL f.vs) v)):=by
 unfold zaQ;rw[show f.T.factor.vars=iL f.vs from rfl,zwE h.vl,qaa]
theorem zzm(o:Option Nat):decide ((0:Int)≤ixZ o)=o.isSome:=by
 cases o with
 | none=>rfl
 | some k=>exact decide_eq_true (qbM k)
def pos:List Nat→Nat→Option Nat
 | [],_=>none
 | x :: xs,v=>bif x == v then some 0 else(pos xs v).map (· + 1)
theorem zdR:∀(xs:List Nat) (v:Nat),zmW (iL xs) (v:Int)=pos xs v
 | [],v=>rfl
 | x :: xs,v=>by
  show(bif ((x:Int)==(v:Int))then some 0 else(zmW (iL xs) (v:Int)).map (· + 1))=pos (x :: xs) v;rw[zdR xs v];show _=(bif x == v then some 0 else(pos xs v).map (· + 1));cases hb:(x == v)with
  | true=>
   have:x=v:=by simpa using hb
   subst this;rw[beq_self_eq_true]
  | false=>
   have h1:x≠v:=by simpa using hb
   have h2:((x:Int)==(v:Int))=false:=beq_false_of_ne (by omega);rw[h2]
theorem zcQ{xs:List Nat}{v k:Nat}(h:pos xs v=some k):∃ hk:k<xs.length,xs[k]=v:=by
 rw[← zdR]at h;obtain⟨h1,h2⟩:=zmi h;rw[zao]at h1;refine⟨h1,?_⟩;rw[zvw h1]at h2;omega
theorem zt3{xs:List Nat}{v:Nat}(h:pos xs v=none):v ∉ xs:=by
 rw[← zdR]at h;have:=zlN h;intro hm;exact this (qaB.2 ⟨v,hm,rfl⟩)
theorem zjS{xs:List Nat}{v:Nat}(h:v∈xs):∃ k,pos xs v=some k:=by
 cases hp:pos xs v with
 | none=>exact absurd h (zt3 hp)
 | some k=>exact⟨k,rfl⟩
theorem zfH{xs:List Nat}{i:Nat}(h:i<xs.length):za3 (iL xs) (i:Int)=some ((xs.getD i 0:Nat):Int):=by
 rw[zbf h]; simp[List.getD,h]
theorem zwF(a b:Nat):((a:Int)==(b:Int))=(a == b):=by
 rw[qb4,beq_iff_eq,beq_iff_eq];exact Int.ofNat_inj
def dig:List Nat→Nat→List Nat
 | [],_=>[]
 | _ :: cs,i=>i / zac cs :: dig cs (i % zac cs)
theorem zey:∀(cs:List Nat) (i:Nat),(dig cs i).length=cs.length
 | [],_=>rfl
 | _ :: cs,i=>by simp[dig,zey cs]
def dot:List Nat→List Nat→Nat
 | x :: xs,s :: ss=>x * s+dot xs ss
 | _,_=>0
theorem zkx:∀ {xs ss:List Nat} (ys ts:List Nat),xs.length=ss.length→dot (xs ++ ys) (ss ++ ts)=dot xs ss+dot ys ts
 | [],[],ys,ts,_=>by simp[dot]
 | x :: xs,s :: ss,ys,ts,h=>by
  simp only[qbe,dot];rw[zkx ys ts (by simpa using h)]; omega
 | [],_ :: _,_,_,h=>by simp at h
 | _ :: _,[],_,_,h=>by simp at h
theorem zm8(x s:Nat):dot [x] [s]=x * s:=by simp[dot]
def zb8:List Nat→List Nat→Prop
 | [],[]=>True
 | c :: cs,x :: xs=>x<c∧c≤8∧zb8 cs xs
 | _,_=>False
theorem zb8.len:∀ {cs xs:List Nat},zb8 cs xs→xs.length=cs.length
 | [],[],_=>rfl
 | c :: cs,x :: xs,h=>by simp[h.2.2.len]
theorem zb8.snoc:∀ {cs xs:List Nat} {c x:Nat},zb8 (cs ++ [c]) (xs ++ [x])→xs.length=cs.length→zb8 cs xs∧x<c∧c≤8
 | [],[],c,x,h,_=>⟨qdn,h.1,h.2.1⟩
 | c :: cs,x :: xs,_,_,h,hl=>by
  obtain⟨h1,h2,h3⟩:=h;obtain⟨g1,g2⟩:=h3.snoc (by simpa using hl);exact⟨⟨h1,h2,g1⟩,g2⟩
theorem zbD{cs:List Nat}(h:∀ c∈cs,1≤c∧c≤8):0<zac cs:=zdj fun c hc=>(h c hc).1
theorem zgp:∀ {cs:List Nat} {i:Nat},(∀ c∈cs,1≤c∧c≤8)→i<zac cs→zb8 cs (dig cs i)
 | [],_,_,_=>trivial
 | c :: cs,i,h,hi=>by
  have hc:=h c qao;have hp:=zbD fun d hd=>h d (qaj c hd)
  refine⟨?_,hc.2,zgp (fun d hd=>h d (qaj c hd)) (qbc _ hp)⟩;have h1:i<c * zac cs:=hi;exact qbL (by rw[qaR]; exact h1)
theorem zv3:∀ {cs xs ss:List Nat},zb8 cs xs→(∀ s∈ss,s≤4096)→dot xs ss≤cs.length * 32768
 | [],[],_,_,_=>by simp[dot]
 | c :: cs,x :: xs,[],_,_=>by simp[dot]
 | c :: cs,x :: xs,s :: ss,h,hs=>by
  have h1:=zv3 h.2.2 fun t ht=>hs t (qaj _ ht)
  have h2:=hs s qao;have h3:x * s≤8 * 4096:=qbz (by have:=h.1; have:=h.2.1; omega) h2;simp only[dot,qaS];omega
def nxt:List Nat→List Nat→Option (List Nat)
 | c :: cs,v :: vs=>match nxt cs vs with
  | some vs'=>some (v :: vs')
  | none=>if v+1<c then some ((v+1):: List.replicate vs.length 0)else none
 | _,_=>none
theorem ziv:∀ {cs vs:List Nat} {c v:Nat},vs.length=cs.length→v+1<c→nxt (cs ++ [c]) (vs ++ [v])=some (vs ++ [v+1])
 | [],[],c,v,_,h=>by simp[nxt,h]
 | d :: cs,u :: vs,c,v,hl,h=>by
  simp only[qbe,nxt,ziv (show vs.length=cs.length by simpa using hl) h]
theorem zhd:∀ {cs vs:List Nat} {c v:Nat},vs.length=cs.length→¬ v+1<c→nxt (cs ++ [c]) (vs ++ [v])=(nxt cs vs).map (· ++ [0])
 | [],[],c,v,_,h=>by simp[nxt,h]
 | d :: cs,u :: vs,c,v,hl,h=>by
  simp only[qbe,nxt,zhd (show vs.length=cs.length by simpa using hl) h];cases hn:nxt cs vs with
  | some vs'=>rfl
  | none=>
   simp only[qdh];by_cases hu:u+1<d
   ·rw[if_pos hu,if_pos hu];simp[List.replicate_succ']
   rw[if_neg hu,if_neg hu]; rfl
theorem zkH:∀(cs:List Nat),dig cs 0=List.replicate cs.length 0
 | []=>rfl
 | c :: cs=>by simp[dig,zkH cs,qa0]
theorem zq5:∀ {cs:List Nat} {i:Nat},(∀ c∈cs,1≤c∧c≤8)→i<zac cs→nxt cs (dig cs i)=if i+1<zac cs then some (dig cs (i+1))else none
 | [],i,_,hi=>by
  have:i=0:=by simpa [zac]using hi
  subst this;simp[nxt,zac]
 | c :: cs,i,h,hi=>by
  have hp:=zbD fun d hd=>h d (qaj c hd)
  have hm:=qbc i hp;have ih:=zq5 (fun d hd=>h d (qaj c hd)) hm;have hi':i<c * zac cs:=hi;simp only[dig,nxt,ih];have hdm:=qb3 i (zac cs);generalize hq:i / zac cs=q at *;generalize hr:i % zac cs=r at *;have hprod:zac (c :: cs)=c * zac cs:=rfl;by_cases h1:r+1<zac cs
  ·rw[if_pos h1];have e1:(i+1) / zac cs=q:=by
    rw[← hdm,qbp,Nat.mul_add_div hp,qbP h1,qbt]
   have e2:(i+1) % zac cs=r+1:=by
    rw[← hdm,qbp,Nat.mul_add_mod,qa6 h1]
   have hqc:q<c:=by rw[← hq]; exact qbL (by rw[qaR]; exact hi')
   have h2:i+1<zac (c :: cs):=by
    rw[hprod];have:(q+1)* zac cs≤c * zac cs:=qar _ hqc;rw[qaI,qba,qaR q]at this;omega
   rw[if_pos h2,e1,e2]
  rw[if_neg h1];have hr1:r+1=zac cs:=by omega
  have hi1:i+1=zac cs * (q+1):=by rw[Nat.mul_add,qc8]; omega
  simp only;have h4:(q+1<c)↔(i+1<zac (c :: cs)):=by
   rw[hprod,hi1,qaR c];exact(Nat.mul_lt_mul_left hp).symm
  by_cases h5:q+1<c
  ·rw[if_pos h5,if_pos (h4.1 h5),hi1,Nat.mul_div_cancel_left _ hp,Nat.mul_mod_right,zkH,zey]
  rw[if_neg h5,if_neg (fun h=>h5 (h4.2 h))]
theorem zdQ{xs ys:List Nat}{x:Nat}{k:Nat}(h:xs.length=k):za3 (iL (xs ++ x :: ys)) (k:Int)=some (x:Int):=by
 subst h;rw[zbf (by simp)];simp
theorem zgc{xs ys:List Nat}{x y:Nat}{k:Nat}(h:xs.length=k):zfo (iL (xs ++ x :: ys)) (k:Int) (y:Int)=some (iL (xs ++ y :: ys)):=by
 subst h;rw[zga (by rw[zao]; simp)];simp[iL]
theorem znL{xs:List Nat}{k:Nat}(h:xs.length=k+1):∃ ys y,xs=ys ++ [y]∧ys.length=k:=by
 have hne:xs≠[]:=by rintro rfl; simp at h
 exact⟨xs.dropLast,xs.getLast hne,(List.dropLast_concat_getLast hne).symm,by simp[h]⟩
theorem zoS:∀(k:Nat) (xs cx sx cy sy zs:List Nat) (e:Nat),xs.length=k→cx.length=k→sx.length=k→zb8 cx xs→(∀ s∈sx,s≤4096)→k≤12→e≤1000000 →
  ∃ r,zo0 (iL (cx ++ cy)) (iL (sx ++ sy)) k (iL (xs ++ zs)) ((dot xs sx+e:Nat):Int)=some r∧match nxt cx xs with
   | none=>r.2.2 = -1
   | some xs'=>∃(j:Nat) (v st:Int),r.2.2=(j:Int)∧za3 r.1 (j:Int)=some v∧zfo r.1 (j:Int) (w64 (v+1))=some (iL (xs' ++ zs))∧za3 (iL (sx ++ sy)) (j:Int)=some st∧w64 (r.2.1+st)=((dot xs' sx+e:Nat):Int)
 | 0,xs,cx,sx,cy,sy,zs,e,hx,hc,hs,_,_,_,_=>by
  obtain rfl:xs=[]:=qb9.1 hx;obtain rfl:cx=[]:=qb9.1 hc;exact⟨_,rfl,rfl⟩
 | k+1,xs,cx,sx,cy,sy,zs,e,hx,hc,hs,hb,hsm,hk,he=>by
  obtain⟨xs,x,rfl,lx⟩:=znL hx;obtain⟨cx,c,rfl,lc⟩:=znL hc;obtain⟨sx,s,rfl,ls⟩:=znL hs;obtain⟨hb1,hb2,hb3⟩:=hb.snoc (lx.trans lc.symm);have hd:=zv3 hb1 fun t ht=>hsm t (qcN _ ht)
  have hss:s≤4096:=hsm s (by simp);have hxs:x * s≤8 * 4096:=qbz (by omega) hss;have hlen:cx.length * 32768≤12 * 32768:=qar _ (by omega);simp only[qbw,qbG];unfold zo0;rw[zdQ lx,qaa,zdQ lc,qaa,zgv (by omega) (by omega)];rw[zkx [x] [s] (lx.trans ls.symm),zm8];by_cases h1:x+1<c
  ·rw[show((x:Int)==(c:Int) - 1)=false from beq_false_of_ne (by omega),cond_false,ziv (lx.trans lc.symm) h1];refine⟨_,rfl,k,(x:Int),(s:Int),rfl,zdQ lx,?_,zdQ ls,?_⟩
   ·rw[zal (by omega),zgc lx]; simp
   rw[zkx [x+1] [s] (lx.trans ls.symm),zm8,← qcZ,zaH (by omega),qaI];congr 1; omega
  rw[show((x:Int)==(c:Int) - 1)=true by rw[show(x:Int)=(c:Int) - 1 by omega]; exact beq_self_eq_true _,cond_true,zdQ ls,qaa,show(0:Int)=((0:Nat):Int)from rfl,zgc lx,qaa,← qbg,
   zaH (by omega),show(((dot xs sx+x * s+e:Nat):Int) - ((x * s:Nat):Int))=((dot xs sx+e:Nat):Int) by omega,zaH (by omega),zhd (lx.trans lc.symm) h1]
  obtain⟨r,h2,h3⟩:=zoS k xs cx sx (c :: cy) (s :: sy) (0 :: zs) e lx lc ls hb1 (fun t ht=>hsm t (qcN _ ht)) (by omega) he;refine⟨r,h2,?_⟩;cases hn:nxt cx xs with
  | none=>rw[hn]at h3; exact h3
  | some xs'=>
   rw[hn]at h3;obtain⟨j,v,st,g1,g2,g3,g4,g5⟩:=h3;have hl':xs'.length=sx.length:=by
    have:∀ {cs vs ws:List Nat},nxt cs vs=some ws→vs.length=cs.length→ws.length=vs.length:=by
     intro cs;induction cs with
     | nil=>intro vs ws h _; simp[nxt]at h
     | cons d cs ih=>
      intro vs ws h hl;cases vs with
      | nil=>simp[nxt]at h
      | cons u vs=>
       simp only[nxt]at h;cases hq:nxt cs vs with
       | some vs'=>
        rw[hq]at h;cases h;simp[ih hq (by simpa using hl)]
       | none=>
        rw[hq]at h;simp only at h;split at h
        ·cases h; simp
        cases h
    rw[this hn (lx.trans lc.symm),lx,ls]
   refine⟨j,v,st,g1,g2,by rw[g3]; simp,g4,?_⟩;rw[g5,zkx [0] [s] hl',zm8,qcH,qbt]
def zlx(cs ss:List Nat)(i m:Nat):List (Int×Int×List Int):=(List.range' i m).map fun j:Nat=>((j:Int),((dot (dig cs j) ss:Nat):Int),iL (dig cs j))
theorem zyH{cs ss:List Nat}(hc:∀ c∈cs,1≤c∧c≤8)(hl:cs.length≤12)(hp:zac cs≤4096)(hs:ss.length=cs.length)(hsm:∀ s∈ss,s≤4096):∀(m i n:Nat),i+(m+1)=zac cs→m<n →
  zz7 (iL cs) (iL ss) n (iL (dig cs i)) (i:Int) ((dot (dig cs i) ss:Nat):Int)=some (zlx cs ss i (m+1))
 | m,i,0,_,h=>absurd h (qap _)
 | m,i,n+1,hi,hn=>by
  have hb:=zgp hc (show i<zac cs by omega);obtain⟨r,h1,h2⟩:=zoS cs.length (dig cs i) cs ss [] [] [] 0 (zey _ _) rfl hs hb hsm hl (by omega);simp only[qbi,qbt]at h1 h2;unfold zz7;rw[zao,h1,qaa];rw[zq5 hc (show i<zac cs by omega)]at h2;cases m with
  | zero=>
   rw[if_neg (by omega)]at h2;simp only at h2;rw[h2];rfl
  | succ m=>
   rw[if_pos (by omega)]at h2;simp only at h2;obtain⟨j,v,st,g1,g2,g3,g4,g5⟩:=h2;rw[g1,show decide ((j:Int)<0)=false from decide_eq_false (by omega),cond_false,g2,qaa,g3,qaa,g4,qaa,g5,zal (by omega),zyH hc hl hp hs hsm m (i+1) n (by omega) (by omega)];rfl
theorem zq6(cs:List Nat):∀ a:Nat,(iL cs).foldl (· * ·) (a:Int)=((a * zac cs:Nat):Int):=by
 induction cs with
 | nil=>intro a; simp[iL,zac]
 | cons c cs ih=>
  intro a;show(iL cs).foldl (· * ·) ((a:Int)* (c:Int))=_;rw[← qbg,ih,qa4];rfl
theorem zvc{cs ss:List Nat}(hc:∀ c∈cs,1≤c∧c≤8)(hl:cs.length≤12)(hp:zac cs≤4096)(hs:ss.length=cs.length)(hsm:∀ s∈ss,s≤4096):zz4 (iL cs) (iL ss)=some (zlx cs ss 0 (zac cs)):=by
 have hpos:=zbD hc;unfold zz4 zhf;rw[if_pos (by rw[zao]; omega),qaa,zao,zdp (by omega),qaa];have h:=zq6 cs 1;rw[show((1:Nat):Int)=1 from rfl]at h;rw[h,qba,qaK];obtain⟨m,hm⟩:∃ m,zac cs=m+1:=⟨zac cs - 1,by omega⟩;have e:=zyH hc hl hp hs hsm m 0 (m+1) (by omega) (by omega);have hz:∀(n:Nat) (ss:List Nat),dot (List.replicate n 0) ss=0:=by
  intro n;induction n with
  | zero=>intro ss; simp[dot]
  | succ n ih=>
   intro ss;cases ss with
   | nil=>simp[qa0,dot]
   | cons s ss=>simp[qa0,dot,ih]
 rw[zkH,hz,zhh]at e;rw[hm];exact e
theorem zBO(k:Nat):decide ((0:Int)≤(k:Int))=true:=decide_eq_true (qbM k)
theorem pred_succ(k:Nat):((k+1:Nat):Int) - 1=(k:Int):=by omega
theorem zou{cs:List Nat}(hc:∀ c∈cs,1≤c)(hp:zac cs≤4096):∀ s∈zas cs,s≤4096:=by
 induction cs with
 | nil=>intro s hs; cases hs
 | cons c cs ih=>
  have h1:=hc c qao;have h2:zac cs≤4096:=qam (qcC (zac cs) h1) hp;intro s hs;rcases qaz.1 hs with rfl | hs
  ·exact h2
  exact ih (fun d hd=>hc d (qaj _ hd)) h2 s hs
theorem zb8.drop:∀ {cs xs:List Nat} (k:Nat),zb8 cs xs→zb8 (cs.drop k) (xs.drop k)
 | cs,xs,0,h=>h
 | [],[],k+1,_=>trivial
 | c :: cs,x :: xs,k+1,h=>h.2.2.drop k
theorem zi8:∀ {cs ds:List Nat},zb8 cs ds→dot ds (zas cs)<zac cs
 | [],[],_=>by simp[dot,zac]
 | c :: cs,d :: ds,h=>by
  have h1:=zi8 h.2.2;show d * zac cs+dot ds (zas cs)<c * zac cs;have h2:(d+1)* zac cs≤c * zac cs:=qar _ h.1;rw[qaI,qba]at h2;omega
theorem zg7:∀ {cs:List Nat} {i:Nat},(∀ c∈cs,1≤c∧c≤8)→i<zac cs→dot (dig cs i) (zas cs)=i
 | [],i,_,h=>by
  have:i=0:=by simpa [zac]using h
  subst this; rfl
 | c :: cs,i,hc,h=>by
  have hp:=zbD fun d hd=>hc d (qaj c hd)
  show i / zac cs * zac cs+dot (dig cs (i % zac cs)) (zas cs)=i;rw[zg7 (fun d hd=>hc d (qaj c hd)) (qbc _ hp),qaR];exact qb3 i (zac cs)
theorem zjZ:∀ {cs ds:List Nat},zb8 cs ds→dig cs (dot ds (zas cs))=ds
 | [],[],_=>rfl
 | c :: cs,d :: ds,h=>by
  have h1:=zi8 h.2.2;have hp:0<zac cs:=by omega
  show((d * zac cs+dot ds (zas cs)) / zac cs):: dig cs ((d * zac cs+dot ds (zas cs)) % zac cs)=d :: ds;rw[qaR d,Nat.mul_add_div hp,qbP h1,qbt,Nat.mul_add_mod,qa6 h1,zjZ h.2.2]
def stp:List Nat→List Nat→Nat→Nat
 | v :: vs,_ :: cs,u=>bif v == u then zac cs else stp vs cs u
 | _,_,_=>0
def at_:List Nat→List Nat→Nat→Nat
 | v :: vs,d :: ds,u=>bif v == u then d else at_ vs ds u
 | _,_,_=>0
theorem zkQ:∀ {vs cs:List Nat} {u:Nat},vs.length=cs.length→stp vs cs u=(match pos vs u with | none=>0 | some k=>(zas cs).getD k 0)
 | [],_,u,_=>by simp[stp,pos]
 | v :: vs,[],_,h=>by simp at h
 | v :: vs,c :: cs,u,h=>by
  have ih:=zkQ (u:=u) (show vs.length=cs.length by simpa using h);unfold stp pos;cases hb:(v == u)with
  | true=>rfl
  | false=>
   rw[cond_false,cond_false,ih];cases pos vs u with
   | none=>rfl
   | some k=>simp[zas]
theorem zqS{f:Fc}(hf:FcOk f){vs:List Nat}(hl:vs.length≤100):∀(n i:Nat),i≤vs.length→vs.length - i<n →
  zbq (iL vs) f.T n (i:Int) (iL ((vs.map (stp f.vs f.cs)).take i ++ List.replicate (vs.length - i) 0))=some (iL (vs.map (stp f.vs f.cs)))
 | 0,_,_,h=>absurd h (qap _)
 | n+1,i,hi,hn=>by
  unfold zbq;rw[zao];rcases qa3 i vs.length with h3 | h3
  ·have ih:=zqS hf hl n (i+1) h3 (by omega);have ht:((vs.map (stp f.vs f.cs)).take i).length=i:=by simp; omega
   have e:List.replicate (vs.length - i) 0=0 :: List.replicate (vs.length - (i+1)) 0:=by
    rw[show vs.length - i=(vs.length - (i+1))+1 by omega,qa0]
   have e2:(vs.map (stp f.vs f.cs)).take (i+1)=(vs.map (stp f.vs f.cs)).take i ++ [stp f.vs f.cs vs[i]]:=by
    rw[qcn (by simpa using h3)]; simp
   rw[e2,qbw,qbG]at ih;rw[zxR h3,cond_true,zbf h3,qaa,zlU hf,qaa,zdR,zzm,e];rw[zkQ hf.len]at ih;cases hp:pos f.vs vs[i]with
   | none=>
    rw[hp]at ih;rw[Option.isSome_none,cond_false,qaa,zal (by omega)];exact ih
   | some k=>
    rw[hp]at ih;obtain⟨hk,_⟩:=zcQ hp;rw[Option.isSome_some,cond_true,show ixZ (some k)=(k:Int)from rfl,show f.T.steps=iL (zas f.cs)from rfl,zfH (by rw[zfm,← hf.len]; exact hk),qaa,zdQ ht,qaa,zgc ht,qaa,qaa,zal (by omega)];exact ih
  obtain rfl:i=vs.length:=by omega
  rw[zx2,cond_false,qdm,qcT,qbi,qaW (by simp)]
theorem zxG{f:Fc}(hf:FcOk f){vs:List Nat}(hl:vs.length≤100):zcb f.T (iL vs)=some (iL (vs.map (stp f.vs f.cs))):=by
 unfold zcb;have h:=zqS hf hl (vs.length+2) 0 (qaC _) (by omega);rw[qbW,qbr,qcU,zhh,show((0:Nat):Int)=0 from rfl]at h;rw[zao,zdp (by omega),qaa,zaN,h];rfl
theorem zqK(g h:Nat→Nat):∀(ds vs:List Nat),dot ds (vs.map fun v=>g v+h v)=dot ds (vs.map g)+dot ds (vs.map h)
 | [],_=>by simp[dot]
 | d :: ds,[]=>by simp[dot]
 | d :: ds,v :: vs=>by
  simp only[qaL,dot,zqK g h ds vs,Nat.mul_add];omega
theorem zk1:∀(ds vs:List Nat) (g:Nat→Nat),(∀ v∈vs,g v=0)→dot ds (vs.map g)=0
 | [],_,_,_=>by simp[dot]
 | d :: ds,[],_,_=>by simp[dot]
 | d :: ds,v :: vs,g,h=>by
  simp only[qaL,dot,h v qao,Nat.mul_zero,zk1 ds vs g fun u hu=>h u (qaj _ hu)]
theorem zs8{u p:Nat}:∀ {vs ds:List Nat},vs.Nodup→dot ds (vs.map fun v=>bif u == v then p else 0)=at_ vs ds u * p
 | [],ds,_=>by cases ds<;>simp[dot,at_]
 | v :: vs,[],_=>by simp[dot,at_]
 | v :: vs,d :: ds,h=>by
  obtain⟨h1,h2⟩:=qbh.1 h;simp only[qaL,dot,at_];by_cases hb:u=v
  ·subst hb;rw[beq_self_eq_true,cond_true,cond_true,zk1 ds vs _ (fun w hw=>by rw[show(u == w)=false from beq_false_of_ne (fun e=>h1 (e ▸ hw))]; rfl),qbt]
  rw[show(u == v)=false from beq_false_of_ne hb,show(v == u)=false from beq_false_of_ne (fun e=>hb e.symm),cond_false,cond_false,zs8 h2,Nat.mul_zero,qaP]
theorem zrp:∀ {us cs:List Nat} {u:Nat},u ∉ us→stp us cs u=0
 | [],_,_,_=>by simp[stp]
 | v :: us,[],_,_=>by simp[stp]
 | v :: us,c :: cs,u,h=>by
  unfold stp;rw[show(v == u)=false from beq_false_of_ne (fun e=>h (by rw[e]; exact qao)),cond_false,zrp fun hm=>h (qaj _ hm)]
theorem zsq{vs ds:List Nat}(hv:vs.Nodup):∀ {us cs:List Nat},us.length=cs.length→us.Nodup→dot ds (vs.map (stp us cs))=dot (us.map (at_ vs ds)) (zas cs)
 | [],cs,_,_=>by
  rw[zk1 ds vs _ fun v _=>by simp[stp]];simp[dot]
 | u :: us,[],h,_=>by simp at h
 | u :: us,c :: cs,h,hn=>by
  obtain⟨h1,h2⟩:=qbh.1 hn;have e:vs.map (stp (u :: us) (c :: cs))=vs.map fun v=>(bif u == v then zac cs else 0)+stp us cs v:=by
   refine qbj fun v _=>?_
   rw[show stp (u :: us) (c :: cs) v=bif u == v then zac cs else stp us cs v from rfl];cases hb:(u == v)with
   | true=>
    have:u=v:=by simpa using hb
    subst this;rw[cond_true,cond_true,zrp h1]; rfl
   | false=>
    rw[cond_false,cond_false,qaP]
  rw[e,zqK,zs8 hv,zsq hv (by simpa using h) h2];rfl
theorem za7{vs:List Nat}(h:vs.Pairwise (· < ·)):vs.Nodup:=h.imp fun h=>Nat.ne_of_lt h
def ztF(vs ws:List Nat):List Nat→List Nat→Prop
 | [],[]=>True
 | u :: us,c :: cs=>(u∈vs∧at_ vs ws u=c)∧ztF vs ws us cs
 | _,_=>False
theorem zkt:∀ {vs ws ds:List Nat} {u:Nat},vs.length=ws.length→zb8 ws ds→u∈vs→at_ vs ds u<at_ vs ws u∧at_ vs ws u≤8
 | v :: vs,w :: ws,d :: ds,u,hl,hb,hm=>by
  unfold at_;by_cases h:v=u
  ·subst h;rw[beq_self_eq_true,cond_true,cond_true];exact⟨hb.1,hb.2.1⟩
  ·rw[show(v == u)=false from beq_false_of_ne h,cond_false,cond_false];rcases qaz.1 hm with e | hm
   ·exact absurd e.symm h
   ·exact zkt (by simpa using hl) hb.2.2 hm
 | [],_,_,_,_,_,hm=>by cases hm
 | v :: vs,[],_,_,hl,_,_=>by simp at hl
 | v :: vs,w :: ws,[],_,_,hb,_=>hb.elim
theorem ztF.below{vs ws ds:List Nat}(hl:vs.length=ws.length)(hb:zb8 ws ds):∀ {us cs:List Nat},ztF vs ws us cs→zb8 cs (us.map (at_ vs ds))
 | [],[],_=>trivial
 | u :: us,c :: cs,⟨⟨h1,h2⟩,h3⟩=>by
  have:=zkt hl hb h1;rw[h2]at this;exact⟨this.1,this.2,ztF.below hl hb h3⟩
 | [],_ :: _,h=>h.elim
 | _ :: _,[],h=>h.elim
theorem ztF.mem{vs ws:List Nat}:∀ {us cs:List Nat},ztF vs ws us cs→∀ u∈us,u∈vs
 | [],[],_,_,hu=>by cases hu
 | u :: us,c :: cs,⟨⟨h1,_⟩,h3⟩,w,hw=>by
  rcases qaz.1 hw with rfl | hw
  ·exact h1
  ·exact ztF.mem h3 w hw
 | [],_ :: _,h,_,_=>h.elim
 | _ :: _,[],h,_,_=>h.elim
def Fc.at(f:Fc)(vs ds:List Nat):Nat:=f.ws.getD (dot (f.vs.map (at_ vs ds)) (zas f.cs)) 0
theorem zes(u d:Nat)(us ds:List Nat)(v:Nat):at_ (u :: us) (d :: ds) v=bif u == v then d else at_ us ds v:=rfl
theorem zsB:∀ {vs ds:List Nat} {v k:Nat},pos vs v=some k→at_ vs ds v=ds.getD k 0
 | [],_,_,_,h=>by cases h
 | u :: us,[],v,k,_=>by simp[at_]
 | u :: us,d :: ds,v,k,h=>by
  rw[zes];rw[show pos (u :: us) v=bif u == v then some 0 else(pos us v).map (· + 1)from rfl]at h;cases hb:(u == v)with
  | true=>rw[hb,cond_true]at h; cases h; rw[cond_true]; rfl
  | false=>
   rw[hb,cond_false]at h;cases hp:pos us v with
   | none=>rw[hp]at h; cases h
   | some j=>rw[hp]at h; cases h; rw[cond_false,zsB hp]; rfl
def inB(f g:Fc)(v:Nat):Bool:=decide (v∈f.vs)|| decide (v∈g.vs)
def cdF(f g:Fc)(v:Nat):Nat:=bif decide (v∈f.vs)then at_ f.vs f.cs v else at_ g.vs g.cs v
def uni(f g:Fc):List Nat:=(List.range' 0 64).filter (inB f g)
theorem zpD{f:Fc}(hf:FcOk f){v k:Nat}(hp:pos f.vs v=some k):za3 f.D.zay (ixZ (some k))=some ((at_ f.vs f.cs v:Nat):Int):=by
 obtain⟨hk,_⟩:=zcQ hp;show za3 (iL f.cs) (k:Int)=_;rw[zfH (by rw[← hf.len]; exact hk),zsB hp]
theorem zfO{f g:Fc}(hf:FcOk f)(hg:FcOk g){v:Nat}:v∈uni f g↔v∈f.vs∨v∈g.vs:=by
 unfold uni inB;simp only[qaJ,qcJ,qa5,decide_eq_true_eq];constructor
 ·exact fun h=>h.2
 rintro(h | h)
 ·exact⟨⟨qaC _,by have:=hf.var _ h; omega⟩,.inl h⟩
 exact⟨⟨qaC _,by have:=hg.var _ h; omega⟩,.inr h⟩
theorem zkB(f g:Fc):(uni f g).Pairwise (· < ·):=qbl _ qc0
theorem zyy{f g:Fc}:∀ v∈uni f g,v<64:=by
 intro v hv;have:=(qaJ.1 hv).1;simp only[qcJ]at this;omega
theorem zgS:∀ {a b:List Nat},a.Pairwise (· < ·)→b.Pairwise (· < ·)→(∀ x,x∈a↔x∈b)→a=b
 | [],[],_,_,_=>rfl
 | [],b :: bs,_,_,h=>by have:=(h b).2 qao; simp at this
 | a :: xs,[],_,_,h=>by have:=(h a).1 qao; simp at this
 | a :: xs,b :: bs,ha,hb,h=>by
  obtain⟨ha1,ha2⟩:=qbf.1 ha;obtain⟨hb1,hb2⟩:=qbf.1 hb;have e:a=b:=by
   rcases qaz.1 ((h a).1 qao)with h1 | h1
   ·exact h1
   rcases qaz.1 ((h b).2 qao)with h2 | h2
   ·exact h2.symm
   have:=hb1 a h1; have:=ha1 b h2; omega
  subst e;refine congrArg (a :: ·) (zgS ha2 hb2 fun x=>⟨fun hx=>?_,fun hx=>?_⟩)
  ·rcases qaz.1 ((h x).1 (qaj _ hx))with rfl | h1
   ·have:=ha1 x hx; omega
   exact h1
  rcases qaz.1 ((h x).2 (qaj _ hx))with rfl | h1
  ·have:=hb1 x hx; omega
  exact h1
section
variable {s:List Int}
end
abbrev noF:S_api_Factor:=⟨[],[],[]⟩
structure Dom (u c:List Nat):Prop where
 len:u.length=c.length
 nodup:u.Nodup
 zaD:∀ x∈c,1≤x∧x≤8
 le:c.length≤12
 prod:zac c≤4096
theorem znc{cs:List Nat}(h:zb2 (iL cs)=true):(∀ c∈cs,1≤c∧c≤8)∧zac cs≤4096∧cs.length≤12:=by
 obtain⟨ns,h1,h2⟩:=zia h;have:cs=ns:=by rw[← zgI cs,h1,zgI]
 subst this;exact h2
theorem zi6(c ss:List Nat)(i m:Nat):zlx c ss i (m+1)=((i:Int),((dot (dig c i) ss:Nat):Int),iL (dig c i)):: zlx c ss (i+1) m:=by
 unfold zlx;rw[qcy,qaL]
theorem zgj{h:Nat→Nat}{v:Nat}:∀ {us:List Nat},v∈us→at_ us (us.map h) v=h v
 | [],hm=>by simp at hm
 | u :: us,hm=>by
  rw[qaL,zes];cases hb:(u == v)with
  | true=>rw[cond_true]; rw[beq_iff_eq]at hb; rw[hb]
  | false=>
   rw[cond_false];rcases qaz.1 hm with e | e
   ·rw[e]at hb; simp at hb
   exact zgj e
theorem zof:∀ {vs ds:List Nat} {i:Nat} (hn:vs.Nodup) (h:i<vs.length),at_ vs ds vs[i]=ds.getD i 0
 | v :: vs,[],i,_,_=>by simp[at_]
 | v :: vs,d :: ds,0,_,_=>by rw[zes]; simp
 | v :: vs,d :: ds,i+1,hn,h=>by
  obtain⟨h1,h2⟩:=qbh.1 hn;have hi:i<vs.length:=by simpa using h
  rw[zes,show(v :: vs)[i+1]=vs[i]from rfl,show(v == vs[i])=false from beq_false_of_ne (fun e=>h1 (e ▸ qat hi)),cond_false,zof h2 hi];rfl
theorem zmE{vs ds:List Nat}(hn:vs.Nodup)(hl:vs.length=ds.length):vs.map (at_ vs ds)=ds:=by
 refine qb8 (by simpa using hl) fun i h1 h2=>?_
 rw[qdf,zof hn (by simpa using h1),qah,qac h2];rfl
theorem zvq{vs ws:List Nat}:∀ {us cs:List Nat},us.length=cs.length→us.Nodup→(∀ u∈us,u∈vs∧at_ vs ws u=at_ us cs u)→ztF vs ws us cs
 | [],[],_,_,_=>trivial
 | [],c :: cs,h,_,_=>by simp at h
 | u :: us,[],h,_,_=>by simp at h
 | u :: us,c :: cs,hl,hn,h=>by
  obtain⟨h1,h2⟩:=qbh.1 hn;refine⟨⟨(h u qao).1,?_⟩,zvq (by simpa using hl) h2 fun x hx=>⟨(h x (qaj _ hx)).1,?_⟩⟩
  ·rw[(h u qao).2,zes,beq_self_eq_true,cond_true]
  rw[(h x (qaj _ hx)).2,zes,show(u == x)=false from beq_false_of_ne (fun e=>h1 (e ▸ hx)),cond_false]
def Agr(f g:Fc):Prop:=∀ v,v∈f.vs→v∈g.vs→at_ f.vs f.cs v=at_ g.vs g.cs v
def ucs(f g:Fc):List Nat:=(uni f g).map (cdF f g)
theorem zBc{f g:Fc}{v:Nat}(h:v∈f.vs):cdF f g v=at_ f.vs f.cs v:=by unfold cdF; rw[decide_eq_true h,cond_true]
theorem zA7{f g:Fc}(ha:Agr f g){v:Nat}(h:v∈g.vs):cdF f g v=at_ g.vs g.cs v:=by
 unfold cdF;by_cases h1:v∈f.vs
 ·rw[decide_eq_true h1,cond_true,ha v h1 h]
 rw[decide_eq_false h1,cond_false]
theorem zqZ{f g:Fc}(h:zb2 (iL (ucs f g))=true):Dom (uni f g) (ucs f g):=by
 obtain⟨h1,h2,h3⟩:=znc h;exact⟨by unfold ucs; simp,za7 (zkB f g),h1,h3,h2⟩
def znM(f g:Fc):Bool:=(List.range' 0 (zac (ucs f g))).all fun j=>decide (f.at (uni f g) (dig (ucs f g) j)* g.at (uni f g) (dig (ucs f g) j)≤zdl)
def zqu(f g:Fc):Fc:=⟨uni f g,ucs f g,(List.range' 0 (zac (ucs f g))).map fun j=>f.at (uni f g) (dig (ucs f g) j)* g.at (uni f g) (dig (ucs f g) j)⟩
theorem zmt(a b:List Int):zdm a b=some (a,b):=by rfl
theorem zBL(b:Nat):((b:Int)== 0)=(b == 0):=zwF b 0
theorem zAb{a b:Nat}(hb:¬ b=0)(ha:a≤zdl):ztA .i64 (a:Int) (b:Int)=some ((a / b:Nat):Int):=by
 have h1:a≤4611686018427387903:=ha;have h2:a / b≤a:=Nat.div_le_self a b;unfold ztA;rw[zBL,beq_false_of_ne hb,cond_false,show((a:Int).tdiv (b:Int))=((a / b:Nat):Int)from rfl];exact congrArg some (zaH (n:=a / b) (by omega))
def Fc.get(f:Fc)(j:Nat):Nat:=f.ws.getD j 0
theorem Fc.zvY{f:Fc}(hf:FcOk f)(k:Nat):f.get k≤zdl:=by
 unfold Fc.get;by_cases h:k<f.ws.length
 ·rw[qah,qac h];exact hf.num _ (qat h)
 rw[qah,qaN (by omega)];exact qaC _
theorem zyJ{f:Fc}{i:Nat}(hf:FcOk f)(h:i<zac f.cs):za3 f.D.w (i:Int)=some ((f.get i:Nat):Int):=zfH (by rw[hf.size]; exact h)
def zgR(v:Nat):Nat:=[2,3,1,2,2].getD v 0
theorem zrP{f g:Fc}(hf:FcOk f)(hg:FcOk g)(hc:zb2 (iL (ucs f g))=true)(hk:znM f g=true):FcOk (zqu f g):=by
 have hD:=zqZ hc;refine⟨hD.len,hD.le,hD.zaD,hD.prod,by simp[zqu],zkB f g,zyy,?_⟩;intro x hx;obtain⟨j,hj,rfl⟩:=qaB.1 hx;exact of_decide_eq_true (qbC.1 hk j hj)
section
variable {r4 r6 r8 r10 r12 r14 r16 r18:S_api_Factor}
end
def cof(f:Fc)(us:List Nat):List Nat:=us.map (at_ f.vs f.cs)
structure Sel (f:Fc) (us:List Nat):Prop where
 inc:us.Pairwise (· < ·)
 mem:∀ u∈us,u∈f.vs
theorem ziD:∀ {a b:List Nat},a.Pairwise (· < ·)→b.Pairwise (· < ·)→(∀ x∈a,x∈b)→a.Sublist b
 | [],b,_,_,_=>List.nil_sublist b
 | a :: xs,[],_,_,h=>by have:=h a qao; simp at this
 | a :: xs,b :: bs,ha,hb,h=>by
  obtain⟨ha1,ha2⟩:=qbf.1 ha;obtain⟨hb1,hb2⟩:=qbf.1 hb;rcases qaz.1 (h a qao)with e | h1
  ·subst e;refine(ziD ha2 hb2 fun x hx=>?_).cons_cons a;rcases qaz.1 (h x (qaj _ hx))with e | h2
   ·have:=ha1 x hx; omega
   exact h2
  refine(ziD ha hb2 fun x hx=>?_).cons b;rcases qaz.1 (h x hx)with e | h2
  ·have h3:=hb1 a h1;rcases qaz.1 hx with e2 | h4
   ·omega
   have:=ha1 x h4; omega
  exact h2
theorem zhM:∀ {a b:List Nat},a.Sublist b→(∀ c∈b,1≤c)→zac a≤zac b
 | _,_,.slnil,_=>qan _
 | a,b :: bs,.cons _ h,hb=>by
  have h1:=zhM h fun c hc=>hb c (qaj _ hc)
  have h2:=qbz (hb b qao) (qan (zac bs));show zac a≤b * zac bs;omega
 | a :: xs,_ :: bs,.cons_cons _ h,hb=>qbz (qan a) (zhM h fun c hc=>hb c (qaj _ hc))
theorem zw6{f:Fc}(hf:FcOk f){us:List Nat}(hs:Sel f us):(cof f us).Sublist f.cs:=by
 have h:=(ziD hs.inc hf.inc hs.mem).map (at_ f.vs f.cs)
 rwa [zmE (za7 hf.inc) hf.len]at h
theorem zfR{f:Fc}(hf:FcOk f){us:List Nat}(hs:Sel f us):Dom us (cof f us):=by
 have h:=zw6 hf hs;exact⟨by simp[cof],za7 hs.inc,fun x hx=>hf.zaD x (h.subset hx),qam h.length_le hf.le,qam (zhM h fun c hc=>(hf.zaD c hc).1) hf.prod⟩
theorem zwk{f:Fc}{us:List Nat}(hs:Sel f us):ztF f.vs f.cs us (cof f us):=
 zvq (by simp[cof]) (za7 hs.inc) fun u hu=>⟨hs.mem u hu,by unfold cof; rw[zgj hu]⟩
def ix(f:Fc)(us:List Nat)(i:Nat):Nat:=dot (us.map (at_ f.vs (dig f.cs i))) (zas (cof f us))
theorem zy4{f:Fc}(hf:FcOk f){us:List Nat}(hs:Sel f us){i:Nat}(h:i<zac f.cs):ix f us i<zac (cof f us):=
 zi8 (ztF.below hf.len (zgp hf.zaD h) (zwk hs))
theorem zyP{f:Fc}(hf:FcOk f){us:List Nat}(hs:Sel f us){i:Nat}:dot (dig f.cs i) (f.vs.map (stp us (cof f us)))=ix f us i:=by
 rw[zsq (za7 hf.inc) (by simp[cof]) (za7 hs.inc)]; rfl
def gop(b:Bool)(x y:Nat):Nat:=bif b then max x y else x+y
def zhX(b:Bool)(f:Fc)(us:List Nat):Nat→Nat→List Nat→Option (List Nat)
 | 0,_,l=>some l
 | m+1,i,l=>bif decide (gop b (l.getD (ix f us i) 0) (f.get i)≤zdl)then zhX b f us m (i+1) (l.set (ix f us i) (gop b (l.getD (ix f us i) 0) (f.get i)))else none
theorem zmw{b:Bool}{f:Fc}{us:List Nat}:∀ {m i:Nat} {l l':List Nat},zhX b f us m i l=some l'→l'.length=l.length
 | 0,_,_,_,h=>by cases h; rfl
 | m+1,i,l,l',h=>by
  unfold zhX at h;cases hd:decide (gop b (l.getD (ix f us i) 0) (f.get i)≤zdl)with
  | false=>rw[hd]at h; cases h
  | true=>rw[hd,cond_true]at h; rw[zmw h,qaH]
theorem zoc{b:Bool}{f:Fc}{us:List Nat}:∀ {m i:Nat} {l l':List Nat},(∀ x∈l,x≤zdl)→zhX b f us m i l=some l'→∀ x∈l',x≤zdl
 | 0,_,_,_,hl,h=>by cases h; exact hl
 | m+1,i,l,l',hl,h=>by
  unfold zhX at h;cases hd:decide (gop b (l.getD (ix f us i) 0) (f.get i)≤zdl)with
  | false=>rw[hd]at h; cases h
  | true=>
   rw[hd,cond_true]at h;refine zoc (fun x hx=>?_) h;rcases qbX hx with h1 | h1
   ·exact hl x h1
   rw[h1]; exact of_decide_eq_true hd
theorem zny{f:Fc}(hf:FcOk f){us:List Nat}(hs:Sel f us):us.length≤12:=by
 have:=(ziD hs.inc hf.inc hs.mem).length_le;have:=hf.len; have:=hf.le;omega
theorem zxE{b:Bool}{x y:Nat}(hx:x≤zdl)(hy:y≤zdl):(bif b then zcC (x:Int) (y:Int)else w64 ((x:Int)+(y:Int)))=((gop b x y:Nat):Int):=by
 have h1:x≤4611686018427387903:=hx;have h2:y≤4611686018427387903:=hy;cases b with
 | true=>
  show zcC (x:Int) (y:Int)=((max x y:Nat):Int);unfold zcC;split<;>omega
 | false=>
  show w64 ((x:Int)+(y:Int))=((x+y:Nat):Int);rw[zgv (by omega) (by omega)]; omega
theorem zwO{l:List Nat}(h:∀ x∈l,x≤zdl)(k:Nat):l.getD k 0≤zdl:=by
 by_cases hk:k<l.length
 ·rw[qah,qac hk];exact h _ (qat hk)
 rw[qah,qaN (by omega)];exact qaC _
theorem zBj{xs:List Nat}{k y:Nat}(h:k<xs.length):zfo (iL xs) (k:Int) (y:Int)=some (iL (xs.set k y)):=by
 rw[zga (by rw[zao]; exact h)];simp[iL]
def gat(b:Bool)(f:Fc)(us:List Nat):Option (List Nat):=zhX b f us (zac f.cs) 0 (List.replicate (zac (cof f us)) 0)
theorem zoP{n:Nat}:∀ x∈List.replicate n 0,x≤zdl:=fun x hx=>by rw[(qci.1 hx).2]; exact qaC _
end Go.Dc
