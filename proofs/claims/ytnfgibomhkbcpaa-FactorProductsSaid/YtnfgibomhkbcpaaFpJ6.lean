/-
 Plain laws: numbers and sets of bits. Conditions: none.
-/
import Derived.Test.YtnfgibomhkbcpaaFpJ5
set_option linter.unusedSimpArgs false
set_option linter.unusedVariables false
namespace Go.Dc
open Go Go.Mx Go.Lx
theorem zcX{n:Nat}(h:n<9223372036854775808):w64 (n:Int)=(n:Int):=wrap64 (by omega) (by omega)
theorem zgj{n:Int}(h1:-9223372036854775808≤n)(h2:n<9223372036854775808):w64 n=n:=wrap64 h1 h2
theorem zat{n:Nat}(h:n+1<9223372036854775808):w64 ((n:Int)+1)=((n+1:Nat):Int):=by
 rw[zgj (by omega) (by omega)]; omega
theorem zsU(n:Nat):IntKind.u64.wrap (n:Int)=((n % 18446744073709551616:Nat):Int):=by
 simp only[IntKind.wrap,IntKind.bits,IntKind.signed]; simp
theorem zdq{n:Nat}(h:n<18446744073709551616):IntKind.u64.wrap (n:Int)=(n:Int):=by
 rw[zsU,qbb h]
theorem zvd{a b:Nat}(ha:a<18446744073709551616)(hb:b<18446744073709551616):zof .u64 (a:Int) (b:Int)=((a &&& b:Nat):Int):=by
 have h:(BitVec.ofInt 64 (a:Int) &&& BitVec.ofInt 64 (b:Int)).toNat=a &&& b:=by
  simp only[BitVec.ofInt_natCast,BitVec.toNat_and,BitVec.toNat_ofNat];rw[qbb ha,qbb hb]
 show IntKind.u64.wrap ((BitVec.ofInt 64 (a:Int) &&& BitVec.ofInt 64 (b:Int)).toNat:Int)=_;rw[h];exact zdq (qb7 Nat.and_le_left ha)
theorem zvj{a v:Nat}(hv:v<64):zmO .u64 (a:Int) (v:Int)=some ((a >>> v:Nat):Int):=by
 unfold zmO;rw[if_pos (by omega)];congr 1
 have h1:min (v:Int).toNat IntKind.u64.bits=v:=by
  rw[show IntKind.u64.bits=64 from rfl,qaG]; exact qbO (by omega)
 rw[h1,qbu];have h2:((2:Int) ^ v)=((2 ^ v:Nat):Int):=by simp
 rw[h2,Int.fdiv_eq_ediv_of_nonneg _ (qby _)];rfl
theorem zvi(a v:Nat):((a >>> v) &&& 1)=(a.testBit v).toNat:=by
 rw[Nat.and_one_is_mod,Nat.testBit_eq_decide_div_mod_eq,qbu];have h:=Nat.mod_two_eq_zero_or_one (a / 2 ^ v);rcases h with h | h<;>simp[h]
variable {α:Type}
theorem znm{xs:List α}{i:Nat}:za0 xs (i:Int)=xs[i]?:=by
 unfold za0;rw[if_pos (qby i),qaG]
theorem zbr{xs:List α}{i:Nat}(h:i<xs.length):za0 xs (i:Int)=some (xs[i]'h):=by
 rw[znm,qag h]
theorem zmG{xs:List α}{i:Nat}{v:α}(h:i<xs.length):zgJ xs (i:Int) v=some (xs.set i v):=by
 unfold zgJ;rw[if_pos (by omega),qaG]
theorem zjY{b:Nat}{xs ys:List α}(h:(xs.length+ys.length)* b≤70368744177664):zd6 b xs ys=some (xs ++ ys):=by
 unfold zd6;rw[if_pos (by simp only[zap]; omega)]
theorem zfJ{b n:Nat}{z:α}(h:n * b≤70368744177664):zeu b (n:Int) z=some (List.replicate n z):=by
 have h2:(n:Int)* (b:Int)≤zap:=by
  rw[← qa1]; simp only[zap]; omega
 unfold zeu;rw[if_pos ⟨qby n,h2⟩,qaG]
theorem zhp{b:Nat}{xs:List α}(h:xs.length * b≤70368744177664):zdA b xs=some xs:=by
 unfold zdA;rw[if_pos (by simp only[zap]; omega)]
theorem zrr{i n:Nat}:decide ((i:Int)<(n:Int))=decide (i<n):=by simp
theorem zbg(n:Nat):((n:Int) - 0+2).toNat=n+2:=by omega
def iL(xs:List Nat):List Int:=xs.map (fun x:Nat=>(x:Int))
theorem zaB(xs:List Nat):(iL xs).length=xs.length:=by simp[iL]
theorem zrt{xs:List Nat}{i:Nat}(h:i<xs.length):(iL xs)[i]'(by rw[zaB]; exact h)=((xs[i]:Nat):Int):=by simp[iL]
theorem zcV{xs:List Nat}{i:Nat}(h:i<xs.length):za0 (iL xs) (i:Int)=some ((xs[i]:Nat):Int):=by
 rw[zbr (by rw[zaB]; exact h),zrt h]
def zam(xs:List Nat):Nat:=xs.foldr (· * ·) 1
theorem zkt{xs:List Nat}(h:∀ x∈xs,1≤x):1≤zam xs:=by
 induction xs with
 | nil=>exact qaj 1
 | cons x xs ih=>exact qbC (h x qav) (ih fun y hy=>h y (qao _ hy))
theorem ziT{i n:Nat}(h:i<n):decide ((i:Int)<(n:Int))=true:=decide_eq_true (by omega)
theorem zjd(n:Nat):decide ((n:Int)<(n:Int))=false:=decide_eq_false (by omega)
abbrev zgE:Nat:=4611686018427387903
def zdD:Nat→List Int→Bool
 | _,[]=>true
 | a,c :: cs=>decide (1≤c) && decide (c≤8) && decide (a * c.toNat≤4096) && zdD (a * c.toNat) cs
theorem ziU:∀ {cs:List Int} {a:Nat},zdD a cs=true→∃ ns:List Nat,cs=iL ns∧(∀ c∈ns,1≤c∧c≤8)∧(a≤4096→a * zam ns≤4096)
 | [],a,_=>⟨[],rfl,by simp,fun h=>by simpa [zam]using h⟩
 | c :: cs,a,h=>by
  simp only[zdD,qaf,decide_eq_true_eq]at h;obtain⟨⟨⟨h1,h2⟩,h3⟩,h4⟩:=h;obtain⟨ns,e,g1,g2⟩:=ziU h4;refine⟨c.toNat :: ns,?_,?_,fun _=>?_⟩
  ·rw[e]; simp[iL]; omega
  ·intro d hd;rcases qaM.1 hd with rfl | hd
   ·omega
   exact g1 d hd
  have:=g2 h3;show a * (c.toNat * zam ns)≤4096;rw[← qbT]; exact this
theorem zll:∀ {ns:List Nat} {a:Nat},(∀ c∈ns,1≤c∧c≤8)→a * zam ns≤4096→zdD a (iL ns)=true
 | [],a,_,_=>rfl
 | n :: ns,a,h,hp=>by
  have h1:=h n qav;have hp':a * n * zam ns≤4096:=by rw[qbT]; exact hp
  have hpos:1≤zam ns:=zkt fun x hx=>(h x (qao _ hx)).1
  have hle:a * n≤4096:=qay (qbQ _ hpos) hp';show(decide ((1:Int)≤(n:Int)) && decide ((n:Int)≤8) && decide (a * (n:Int).toNat≤4096) && zdD (a * (n:Int).toNat) (iL ns))=true;rw[qaG,zll (fun c hc=>h c (qao _ hc)) hp',decide_eq_true (by omega),decide_eq_true (by omega),decide_eq_true hle];rfl
def zez:List Int→Nat
 | []=>1
 | c :: cs=>c.toNat * zez cs
theorem zd3(ns:List Nat):zez (iL ns)=zam ns:=by
 induction ns with
 | nil=>rfl
 | cons n ns ih=>show(n:Int).toNat * zez (iL ns)=n * zam ns; rw[ih,qaG]
theorem zoM(cs:List Int)(hl:cs.length≤12):∀(n i:Nat) (a:Nat),a≤4096→i≤cs.length→cs.length - i<n→zb3 cs n ((a:Nat):Int) (i:Int)=some (bif zdD a (cs.drop i)then(((a * zez (cs.drop i):Nat):Int),true)else(0,false))
 | 0,_,_,_,_,h=>absurd h (qax _)
 | n+1,i,a,ha,hi,hn=>by
  unfold zb3;rcases qaR i cs.length with h3 | h3
  ·rw[ziT h3,cond_true,zbr h3,qaa,qan h3];generalize cs[i]=c;simp only[zdD,zez];by_cases h1:c<1
   ·rw[decide_eq_true h1,cond_true,qaa,cond_true,decide_eq_false (show ¬ 1≤c by omega)];rfl
   rw[decide_eq_false h1,cond_false,decide_eq_true (show 1≤c by omega)];by_cases h2:8<c
   ·rw[decide_eq_true h2,cond_true,qaa,cond_true,decide_eq_false (show ¬ c≤8 by omega)];rfl
   rw[decide_eq_false h2,cond_false,decide_eq_true (show c≤8 by omega)];obtain⟨m,rfl⟩:∃ m:Nat,c=(m:Int):=⟨c.toNat,by omega⟩;have hb:a * m≤4096 * 8:=qbC ha (by omega);rw[← qa1,zcX (by omega),qaa,qaG];by_cases h4:a * m≤4096
   ·rw[show decide ((4096:Int)<((a * m:Nat):Int))=false from decide_eq_false (by omega),cond_false,zat (by omega),zoM cs hl n (i+1) (a * m) h4 h3 (by omega),decide_eq_true h4,qbT];rfl
   rw[show decide ((4096:Int)<((a * m:Nat):Int))=true from decide_eq_true (by omega),cond_true,decide_eq_false h4];rfl
  obtain rfl:i=cs.length:=by omega
  rw[zjd,cond_false,qaC];simp[zdD,zez]
def zbv(cs:List Int):Bool:=decide (cs.length≤12) && zdD 1 cs
theorem zrs(cs:List Int):zci cs=some (bif zbv cs then(((zez cs:Nat):Int),0)else(0,20)):=by
 unfold zci zdH zbv;by_cases hl:cs.length≤12
 ·rw[show decide ((12:Int)<(cs.length:Int))=false from decide_eq_false (by omega),cond_false,zbg];have:=zoM cs hl (cs.length+2) 0 1 (by omega) (qaL _) (by omega);rw[show((1:Nat):Int)=1 from rfl,show((0:Nat):Int)=0 from rfl,qaP,qbt]at this;rw[this,decide_eq_true hl,qaH];cases zdD 1 cs<;>rfl
 rw[show decide ((12:Int)<(cs.length:Int))=true from decide_eq_true (by omega),cond_true,decide_eq_false hl];rfl
theorem zlA(cs:List Int)(hl:cs.length≤12):∀(n i:Nat) (a:Nat),a≤4096→i≤cs.length→cs.length - i<n→zcJ cs n ((a:Nat):Int) (i:Int)=some (bif zdD a (cs.drop i)then .go ()else .ret false)
 | 0,_,_,_,_,h=>absurd h (qax _)
 | n+1,i,a,ha,hi,hn=>by
  unfold zcJ;rcases qaR i cs.length with h3 | h3
  ·rw[ziT h3,cond_true,zbr h3,qaa,qan h3];generalize cs[i]=c;simp only[zdD];by_cases h1:c<1
   ·rw[decide_eq_true h1,cond_true,qaa,cond_true,decide_eq_false (show ¬ 1≤c by omega)];rfl
   rw[decide_eq_false h1,cond_false,decide_eq_true (show 1≤c by omega)];by_cases h2:8<c
   ·rw[decide_eq_true h2,qaa,cond_true,decide_eq_false (show ¬ c≤8 by omega)];rfl
   rw[decide_eq_false h2,qaa,cond_false,decide_eq_true (show c≤8 by omega),qaa];obtain⟨m,rfl⟩:∃ m:Nat,c=(m:Int):=⟨c.toNat,by omega⟩;have hb:a * m≤4096 * 8:=qbC ha (by omega);rw[← qa1,zcX (by omega),qaG];by_cases h4:a * m≤4096
   ·rw[show decide ((4096:Int)<((a * m:Nat):Int))=false from decide_eq_false (by omega),cond_false,zat (by omega),zlA cs hl n (i+1) (a * m) h4 h3 (by omega),decide_eq_true h4];rfl
   rw[show decide ((4096:Int)<((a * m:Nat):Int))=true from decide_eq_true (by omega),cond_true,decide_eq_false h4];rfl
  obtain rfl:i=cs.length:=by omega
  rw[zjd,cond_false,qaC];simp[zdD]
theorem zkK(cs:List Int):zcB cs=some (zbv cs):=by
 unfold zcB zbv;by_cases hl:cs.length≤12
 ·rw[show decide ((12:Int)<(cs.length:Int))=false from decide_eq_false (by omega),cond_false,zbg];have:=zlA cs hl (cs.length+2) 0 1 (by omega) (qaL _) (by omega);rw[show((1:Nat):Int)=1 from rfl,show((0:Nat):Int)=0 from rfl,qaP]at this;rw[this,decide_eq_true hl,qaH];cases zdD 1 cs<;>rfl
 rw[show decide ((12:Int)<(cs.length:Int))=true from decide_eq_true (by omega),cond_true,decide_eq_false hl];rfl
theorem zmF(cs:List Int)(hl:cs.length≤12):∀(n i:Nat) (a:Nat),a≤4096→zdD a (cs.drop i)=true→i≤cs.length→cs.length - i<n→zdb cs n ((a:Nat):Int) (i:Int)=some (((a * zez (cs.drop i):Nat):Int))
 | 0,_,_,_,_,_,h=>absurd h (qax _)
 | n+1,i,a,ha,hc,hi,hn=>by
  unfold zdb;rcases qaR i cs.length with h3 | h3
  ·rw[qan h3]at hc ⊢;rw[ziT h3,cond_true,zbr h3,qaa];simp only[zdD,zez,qaf,decide_eq_true_eq]at hc ⊢;obtain⟨⟨⟨h1,h2⟩,h4⟩,h5⟩:=hc;obtain⟨m,hm⟩:∃ m:Nat,cs[i]=(m:Int):=⟨cs[i].toNat,by omega⟩;rw[hm,qaG]at h4 h5 ⊢;rw[← qa1,zcX (by omega),zat (by omega),zmF cs hl n (i+1) (a * m) h4 h5 h3 (by omega),qbT]
  obtain rfl:i=cs.length:=by omega
  rw[zjd,cond_false,qaC];simp[zez]
theorem zki{cs:List Int}(h:zbv cs=true):zdK cs=some ((zez cs:Nat):Int):=by
 unfold zbv at h;simp only[qaf,decide_eq_true_eq]at h;unfold zdK;rw[zbg];have:=zmF cs h.1 (cs.length+2) 0 1 (by omega) (by rw[qaP]; exact h.2) (qaL _) (by omega);rw[show((1:Nat):Int)=1 from rfl,show((0:Nat):Int)=0 from rfl,qaP,qbt]at this;rw[this];rfl
def znS:Int→List Int→Bool
 | _,[]=>true
 | l,v :: vs=>decide (l<v) && decide (v≤63) && znS v vs
def zoh:List Int→Bool
 | []=>true
 | w :: ws=>decide (0≤w) && decide (w≤4611686018427387903) && zoh ws
def zkn(x:S_api_Factor):Bool:=zbv x.cards && decide (x.vars.length=x.cards.length) && decide (x.w.length=zez x.cards) && znS (-1) x.vars && zoh x.w
def zbu:List Nat→List Nat
 | []=>[]
 | _ :: cs=>zam cs :: zbu cs
theorem znH(cs:List Nat):(zbu cs).length=cs.length:=by induction cs with | nil=>rfl | cons c cs ih=>simp[zbu,ih]
abbrev noT:S_factor_table×Int:=(⟨⟨[],[],[]⟩,[]⟩,30)
theorem zon(x:S_api_Factor)(hl:x.vars.length≤12):∀(n i:Nat) (l:Int),i≤x.vars.length→x.vars.length - i<n→zb0 x n l (i:Int)=some (bif znS l (x.vars.drop i)then .go ()else .ret noT)
 | 0,_,_,_,h=>absurd h (qax _)
 | n+1,i,l,hi,hn=>by
  unfold zb0;rcases qaR i x.vars.length with h3 | h3
  ·rw[ziT h3,cond_true,zbr h3,qaa,qan h3];generalize x.vars[i]=v;simp only[znS];by_cases h1:v≤l
   ·rw[decide_eq_true h1,cond_true,qaa,cond_true,decide_eq_false (show ¬ l<v by omega)];rfl
   rw[decide_eq_false h1,cond_false,qaa,decide_eq_true (show l<v by omega)];by_cases h2:63<v
   ·rw[decide_eq_true h2,cond_true,decide_eq_false (show ¬ v≤63 by omega)];rfl
   rw[decide_eq_false h2,cond_false,decide_eq_true (show v≤63 by omega),zat (by omega),zon x hl n (i+1) v h3 (by omega)];rfl
  obtain rfl:i=x.vars.length:=by omega
  rw[zjd,cond_false,qaC];rfl
theorem zps(x:S_api_Factor)(hl:x.w.length≤4096):∀(n i:Nat),i≤x.w.length→x.w.length - i<n→zb6 x n (i:Int)=some (bif zoh (x.w.drop i)then .go ()else .ret noT)
 | 0,_,_,h=>absurd h (qax _)
 | n+1,i,hi,hn=>by
  unfold zb6;rcases qaR i x.w.length with h3 | h3
  ·rw[ziT h3,cond_true,zbr h3,qaa,qan h3];generalize x.w[i]=v;simp only[zoh];by_cases h1:v<0
   ·rw[decide_eq_true h1,cond_true,qaa,cond_true,decide_eq_false (show ¬ 0≤v by omega)];rfl
   rw[decide_eq_false h1,cond_false,qaa,decide_eq_true (show 0≤v by omega)];by_cases h2:4611686018427387903<v
   ·rw[decide_eq_true h2,cond_true,decide_eq_false (show ¬ v≤4611686018427387903 by omega)];rfl
   rw[decide_eq_false h2,cond_false,decide_eq_true (show v≤4611686018427387903 by omega),zat (by omega),zps x hl n (i+1) h3 (by omega)];rfl
  obtain rfl:i=x.w.length:=by omega
  rw[zjd,cond_false,qaC];rfl
theorem zeI{ns:List Nat}(h:∀ c∈ns,1≤c):∀ k,zam (ns.drop k)≤zam ns:=by
 induction ns with
 | nil=>intro k; simp
 | cons n ns ih=>
  intro k;cases k with
  | zero=>exact qaj _
  | succ k=>
   have h1:=ih (fun c hc=>h c (qao _ hc)) k;have h2:=h n qav;show zam (ns.drop k)≤n * zam ns;exact qay h1 (Nat.le_mul_of_pos_left _ h2)
theorem zm2(a b:List Nat):iL (a ++ b)=iL a ++ iL b:=by simp[iL]
theorem zg9(k:Nat):iL (List.replicate k 0)=List.replicate k 0:=by simp[iL]
theorem zmq(x:S_api_Factor){ns:List Nat}(hx:x.cards=iL ns)(hc:∀ c∈ns,1≤c)(hp:zam ns≤4096)(hl:ns.length≤12):∀(k n:Nat),k≤ns.length→k<n →
  zbF x n ((zam (ns.drop k):Nat):Int) ((k:Int) - 1) (iL (List.replicate k 0 ++ zbu (ns.drop k)))=some (iL (zbu ns))
 | k,0,_,h=>absurd h (qax _)
 | 0,n+1,_,_=>by
  unfold zbF;rw[show decide ((0:Int)≤((0:Nat):Int) - 1)=false from rfl,cond_false];rfl
 | k+1,n+1,hk,hn=>by
  have ih:=zmq x hx hc hp hl k n (by omega) (by omega);have hk':k<ns.length:=hk;unfold zbF;have e:(((k+1:Nat):Int) - 1)=(k:Int):=by omega
  have hlen:k<(iL (List.replicate (k+1) 0 ++ zbu (ns.drop (k+1)))).length:=by rw[zaB]; simp; omega
  rw[e,show decide ((0:Int)≤(k:Int))=true from decide_eq_true (by omega),cond_true,zbr hlen,qaa,zmG hlen,qaa,hx,zcV hk',qaa];have hd:ns.drop k=ns[k]:: ns.drop (k+1):=qan hk';have h1:(iL (List.replicate (k+1) 0 ++ zbu (ns.drop (k+1)))).set k ((zam (ns.drop (k+1)):Nat):Int)=iL (List.replicate k 0 ++ zbu (ns.drop k)):=by
   rw[hd,zm2,zm2,zg9,zg9,qcg,qaV,List.set_append_right _ _ (by simp)];simp[zbu,iL]
  have h2:((zam (ns.drop (k+1)):Nat):Int)* ((ns[k]:Nat):Int)=((zam (ns.drop k):Nat):Int):=by
   rw[hd,← qa1,qbD]; rfl
  have h3:=zeI hc k;rw[h1,h2,zcX (by omega),zgj (by omega) (by omega)];exact ih
def zp6(xs:List Int):List Nat:=xs.map Int.toNat
theorem zgh(ns:List Nat):zp6 (iL ns)=ns:=by
 induction ns with
 | nil=>rfl
 | cons n ns ih=>show(n:Int).toNat :: zp6 (iL ns)=n :: ns; rw[ih,qaG]
theorem zeH{cs:List Int}(h:zbv cs=true):∃ ns:List Nat,cs=iL ns∧(∀ c∈ns,1≤c∧c≤8)∧zam ns≤4096∧ns.length≤12:=by
 unfold zbv at h;simp only[qaf,decide_eq_true_eq]at h;obtain⟨ns,rfl,h1,h2⟩:=ziU h.2;exact⟨ns,rfl,h1,by have:=h2 (by omega); omega,by have:=h.1; rw[zaB]at this; exact this⟩
theorem zpb(x:S_api_Factor):zax x=some (bif zkn x then(⟨x,iL (zbu (zp6 x.cards))⟩,0)else noT):=by
 unfold zax zkn;rw[zrs,qaa];cases hc:zbv x.cards with
 | false=>
  rw[cond_false];rfl
 | true=>
  obtain⟨ns,hx,h1,h2,h3⟩:=zeH hc;rw[cond_true,show(((((zez x.cards:Nat):Int),(0:Int)).2 == 0))=true from rfl,cond_true,qaH];by_cases hv:x.vars.length=x.cards.length
  ·rw[show(((x.vars.length:Nat):Int)==((x.cards.length:Nat):Int))=true by rw[hv]; exact beq_self_eq_true _,cond_true,qaa,decide_eq_true hv,qaH];by_cases hw:x.w.length=zez x.cards
   ·have hw':x.w.length≤4096:=by rw[hw,hx,zd3]; exact h2
    have hl:x.vars.length≤12:=by rw[hv,hx,zaB]; exact h3
    rw[show(!(((x.w.length:Nat):Int)==((zez x.cards:Nat):Int)))=false by rw[hw,beq_self_eq_true]; rfl,cond_false,decide_eq_true hw,qaH,zbg,zbg];have e1:=zon x hl (x.vars.length+2) 0 (-1) (qaL _) (by omega);have e2:=zps x hw' (x.w.length+2) 0 (qaL _) (by omega);rw[show((0:Nat):Int)=0 from rfl,qaP]at e1 e2;rw[e1,qaa];cases znS (-1) x.vars with
    | false=>rfl
    | true=>
     rw[cond_true,qaH];simp only;rw[e2,qaa];cases zoh x.w with
     | false=>rfl
     | true=>
      rw[cond_true];simp only;have hlen:x.cards.length=ns.length:=by rw[hx,zaB]
      have e3:=zmq x hx (fun c hc=>(h1 c hc).1) h2 h3 ns.length (ns.length+1+1) (qaj _) (by omega);rw[qaC]at e3;rw[zfJ (by omega),qaa,qaG,hlen,zgj (by omega) (by omega),show((ns.length:Int) - 1 - 0+2).toNat=ns.length+1 by omega];have e4:=zmq x hx (fun c hc=>(h1 c hc).1) h2 h3 ns.length (ns.length+1) (qaj _) (by omega);rw[qaC]at e4;rw[show iL (List.replicate ns.length 0 ++ zbu [])=List.replicate ns.length 0 by simp[zbu,iL],show((zam []:Nat):Int)=1 from rfl]at e4;rw[e4,qaa,cond_true,hx,zgh]
   rw[show(!(((x.w.length:Nat):Int)==((zez x.cards:Nat):Int)))=true by rw[qbs]; exact beq_false_of_ne (by omega),cond_true,decide_eq_false hw];rfl
  rw[show(((x.vars.length:Nat):Int)==((x.cards.length:Nat):Int))=false from beq_false_of_ne (by omega),cond_false,qaa,cond_true,decide_eq_false hv];rfl
theorem zmZ(x:S_api_Factor)(hl:x.vars.length≤12):∀(n i:Nat) (l:Int),((i=0∧l = -1)∨∃ h:i - 1<x.vars.length,0<i∧l=x.vars[i - 1]∧0≤l)→i≤x.vars.length→x.vars.length - i<n→zcm x n (i:Int)=some (bif znS l (x.vars.drop i)then .go ()else .ret false)
 | 0,_,_,_,_,h=>absurd h (qax _)
 | n+1,i,l,hil,hi,hn=>by
  unfold zcm;rcases qaR i x.vars.length with h3 | h3
  ·obtain⟨v,hv⟩:∃ v,x.vars[i]=v:=⟨_,rfl⟩;rw[ziT h3,cond_true,zbr h3,qaa,qan h3,hv];simp only[znS];have hl0:-1≤l:=by rcases hil with⟨_,h⟩| ⟨_,_,_,h⟩<;> omega
   by_cases h1:v<0
   ·rw[decide_eq_true h1,cond_true,qaa,cond_true,decide_eq_false (show ¬ l<v by omega)];rfl
   rw[decide_eq_false h1,cond_false];by_cases h2:63<v
   ·rw[decide_eq_true h2,cond_true,qaa,cond_true,decide_eq_false (show ¬ v≤63 by omega),Bool.and_false];rfl
   rw[decide_eq_false h2,cond_false,decide_eq_true (show v≤63 by omega),qb5];have fin:∀ b:Bool,b=decide (v≤l)→(bif b then some (Out.ret false)else zcm x n (w64 ((i:Int)+1)))=some (bif decide (l<v) && znS v (x.vars.drop (i+1))then .go ()else .ret false):=by
    intro b hb;subst hb;by_cases h4:v≤l
    ·rw[decide_eq_true h4,cond_true,decide_eq_false (show ¬ l<v by omega)];rfl
    rw[decide_eq_false h4,cond_false,decide_eq_true (show l<v by omega),zat (by omega),qaH];exact zmZ x hl n (i+1) v (.inr ⟨by simpa using h3,by omega,by simp[hv],by omega⟩) h3 (by omega)
   rcases hil with⟨rfl,rfl⟩| ⟨h5,h6,h7,h8⟩
   ·rw[show decide ((0:Int)<((0:Nat):Int))=false from rfl,cond_false,qaa];exact fin false (decide_eq_false (by omega)).symm
   rw[show decide ((0:Int)<(i:Int))=true from decide_eq_true (by omega),cond_true,zgj (by omega) (by omega),show((i:Int) - 1)=((i - 1:Nat):Int) by omega,zbr h5,qaa,qaa,← h7];exact fin _ rfl
  obtain rfl:i=x.vars.length:=by omega
  rw[zjd,cond_false,qaC];rfl
theorem zm0(x:S_api_Factor)(hl:x.w.length≤4096):∀(n i:Nat),i≤x.w.length→x.w.length - i<n→zcP x n (i:Int)=some (bif zoh (x.w.drop i)then .go ()else .ret false)
 | 0,_,_,h=>absurd h (qax _)
 | n+1,i,hi,hn=>by
  unfold zcP;rcases qaR i x.w.length with h3 | h3
  ·rw[ziT h3,cond_true,zbr h3,qaa,qan h3];generalize x.w[i]=v;simp only[zoh];by_cases h1:v<0
   ·rw[decide_eq_true h1,cond_true,qaa,cond_true,decide_eq_false (show ¬ 0≤v by omega)];rfl
   rw[decide_eq_false h1,cond_false,qaa,decide_eq_true (show 0≤v by omega)];by_cases h2:4611686018427387903<v
   ·rw[decide_eq_true h2,cond_true,decide_eq_false (show ¬ v≤4611686018427387903 by omega)];rfl
   rw[decide_eq_false h2,cond_false,decide_eq_true (show v≤4611686018427387903 by omega),zat (by omega),zm0 x hl n (i+1) h3 (by omega)];rfl
  obtain rfl:i=x.w.length:=by omega
  rw[zjd,cond_false,qaC];rfl
theorem zgU(x:S_api_Factor):zdg x=some (zkn x):=by
 unfold zdg zkn;rw[zkK,qaa];cases hc:zbv x.cards with
 | false=>rw[cond_false]; rfl
 | true=>
  obtain⟨ns,hx,h1,h2,h3⟩:=zeH hc;rw[cond_true,qaH];by_cases hv:x.vars.length=x.cards.length
  ·rw[show(((x.vars.length:Nat):Int)==((x.cards.length:Nat):Int))=true by rw[hv]; exact beq_self_eq_true _,cond_true,zki hc,qaa,qaa,decide_eq_true hv,qaH];by_cases hw:x.w.length=zez x.cards
   ·have hw':x.w.length≤4096:=by rw[hw,hx,zd3]; exact h2
    have hl:x.vars.length≤12:=by rw[hv,hx,zaB]; exact h3
    rw[show(!(((x.w.length:Nat):Int)==((zez x.cards:Nat):Int)))=false by rw[hw,beq_self_eq_true]; rfl,cond_false,decide_eq_true hw,qaH,zbg,zbg];have e1:=zmZ x hl (x.vars.length+2) 0 (-1) (.inl ⟨rfl,rfl⟩) (qaL _) (by omega);have e2:=zm0 x hw' (x.w.length+2) 0 (qaL _) (by omega);rw[show((0:Nat):Int)=0 from rfl,qaP]at e1 e2;rw[e1,qaa];cases znS (-1) x.vars with
    | false=>rfl
    | true=>
     rw[cond_true,qaH];simp only;rw[e2,qaa];cases zoh x.w<;>rfl
   rw[show(!(((x.w.length:Nat):Int)==((zez x.cards:Nat):Int)))=true by rw[qbs]; exact beq_false_of_ne (by omega),cond_true,decide_eq_false hw];rfl
  rw[show(((x.vars.length:Nat):Int)==((x.cards.length:Nat):Int))=false from beq_false_of_ne (by omega),cond_false,qaa,cond_true,decide_eq_false hv];rfl
structure Fc where
 vs:List Nat
 cs:List Nat
 ws:List Nat
def Fc.D(f:Fc):S_api_Factor:=⟨iL f.vs,iL f.cs,iL f.ws⟩
structure FcOk (f:Fc):Prop where
 len:f.vs.length=f.cs.length
 le:f.cs.length≤12
 card:∀ c∈f.cs,1≤c∧c≤8
 prod:zam f.cs≤4096
 size:f.ws.length=zam f.cs
 inc:f.vs.Pairwise (· < ·)
 var:∀ v∈f.vs,v<64
 num:∀ w∈f.ws,w≤zgE
theorem zm1:∀ {vs:List Int} {l:Int},-1≤l→znS l vs=true→∃ ns:List Nat,vs=iL ns∧ns.Pairwise (· < ·)∧∀ v∈ns,v<64∧l<(v:Int)
 | [],l,_,_=>⟨[],rfl,.nil,by simp⟩
 | v :: vs,l,hl,h=>by
  simp only[znS,qaf,decide_eq_true_eq]at h;obtain⟨⟨h1,h2⟩,h3⟩:=h;obtain⟨ns,rfl,g1,g2⟩:=zm1 (by omega) h3;refine⟨v.toNat :: ns,?_,qba.2 ⟨fun u hu=>?_,g1⟩,fun u hu=>?_⟩
  ·simp[iL]; omega
  ·have:=(g2 u hu).2; omega
  rcases qaM.1 hu with rfl | hu
  ·omega
  have:=g2 u hu; omega
theorem zp7:∀ {ns:List Nat} {l:Int},ns.Pairwise (· < ·)→(∀ v∈ns,v<64∧l<(v:Int))→znS l (iL ns)=true
 | [],_,_,_=>rfl
 | n :: ns,l,h1,h2=>by
  have h3:=h2 n qav;obtain⟨h4,h5⟩:=qba.1 h1;show(decide (l<(n:Int)) && decide ((n:Int)≤63) && znS (n:Int) (iL ns))=true;rw[decide_eq_true h3.2,decide_eq_true (by omega),zp7 h5 fun v hv=>⟨(h2 v (qao _ hv)).1,by have:=h4 v hv; omega⟩];rfl
theorem znj:∀ {ws:List Int},zoh ws=true→∃ ns:List Nat,ws=iL ns∧∀ w∈ns,w≤zgE
 | [],_=>⟨[],rfl,by simp⟩
 | w :: ws,h=>by
  simp only[zoh,qaf,decide_eq_true_eq]at h;obtain⟨⟨h1,h2⟩,h3⟩:=h;obtain⟨ns,rfl,g⟩:=znj h3;refine⟨w.toNat :: ns,by simp[iL]; omega,fun u hu=>?_⟩;rcases qaM.1 hu with rfl | hu
  ·unfold zgE; omega
  exact g u hu
theorem zp8:∀ {ns:List Nat},(∀ w∈ns,w≤zgE)→zoh (iL ns)=true
 | [],_=>rfl
 | n :: ns,h=>by
  have h1:n≤4611686018427387903:=h n qav;show(decide (0≤(n:Int)) && decide ((n:Int)≤4611686018427387903) && zoh (iL ns))=true;rw[decide_eq_true (by omega),decide_eq_true (by omega),zp8 fun w hw=>h w (qao _ hw)];rfl
theorem zqE{x:S_api_Factor}(h:zkn x=true):∃ f:Fc,FcOk f∧x=f.D:=by
 unfold zkn at h;simp only[qaf,decide_eq_true_eq]at h;obtain⟨⟨⟨⟨h1,h2⟩,h3⟩,h4⟩,h5⟩:=h;obtain⟨cs,e1,a1,a2,a3⟩:=zeH h1;obtain⟨vs,e2,b1,b2⟩:=zm1 (by omega) h4;obtain⟨ws,e3,c1⟩:=znj h5;obtain⟨xv,xc,xw⟩:=x;simp only at e1 e2 e3 h2 h3;subst e1 e2 e3;rw[zaB,zaB]at h2;rw[zaB,zd3]at h3;exact⟨⟨vs,cs,ws⟩,⟨h2,a3,a1,a2,h3,b1,fun v hv=>(b2 v hv).1,c1⟩,rfl⟩
theorem zlK{f:Fc}(h:FcOk f):zkn f.D=true:=by
 unfold zkn Fc.D zbv;simp only[zaB];rw[decide_eq_true h.le,zll h.card (by have:=h.prod; omega),decide_eq_true h.len,decide_eq_true (by rw[zd3]; exact h.size),zp7 h.inc fun v hv=>⟨h.var v hv,by omega⟩,zp8 h.num];rfl
def Fc.T(f:Fc):S_factor_table:=⟨f.D,iL (zbu f.cs)⟩
theorem zgZ{f:Fc}(h:FcOk f):zax f.D=some (f.T,0):=by
 rw[zpb,zlK h,cond_true,show f.D.cards=iL f.cs from rfl,zgh];rfl
theorem zjE{x:S_api_Factor}(h:zkn x=false):zax x=some noT:=by rw[zpb,h,cond_false]
def zil:List Int→Int→Option Nat
 | [],_=>none
 | x :: xs,v=>bif x == v then some 0 else(zil xs v).map (· + 1)
def oz9:Option Nat→Int
 | none=>-1
 | some k=>(k:Int)
theorem zlh:∀ {xs:List Int} {v:Int} {k:Nat},zil xs v=some k→∃ h:k<xs.length,xs[k]=v
 | x :: xs,v,k,h=>by
  unfold zil at h;cases hb:(x == v)with
  | true=>
   rw[hb,cond_true]at h;cases h;exact⟨by simp,by simpa using hb⟩
  | false=>
   rw[hb,cond_false]at h;cases hp:zil xs v with
   | none=>rw[hp]at h; cases h
   | some j=>
    rw[hp]at h;cases h;obtain⟨g1,g2⟩:=zlh hp;exact⟨by simp; omega,by simpa using g2⟩
theorem zkX:∀ {xs:List Int} {v:Int},zil xs v=none→v ∉ xs
 | [],v,_=>by simp
 | x :: xs,v,h=>by
  unfold zil at h;cases hb:(x == v)with
  | true=>rw[hb,cond_true]at h; cases h
  | false=>
   rw[hb,cond_false]at h;have h1:zil xs v=none:=by
    cases hp:zil xs v with
    | none=>rfl
    | some j=>rw[hp]at h; cases h
   have h2:x≠v:=by simpa using hb
   intro hm;rcases qaM.1 hm with rfl | hm
   ·exact h2 rfl
   exact zkX h1 hm
theorem zo0(xs:List Int)(v:Int)(hl:xs.length<4611686018427387904):∀(n i:Nat),i≤xs.length→xs.length - i<n→zaN xs v n (i:Int)=some (match zil (xs.drop i) v with | none=>.go ()| some k=>.ret ((i+k:Nat):Int))
 | 0,_,_,h=>absurd h (qax _)
 | n+1,i,hi,hn=>by
  unfold zaN;rcases qaR i xs.length with h3 | h3
  ·rw[ziT h3,cond_true,zbr h3,qaa,qan h3];generalize xs[i]=x;unfold zil;by_cases h:v=x
   ·subst h;rw[beq_self_eq_true,cond_true,cond_true];rfl
   rw[show(v == x)=false from beq_false_of_ne h,show(x == v)=false from beq_false_of_ne (fun e=>h e.symm),cond_false,cond_false,zat (by omega),zo0 xs v hl n (i+1) h3 (by omega)];cases zil (xs.drop (i+1)) v with
   | none=>rfl
   | some k=>
    simp only[qaI];rw[show i+1+k=i+(k+1) by omega]
  obtain rfl:i=xs.length:=by omega
  rw[zjd,cond_false,qaC];rfl
theorem zsa{xs:List Int}(hl:xs.length<4611686018427387904)(v:Int):za3 xs v=some (oz9 (zil xs v)):=by
 unfold za3;have h:=zo0 xs v hl (xs.length+2) 0 (qaL _) (by omega);rw[show((0:Nat):Int)=0 from rfl,qaP]at h;rw[zbg,h,qaa];cases zil xs v with
 | none=>rfl
 | some k=>simp only[qaX]; rfl
theorem zpc(x:S_api_Factor)(v:Int)(hl:x.vars.length<4611686018427387904):∀(n i:Nat),i≤x.vars.length→x.vars.length - i<n→zcL x v n (i:Int)=some (match zil (x.vars.drop i) v with | none=>.go ()| some k=>.ret ((i+k:Nat):Int))
 | 0,_,_,h=>absurd h (qax _)
 | n+1,i,hi,hn=>by
  unfold zcL;rcases qaR i x.vars.length with h3 | h3
  ·rw[ziT h3,cond_true,zbr h3,qaa,qan h3];generalize x.vars[i]=y;unfold zil;cases hb:(y == v)with
   | true=>rw[cond_true,cond_true]; rfl
   | false=>
    rw[cond_false,cond_false,zat (by omega),zpc x v hl n (i+1) h3 (by omega)];cases zil (x.vars.drop (i+1)) v with
    | none=>rfl
    | some k=>
     simp only[qaI];rw[show i+1+k=i+(k+1) by omega]
  obtain rfl:i=x.vars.length:=by omega
  rw[zjd,cond_false,qaC];rfl
theorem zst{x:S_api_Factor}(hl:x.vars.length<4611686018427387904)(v:Int):zbS x v=some (oz9 (zil x.vars v)):=by
 unfold zbS;have h:=zpc x v hl (x.vars.length+2) 0 (qaL _) (by omega);rw[show((0:Nat):Int)=0 from rfl,qaP]at h;rw[zbg,h,qaa];cases zil x.vars v with
 | none=>rfl
 | some k=>simp only[qaX]; rfl
theorem FcOk.vl{f:Fc}(h:FcOk f):(iL f.vs).length<4611686018427387904:=by rw[zaB,h.len]; have:=h.le; omega
theorem zkY{f:Fc}(h:FcOk f)(v:Int):zai f.T v=some (oz9 (zil (iL f.vs) v)):=by
 unfold zai;rw[show f.T.factor.vars=iL f.vs from rfl,zsa h.vl,qaa]
theorem zmU{f:Fc}(h:FcOk f)(v:Int):zbS f.D v=some (oz9 (zil (iL f.vs) v)):=zst (x:=f.D) h.vl v
theorem znG(o:Option Nat):decide ((0:Int)≤oz9 o)=o.isSome:=by
 cases o with
 | none=>rfl
 | some k=>exact decide_eq_true (qby k)
theorem zrB(o:Option Nat):decide (oz9 o<(0:Int))=!o.isSome:=by
 cases o with
 | none=>rfl
 | some k=>exact decide_eq_false (by show ¬ (k:Int)<0; omega)
def pos:List Nat→Nat→Option Nat
 | [],_=>none
 | x :: xs,v=>bif x == v then some 0 else(pos xs v).map (· + 1)
theorem zcx:∀(xs:List Nat) (v:Nat),zil (iL xs) (v:Int)=pos xs v
 | [],v=>rfl
 | x :: xs,v=>by
  show(bif ((x:Int)==(v:Int))then some 0 else(zil (iL xs) (v:Int)).map (· + 1))=pos (x :: xs) v;rw[zcx xs v];show _=(bif x == v then some 0 else(pos xs v).map (· + 1));cases hb:(x == v)with
  | true=>
   have:x=v:=by simpa using hb
   subst this;rw[beq_self_eq_true]
  | false=>
   have h1:x≠v:=by simpa using hb
   have h2:((x:Int)==(v:Int))=false:=beq_false_of_ne (by omega);rw[h2]
theorem zfu{xs:List Nat}{v k:Nat}(h:pos xs v=some k):∃ hk:k<xs.length,xs[k]=v:=by
 rw[← zcx]at h;obtain⟨h1,h2⟩:=zlh h;rw[zaB]at h1;refine⟨h1,?_⟩;rw[zrt h1]at h2;omega
theorem zjI{xs:List Nat}{v:Nat}(h:pos xs v=none):v ∉ xs:=by
 rw[← zcx]at h;have:=zkX h;intro hm;exact this (qaZ.2 ⟨v,hm,rfl⟩)
theorem zr0{xs:List Nat}{v:Nat}(h:v∈xs):∃ k,pos xs v=some k:=by
 cases hp:pos xs v with
 | none=>exact absurd h (zjI hp)
 | some k=>exact⟨k,rfl⟩
def zcW(f g:Fc):Nat→List Nat→Bool
 | _,[]=>true
 | i,v :: vs=>(match pos g.vs v with | none=>true | some k=>g.cs.getD k 0 == f.cs.getD i 0) && zcW f g (i+1) vs
theorem zdY{xs:List Nat}{i:Nat}(h:i<xs.length):za0 (iL xs) (i:Int)=some ((xs.getD i 0:Nat):Int):=by
 rw[zcV h]; simp[List.getD,h]
theorem zhL(a b:Nat):((a:Int)==(b:Int))=(a == b):=by
 rw[Bool.eq_iff_iff,beq_iff_eq,beq_iff_eq];exact Int.ofNat_inj
theorem zqk{f g:Fc}(hf:FcOk f)(hg:FcOk g):∀(n i:Nat),i≤f.vs.length→f.vs.length - i<n→zbN f.T g.T n (i:Int)=some (bif zcW f g i (f.vs.drop i)then .go ()else .ret false)
 | 0,_,_,h=>absurd h (qax _)
 | n+1,i,hi,hn=>by
  have hle:=hf.le;have hlen:=hf.len;unfold zbN;rw[show f.T.factor.vars=iL f.vs from rfl,show f.T.factor.cards=iL f.cs from rfl,show g.T.factor.cards=iL g.cs from rfl,zaB];rcases qaR i f.vs.length with h3 | h3
  ·rw[ziT h3,cond_true,zcV h3,qaa,zkY hg,zcx,qaa,znG,qan h3];simp only[zcW];have ih:=zqk hf hg n (i+1) h3 (by omega);cases hp:pos g.vs f.vs[i]with
   | none=>
    rw[qbK,cond_false,qaa,cond_false,zat (by omega),ih,qaH]
   | some k=>
    obtain⟨hk,_⟩:=zfu hp;rw[qbx,cond_true,show oz9 (some k)=(k:Int)from rfl,zdY (by rw[← hg.len]; exact hk),qaa,zdY (by omega),qaa,qaa,zhL];cases hb:(g.cs.getD k 0 == f.cs.getD i 0)with
    | true=>simp only[hb]; rw[qaD,cond_false,zat (by omega),ih,qaH]
    | false=>simp only[hb]; rw[qaT,cond_true,qbL]; rfl
  obtain rfl:i=f.vs.length:=by omega
  rw[zjd,cond_false,qaC];rfl
theorem zoF{f g:Fc}(hf:FcOk f)(hg:FcOk g):zb1 f.T g.T=some (zcW f g 0 f.vs):=by
 unfold zb1;have h:=zqk hf hg (f.vs.length+2) 0 (qaL _) (by omega);rw[show((0:Nat):Int)=0 from rfl,qaP]at h;rw[show f.T.factor.vars=iL f.vs from rfl,zaB,zbg,h,qaa];cases zcW f g 0 f.vs<;>rfl
theorem znq{f g:Fc}(hf:FcOk f)(hg:FcOk g):∀(n i:Nat),i≤f.vs.length→f.vs.length - i<n→zcQ f.D g.D n (i:Int)=some (bif zcW f g i (f.vs.drop i)then .go ()else .ret false)
 | 0,_,_,h=>absurd h (qax _)
 | n+1,i,hi,hn=>by
  have hle:=hf.le;have hlen:=hf.len;unfold zcQ;rw[show f.D.vars=iL f.vs from rfl,show f.D.cards=iL f.cs from rfl,show g.D.cards=iL g.cs from rfl,zaB];rcases qaR i f.vs.length with h3 | h3
  ·rw[ziT h3,cond_true,zcV h3,qaa,zmU hg,zcx,qaa,znG,qan h3];simp only[zcW];have ih:=znq hf hg n (i+1) h3 (by omega);cases hp:pos g.vs f.vs[i]with
   | none=>
    rw[qbK,cond_false,qaa,cond_false,zat (by omega),ih,qaH]
   | some k=>
    obtain⟨hk,_⟩:=zfu hp;rw[qbx,cond_true,show oz9 (some k)=(k:Int)from rfl,zdY (by rw[← hg.len]; exact hk),qaa,zdY (by omega),qaa,qaa,zhL];cases hb:(g.cs.getD k 0 == f.cs.getD i 0)with
    | true=>simp only[hb]; rw[qaD,cond_false,zat (by omega),ih,qaH]
    | false=>simp only[hb]; rw[qaT,cond_true,qbL]; rfl
  obtain rfl:i=f.vs.length:=by omega
  rw[zjd,cond_false,qaC];rfl
theorem zhl{f g:Fc}(hf:FcOk f)(hg:FcOk g):zdW f.D g.D=some (zcW f g 0 f.vs):=by
 unfold zdW;have h:=znq hf hg (f.vs.length+2) 0 (qaL _) (by omega);rw[show((0:Nat):Int)=0 from rfl,qaP]at h;rw[show f.D.vars=iL f.vs from rfl,zaB,zbg,h,qaa];cases zcW f g 0 f.vs<;>rfl
def hasB(vs:List Nat):List Nat→Bool
 | []=>true
 | v :: us=>(pos vs v).isSome && hasB vs us
theorem ztM{f g:Fc}(hf:FcOk f)(hg:FcOk g):∀(n i:Nat),i≤g.vs.length→g.vs.length - i<n→zdJ g.D f.D n (i:Int)=some (bif hasB f.vs (g.vs.drop i)then .go ()else .ret false)
 | 0,_,_,h=>absurd h (qax _)
 | n+1,i,hi,hn=>by
  have hle:=hg.le;have hlen:=hg.len;unfold zdJ;rw[show g.D.vars=iL g.vs from rfl,zaB];rcases qaR i g.vs.length with h3 | h3
  ·rw[ziT h3,cond_true,zcV h3,qaa,zmU hf,zcx,qaa,zrB,qan h3];simp only[hasB];cases(pos f.vs g.vs[i]).isSome with
   | false=>rw[qaT,cond_true,qbL]; rfl
   | true=>rw[qaD,cond_false,zat (by omega),ztM hf hg n (i+1) h3 (by omega),qaH]
  obtain rfl:i=g.vs.length:=by omega
  rw[zjd,cond_false,qaC];rfl
theorem zsb{f g:Fc}(hf:FcOk f)(hg:FcOk g):ze0 f.D g.D=some (hasB f.vs g.vs):=by
 unfold ze0;have h:=ztM hf hg (g.vs.length+2) 0 (qaL _) (by omega);rw[show((0:Nat):Int)=0 from rfl,qaP]at h;rw[show g.D.vars=iL g.vs from rfl,zaB,zbg,h,qaa];cases hasB f.vs g.vs<;>rfl
theorem zrg{f g:Fc}(hf:FcOk f)(hg:FcOk g):∀(n i:Nat),i≤g.vs.length→g.vs.length - i<n→zbj (g.T,0) (f.T,0) n (i:Int)=some (bif hasB f.vs (g.vs.drop i)then .go ()else .ret (⟨[],[],[]⟩,2))
 | 0,_,_,h=>absurd h (qax _)
 | n+1,i,hi,hn=>by
  have hle:=hg.le;have hlen:=hg.len;unfold zbj;simp only;rw[show g.T.factor.vars=iL g.vs from rfl,zaB];rcases qaR i g.vs.length with h3 | h3
  ·rw[ziT h3,cond_true,zcV h3,qaa,zkY hf,zcx,qaa,zrB,qan h3];simp only[hasB];cases(pos f.vs g.vs[i]).isSome with
   | false=>rw[qaT,cond_true,qbL]; rfl
   | true=>rw[qaD,cond_false,zat (by omega),zrg hf hg n (i+1) h3 (by omega),qaH]
  obtain rfl:i=g.vs.length:=by omega
  rw[zjd,cond_false,qaC];rfl
def dig:List Nat→Nat→List Nat
 | [],_=>[]
 | _ :: cs,i=>i / zam cs :: dig cs (i % zam cs)
theorem zmy:∀(cs:List Nat) (i:Nat),(dig cs i).length=cs.length
 | [],_=>rfl
 | _ :: cs,i=>by simp[dig,zmy cs]
def dot:List Nat→List Nat→Nat
 | x :: xs,s :: ss=>x * s+dot xs ss
 | _,_=>0
theorem zjq:∀ {xs ss:List Nat} (ys ts:List Nat),xs.length=ss.length→dot (xs ++ ys) (ss ++ ts)=dot xs ss+dot ys ts
 | [],[],ys,ts,_=>by simp[dot]
 | x :: xs,s :: ss,ys,ts,h=>by
  simp only[qbc,dot];rw[zjq ys ts (by simpa using h)]; omega
 | [],_ :: _,_,_,h=>by simp at h
 | _ :: _,[],_,_,h=>by simp at h
theorem zmk(x s:Nat):dot [x] [s]=x * s:=by simp[dot]
def zcq:List Nat→List Nat→Prop
 | [],[]=>True
 | c :: cs,x :: xs=>x<c∧c≤8∧zcq cs xs
 | _,_=>False
theorem zcq.len:∀ {cs xs:List Nat},zcq cs xs→xs.length=cs.length
 | [],[],_=>rfl
 | c :: cs,x :: xs,h=>by simp[h.2.2.len]
theorem zcq.snoc:∀ {cs xs:List Nat} {c x:Nat},zcq (cs ++ [c]) (xs ++ [x])→xs.length=cs.length→zcq cs xs∧x<c∧c≤8
 | [],[],c,x,h,_=>⟨qcj,h.1,h.2.1⟩
 | c :: cs,x :: xs,_,_,h,hl=>by
  obtain⟨h1,h2,h3⟩:=h;obtain⟨g1,g2⟩:=h3.snoc (by simpa using hl);exact⟨⟨h1,h2,g1⟩,g2⟩
theorem zfn{cs:List Nat}(h:∀ c∈cs,1≤c∧c≤8):0<zam cs:=zkt fun c hc=>(h c hc).1
theorem zdx:∀ {cs:List Nat} {i:Nat},(∀ c∈cs,1≤c∧c≤8)→i<zam cs→zcq cs (dig cs i)
 | [],_,_,_=>trivial
 | c :: cs,i,h,hi=>by
  have hc:=h c qav;have hp:=zfn fun d hd=>h d (qao c hd)
  refine⟨?_,hc.2,zdx (fun d hd=>h d (qao c hd)) (qcb _ hp)⟩;have h1:i<c * zam cs:=hi;exact Nat.div_lt_of_lt_mul (by rw[qbD]; exact h1)
theorem zql:∀ {cs xs ss:List Nat},zcq cs xs→(∀ s∈ss,s≤4096)→dot xs ss≤cs.length * 32768
 | [],[],_,_,_=>by simp[dot]
 | c :: cs,x :: xs,[],_,_=>by simp[dot]
 | c :: cs,x :: xs,s :: ss,h,hs=>by
  have h1:=zql h.2.2 fun t ht=>hs t (qao _ ht)
  have h2:=hs s qav;have h3:x * s≤8 * 4096:=qbC (by have:=h.1; have:=h.2.1; omega) h2;simp only[dot,qaS];omega
def nxt:List Nat→List Nat→Option (List Nat)
 | c :: cs,v :: vs=>match nxt cs vs with
  | some vs'=>some (v :: vs')
  | none=>if v+1<c then some ((v+1):: List.replicate vs.length 0)else none
 | _,_=>none
theorem zfO:∀ {cs vs:List Nat} {c v:Nat},vs.length=cs.length→v+1<c→nxt (cs ++ [c]) (vs ++ [v])=some (vs ++ [v+1])
 | [],[],c,v,_,h=>by simp[nxt,h]
 | d :: cs,u :: vs,c,v,hl,h=>by
  simp only[qbc,nxt,zfO (show vs.length=cs.length by simpa using hl) h]
theorem ze1:∀ {cs vs:List Nat} {c v:Nat},vs.length=cs.length→¬ v+1<c→nxt (cs ++ [c]) (vs ++ [v])=(nxt cs vs).map (· ++ [0])
 | [],[],c,v,_,h=>by simp[nxt,h]
 | d :: cs,u :: vs,c,v,hl,h=>by
  simp only[qbc,nxt,ze1 (show vs.length=cs.length by simpa using hl) h];cases hn:nxt cs vs with
  | some vs'=>rfl
  | none=>
   simp only[qci];by_cases hu:u+1<d
   ·rw[if_pos hu,if_pos hu];simp[qcg]
   rw[if_neg hu,if_neg hu]; rfl
theorem zho:∀(cs:List Nat),dig cs 0=List.replicate cs.length 0
 | []=>rfl
 | c :: cs=>by simp[dig,zho cs,qaO]
theorem zlL:∀ {cs:List Nat} {i:Nat},(∀ c∈cs,1≤c∧c≤8)→i<zam cs→nxt cs (dig cs i)=if i+1<zam cs then some (dig cs (i+1))else none
 | [],i,_,hi=>by
  have:i=0:=by simpa [zam]using hi
  subst this;simp[nxt,zam]
 | c :: cs,i,h,hi=>by
  have hp:=zfn fun d hd=>h d (qao c hd)
  have hm:=qcb i hp;have ih:=zlL (fun d hd=>h d (qao c hd)) hm;have hi':i<c * zam cs:=hi;simp only[dig,nxt,ih];have hdm:=Nat.div_add_mod i (zam cs);generalize hq:i / zam cs=q at *;generalize hr:i % zam cs=r at *;have hprod:zam (c :: cs)=c * zam cs:=rfl;by_cases h1:r+1<zam cs
  ·rw[if_pos h1];have e1:(i+1) / zam cs=q:=by
    rw[← hdm,qa7,Nat.mul_add_div hp,Nat.div_eq_of_lt h1,qbi]
   have e2:(i+1) % zam cs=r+1:=by
    rw[← hdm,qa7,Nat.mul_add_mod,qbb h1]
   have hqc:q<c:=by rw[← hq]; exact Nat.div_lt_of_lt_mul (by rw[qbD]; exact hi')
   have h2:i+1<zam (c :: cs):=by
    rw[hprod];have:(q+1)* zam cs≤c * zam cs:=qar _ hqc;rw[qaN,qbt,qbD q]at this;omega
   rw[if_pos h2,e1,e2]
  rw[if_neg h1];have hr1:r+1=zam cs:=by omega
  have hi1:i+1=zam cs * (q+1):=by rw[Nat.mul_add,Nat.mul_one]; omega
  simp only;have h4:(q+1<c)↔(i+1<zam (c :: cs)):=by
   rw[hprod,hi1,qbD c];exact(Nat.mul_lt_mul_left hp).symm
  by_cases h5:q+1<c
  ·rw[if_pos h5,if_pos (h4.1 h5),hi1,Nat.mul_div_cancel_left _ hp,Nat.mul_mod_right,zho,zmy]
  rw[if_neg h5,if_neg (fun h=>h5 (h4.2 h))]
theorem zcc{xs ys:List Nat}{x:Nat}{k:Nat}(h:xs.length=k):za0 (iL (xs ++ x :: ys)) (k:Int)=some (x:Int):=by
 subst h;rw[zcV (by simp)];simp
theorem zcY{xs ys:List Nat}{x y:Nat}{k:Nat}(h:xs.length=k):zgJ (iL (xs ++ x :: ys)) (k:Int) (y:Int)=some (iL (xs ++ y :: ys)):=by
 subst h;rw[zmG (by rw[zaB]; simp)];simp[iL]
theorem zh0{xs:List Nat}{k:Nat}(h:xs.length=k+1):∃ ys y,xs=ys ++ [y]∧ys.length=k:=by
 have hne:xs≠[]:=by rintro rfl; simp at h
 exact⟨xs.dropLast,xs.getLast hne,(List.dropLast_concat_getLast hne).symm,by simp[h]⟩
theorem zmM:∀(k:Nat) (xs cx sx cy sy zs:List Nat) (e:Nat),xs.length=k→cx.length=k→sx.length=k→zcq cx xs→(∀ s∈sx,s≤4096)→k≤12→e≤1000000 →
  ∃ r,zjg (iL (cx ++ cy)) (iL (sx ++ sy)) k (iL (xs ++ zs)) ((dot xs sx+e:Nat):Int)=some r∧match nxt cx xs with
   | none=>r.2.2 = -1
   | some xs'=>∃(j:Nat) (v st:Int),r.2.2=(j:Int)∧za0 r.1 (j:Int)=some v∧zgJ r.1 (j:Int) (w64 (v+1))=some (iL (xs' ++ zs))∧za0 (iL (sx ++ sy)) (j:Int)=some st∧w64 (r.2.1+st)=((dot xs' sx+e:Nat):Int)
 | 0,xs,cx,sx,cy,sy,zs,e,hx,hc,hs,_,_,_,_=>by
  obtain rfl:xs=[]:=qaw.1 hx;obtain rfl:cx=[]:=qaw.1 hc;exact⟨_,rfl,rfl⟩
 | k+1,xs,cx,sx,cy,sy,zs,e,hx,hc,hs,hb,hsm,hk,he=>by
  obtain⟨xs,x,rfl,lx⟩:=zh0 hx;obtain⟨cx,c,rfl,lc⟩:=zh0 hc;obtain⟨sx,s,rfl,ls⟩:=zh0 hs;obtain⟨hb1,hb2,hb3⟩:=hb.snoc (lx.trans lc.symm);have hd:=zql hb1 fun t ht=>hsm t (qch _ ht)
  have hss:s≤4096:=hsm s (by simp);have hxs:x * s≤8 * 4096:=qbC (by omega) hss;have hlen:cx.length * 32768≤12 * 32768:=qar _ (by omega);simp only[qaV,qaY];unfold zjg;rw[zcc lx,qaa,zcc lc,qaa,zgj (by omega) (by omega)];rw[zjq [x] [s] (lx.trans ls.symm),zmk];by_cases h1:x+1<c
  ·rw[show((x:Int)==(c:Int) - 1)=false from beq_false_of_ne (by omega),cond_false,zfO (lx.trans lc.symm) h1];refine⟨_,rfl,k,(x:Int),(s:Int),rfl,zcc lx,?_,zcc ls,?_⟩
   ·rw[zat (by omega),zcY lx]; simp
   rw[zjq [x+1] [s] (lx.trans ls.symm),zmk,← qbY,zcX (by omega),qaN];congr 1; omega
  rw[show((x:Int)==(c:Int) - 1)=true by rw[show(x:Int)=(c:Int) - 1 by omega]; exact beq_self_eq_true _,cond_true,zcc ls,qaa,show(0:Int)=((0:Nat):Int)from rfl,zcY lx,qaa,← qa1,
   zcX (by omega),show(((dot xs sx+x * s+e:Nat):Int) - ((x * s:Nat):Int))=((dot xs sx+e:Nat):Int) by omega,zcX (by omega),ze1 (lx.trans lc.symm) h1]
  obtain⟨r,h2,h3⟩:=zmM k xs cx sx (c :: cy) (s :: sy) (0 :: zs) e lx lc ls hb1 (fun t ht=>hsm t (qch _ ht)) (by omega) he;refine⟨r,h2,?_⟩;cases hn:nxt cx xs with
  | none=>rw[hn]at h3; exact h3
  | some xs'=>
   rw[hn]at h3;obtain⟨j,v,st,g1,g2,g3,g4,g5⟩:=h3;have hl':xs'.length=sx.length:=by
    have:∀ {cs vs ws:List Nat},nxt cs vs=some ws→vs.length=cs.length→ws.length=vs.length:=by
     intro cs;induction cs with
     | nil=>intro vs ws h _; simp[nxt]at h
     | cons d cs ih=>
      intro vs ws h hl;cases vs with
      | nil=>simp[nxt]at h
      | cons u vs=>
       simp only[nxt]at h;cases hq:nxt cs vs with
       | some vs'=>
        rw[hq]at h;cases h;simp[ih hq (by simpa using hl)]
       | none=>
        rw[hq]at h;simp only at h;split at h
        ·cases h; simp
        cases h
    rw[this hn (lx.trans lc.symm),lx,ls]
   refine⟨j,v,st,g1,g2,by rw[g3]; simp,g4,?_⟩;rw[g5,zjq [0] [s] hl',zmk,qbe,qbi]
def zgT(cs ss:List Nat)(i m:Nat):List (Int×Int×List Int):=(List.range' i m).map fun j:Nat=>((j:Int),((dot (dig cs j) ss:Nat):Int),iL (dig cs j))
theorem zud{cs ss:List Nat}(hc:∀ c∈cs,1≤c∧c≤8)(hl:cs.length≤12)(hp:zam cs≤4096)(hs:ss.length=cs.length)(hsm:∀ s∈ss,s≤4096):∀(m i n:Nat),i+(m+1)=zam cs→m<n →
  ztf (iL cs) (iL ss) n (iL (dig cs i)) (i:Int) ((dot (dig cs i) ss:Nat):Int)=some (zgT cs ss i (m+1))
 | m,i,0,_,h=>absurd h (qax _)
 | m,i,n+1,hi,hn=>by
  have hb:=zdx hc (show i<zam cs by omega);obtain⟨r,h1,h2⟩:=zmM cs.length (dig cs i) cs ss [] [] [] 0 (zmy _ _) rfl hs hb hsm hl (by omega);simp only[qa6,qbi]at h1 h2;unfold ztf;rw[zaB,h1,qaa];rw[zlL hc (show i<zam cs by omega)]at h2;cases m with
  | zero=>
   rw[if_neg (by omega)]at h2;simp only at h2;rw[h2];rfl
  | succ m=>
   rw[if_pos (by omega)]at h2;simp only at h2;obtain⟨j,v,st,g1,g2,g3,g4,g5⟩:=h2;rw[g1,show decide ((j:Int)<0)=false from decide_eq_false (by omega),cond_false,g2,qaa,g3,qaa,g4,qaa,g5,zat (by omega),zud hc hl hp hs hsm m (i+1) n (by omega) (by omega)];rfl
theorem zpP(cs:List Nat):∀ a:Nat,(iL cs).foldl (· * ·) (a:Int)=((a * zam cs:Nat):Int):=by
 induction cs with
 | nil=>intro a; simp[iL,zam]
 | cons c cs ih=>
  intro a;show(iL cs).foldl (· * ·) ((a:Int)* (c:Int))=_;rw[← qa1,ih,qbT];rfl
theorem ztn{cs ss:List Nat}(hc:∀ c∈cs,1≤c∧c≤8)(hl:cs.length≤12)(hp:zam cs≤4096)(hs:ss.length=cs.length)(hsm:∀ s∈ss,s≤4096):zqp (iL cs) (iL ss)=some (zgT cs ss 0 (zam cs)):=by
 have hpos:=zfn hc;unfold zqp zmY;rw[if_pos (by rw[zaB]; omega),qaa,zaB,zfJ (by omega),qaa];have h:=zpP cs 1;rw[show((1:Nat):Int)=1 from rfl]at h;rw[h,qbt,qaG];obtain⟨m,hm⟩:∃ m,zam cs=m+1:=⟨zam cs - 1,by omega⟩;have e:=zud hc hl hp hs hsm m 0 (m+1) (by omega) (by omega);have hz:∀(n:Nat) (ss:List Nat),dot (List.replicate n 0) ss=0:=by
  intro n;induction n with
  | zero=>intro ss; simp[dot]
  | succ n ih=>
   intro ss;cases ss with
   | nil=>simp[qaO,dot]
   | cons s ss=>simp[qaO,dot,ih]
 rw[zho,hz,zg9]at e;rw[hm];exact e
theorem zu1(k:Nat):decide ((0:Int)≤(k:Int))=true:=decide_eq_true (qby k)
theorem pred_succ(k:Nat):((k+1:Nat):Int) - 1=(k:Int):=by omega
theorem zrq:∀(k n:Nat) (xs cx cy zs:List Nat),xs.length=k→cx.length=k→zcq cx xs→k<n→k≤12 →
  zdh (iL (cx ++ cy)) n ((k:Int) - 1) (iL (xs ++ zs))=some (match nxt cx xs with | some xs'=>.ret (iL (xs' ++ zs),true)| none=>.go (iL (List.replicate k 0 ++ zs)))
 | k,0,_,_,_,_,_,_,_,h,_=>absurd h (qax _)
 | 0,n+1,xs,cx,cy,zs,hx,hc,_,_,_=>by
  obtain rfl:xs=[]:=qaw.1 hx;obtain rfl:cx=[]:=qaw.1 hc;rfl
 | k+1,n+1,xs,cx,cy,zs,hx,hc,hb,hn,hk=>by
  obtain⟨xs,x,rfl,lx⟩:=zh0 hx;obtain⟨cx,c,rfl,lc⟩:=zh0 hc;obtain⟨hb1,hb2,hb3⟩:=hb.snoc (lx.trans lc.symm);simp only[qaV,qaY];unfold zdh;rw[pred_succ,zu1,cond_true,zcc lx,qaa,zat (by omega),zcY lx,qaa,zcc lc,qaa,zrr];by_cases h1:x+1<c
  ·rw[decide_eq_true h1,cond_true,zfO (lx.trans lc.symm) h1];simp
  rw[decide_eq_false h1,cond_false,show(0:Int)=((0:Nat):Int)from rfl,zcY lx,qaa,zgj (by omega) (by omega),zrq k n xs cx (c :: cy) (0 :: zs) lx lc hb1 (by omega) (by omega),ze1 (lx.trans lc.symm) h1];cases nxt cx xs with
  | none=>simp[qcg]
  | some xs'=>simp
theorem ztO{cs xs:List Nat}(hb:zcq cs xs)(hl:cs.length≤12):zet (iL cs) (iL xs)=some (match nxt cs xs with | some xs'=>(iL xs',true)| none=>(iL (List.replicate cs.length 0),false)):=by
 have hlen:=hb.len;unfold zet;rw[zhp (by rw[zaB]; omega),qaa,zaB,zgj (by omega) (by omega)];have h:=zrq cs.length (cs.length+1) xs cs [] [] hlen rfl hb (by omega) hl;simp only[qa6]at h;rw[hlen,show((cs.length:Int) - 1 - 0+2).toNat=cs.length+1 by omega,h,qaa];cases nxt cs xs<;>rfl
theorem zt7{cs:List Nat}(hc:∀ c∈cs,1≤c∧c≤8)(hl:cs.length≤12)(hp:zam cs≤4096):∀(m i n:Nat) (acc:List (List Int)),i+(m+1)=zam cs→acc.length≤i→m+1<n →
  zc9 (iL cs) n (iL (dig cs i)) true acc=some (acc ++ (List.range' i (m+1)).map fun j:Nat=>iL (dig cs j))
 | m,i,0,_,_,_,h=>absurd h (qax _)
 | m,i,n+1,acc,hi,ha,hn=>by
  have hb:=zdx hc (show i<zam cs by omega);unfold zc9;rw[cond_true,zjY (by simp; omega),qaa,ztO hb hl,qaa,zlL hc (show i<zam cs by omega)];cases m with
  | zero=>
   rw[if_neg (by omega)];obtain⟨n,rfl⟩:∃ k,n=k+1:=⟨n - 1,by omega⟩;simp only;unfold zc9;rw[cond_false];rfl
  | succ m=>
   rw[if_pos (by omega)];simp only;rw[zt7 hc hl hp m (i+1) n _ (by omega) (by simp; omega) (by omega),qaV];rfl
def zpD(cs:List Nat):List (List Int):=(List.range' 0 (zam cs)).map fun j:Nat=>iL (dig cs j)
theorem zfx(cs:List Nat):(zpD cs).length=zam cs:=by simp[zpD]
theorem zmL{cs:List Nat}{i:Nat}(h:i<zam cs):za0 (zpD cs) (i:Int)=some (iL (dig cs i)):=by
 rw[znm,zpD,qa3,List.getElem?_range' h];simp
theorem zt1{cs:List Nat}(hc:∀ c∈cs,1≤c∧c≤8)(hl:cs.length≤12)(hp:zam cs≤4096):zd1 5000 (iL cs)=some (zpD cs):=by
 have hpos:=zfn hc;obtain⟨m,hm⟩:∃ m,zam cs=m+1:=⟨zam cs - 1,by omega⟩;unfold zd1 zpD;have e:=zt7 hc hl hp m 0 5000 [] (by omega) (qaj _) (by omega);rw[zho,zg9]at e;rw[zaB,zfJ (by omega),qaa,e,qaa,hm];rfl
theorem zne{cs:List Nat}(hc:∀ c∈cs,1≤c)(hp:zam cs≤4096):∀ s∈zbu cs,s≤4096:=by
 induction cs with
 | nil=>intro s hs; cases hs
 | cons c cs ih=>
  have h1:=hc c qav;have h2:zam cs≤4096:=qay (Nat.le_mul_of_pos_left (zam cs) h1) hp;intro s hs;rcases qaM.1 hs with rfl | hs
  ·exact h2
  exact ih (fun d hd=>hc d (qao _ hd)) h2 s hs
theorem zcq.drop:∀ {cs xs:List Nat} (k:Nat),zcq cs xs→zcq (cs.drop k) (xs.drop k)
 | cs,xs,0,h=>h
 | [],[],k+1,_=>trivial
 | c :: cs,x :: xs,k+1,h=>h.2.2.drop k
theorem zmR{cs ds:List Nat}(hb:zcq cs ds)(hc:∀ c∈cs,1≤c)(hp:zam cs≤4096)(hl:cs.length≤12):∀(k n:Nat),k≤cs.length→k<n →
  zck (iL ds) (iL cs) n ((dot (ds.drop k) (zbu (cs.drop k)):Nat):Int) ((zam (cs.drop k):Nat):Int) ((k:Int) - 1)=some ((dot ds (zbu cs):Nat):Int)
 | k,0,_,h=>absurd h (qax _)
 | 0,n+1,_,_=>by
  unfold zck;rw[show decide ((0:Int)≤((0:Nat):Int) - 1)=false from rfl,cond_false];rfl
 | k+1,n+1,hk,hn=>by
  have hlen:=hb.len;have hk1:k<cs.length:=hk;have hk2:k<ds.length:=by omega
  have e1:ds.drop k=ds[k]:: ds.drop (k+1):=qan hk2;have e2:cs.drop k=cs[k]:: cs.drop (k+1):=qan hk1;have h1:=zeI hc k;have h2:=zeI hc (k+1);have h3:=zql (hb.drop k) (zne (cs:=cs.drop k) (fun c h=>hc c (qcf h)) (by omega));have h4:(cs.drop k).length * 32768≤12 * 32768:=qar _ (by simp; omega);have h5:dot (ds.drop k) (zbu (cs.drop k))=ds[k] * zam (cs.drop (k+1))+dot (ds.drop (k+1)) (zbu (cs.drop (k+1))):=by rw[e1,e2]; rfl
  have h6:zam (cs.drop k)=cs[k] * zam (cs.drop (k+1)):=by rw[e2]; rfl
  unfold zck
  rw[pred_succ,zu1,cond_true,zcV hk2,qaa,zcV hk1,qaa,← qa1,zcX (by omega),← qbY,zcX (by omega),← qa1,zcX (by rw[qbD]; omega),zgj (by omega) (by omega),
   show dot (ds.drop (k+1)) (zbu (cs.drop (k+1)))+ds[k] * zam (cs.drop (k+1))=dot (ds.drop k) (zbu (cs.drop k)) by omega,show zam (cs.drop (k+1))* cs[k]=zam (cs.drop k) by rw[h6,qbD]]
  exact zmR hb hc hp hl k n (by omega) (by omega)
theorem zsP{cs ds:List Nat}(hb:zcq cs ds)(hc:∀ c∈cs,1≤c)(hp:zam cs≤4096)(hl:cs.length≤12):zdQ (iL cs) (iL ds)=some ((dot ds (zbu cs):Nat):Int):=by
 have hlen:=hb.len;unfold zdQ;have h:=zmR hb hc hp hl cs.length (cs.length+1) (qaj _) (by omega);rw[qaC,qca (by omega)]at h;rw[show((zam []:Nat):Int)=1 from rfl,show((dot [] (zbu []):Nat):Int)=0 from rfl]at h;rw[zaB,zgj (by omega) (by omega),show((cs.length:Int) - 1 - 0+2).toNat=cs.length+1 by omega,h];rfl
theorem zpR:∀ {cs ds:List Nat},zcq cs ds→dot ds (zbu cs)<zam cs
 | [],[],_=>by simp[dot,zam]
 | c :: cs,d :: ds,h=>by
  have h1:=zpR h.2.2;show d * zam cs+dot ds (zbu cs)<c * zam cs;have h2:(d+1)* zam cs≤c * zam cs:=qar _ h.1;rw[qaN,qbt]at h2;omega
def stp:List Nat→List Nat→Nat→Nat
 | v :: vs,_ :: cs,u=>bif v == u then zam cs else stp vs cs u
 | _,_,_=>0
def at_:List Nat→List Nat→Nat→Nat
 | v :: vs,d :: ds,u=>bif v == u then d else at_ vs ds u
 | _,_,_=>0
theorem zms:∀ {vs cs:List Nat} {u:Nat},vs.length=cs.length→stp vs cs u=(match pos vs u with | none=>0 | some k=>(zbu cs).getD k 0)
 | [],_,u,_=>by simp[stp,pos]
 | v :: vs,[],_,h=>by simp at h
 | v :: vs,c :: cs,u,h=>by
  have ih:=zms (u:=u) (show vs.length=cs.length by simpa using h);unfold stp pos;cases hb:(v == u)with
  | true=>rfl
  | false=>
   rw[cond_false,cond_false,ih];cases pos vs u with
   | none=>rfl
   | some k=>simp[zbu]
theorem zpQ{f:Fc}(hf:FcOk f){vs:List Nat}(hl:vs.length≤100):∀(n i:Nat),i≤vs.length→vs.length - i<n →
  zaU (iL vs) f.T n (i:Int) (iL ((vs.map (stp f.vs f.cs)).take i ++ List.replicate (vs.length - i) 0))=some (iL (vs.map (stp f.vs f.cs)))
 | 0,_,_,h=>absurd h (qax _)
 | n+1,i,hi,hn=>by
  unfold zaU;rw[zaB];rcases qaR i vs.length with h3 | h3
  ·have ih:=zpQ hf hl n (i+1) h3 (by omega);have ht:((vs.map (stp f.vs f.cs)).take i).length=i:=by simp; omega
   have e:List.replicate (vs.length - i) 0=0 :: List.replicate (vs.length - (i+1)) 0:=by
    rw[show vs.length - i=(vs.length - (i+1))+1 by omega,qaO]
   have e2:(vs.map (stp f.vs f.cs)).take (i+1)=(vs.map (stp f.vs f.cs)).take i ++ [stp f.vs f.cs vs[i]]:=by
    rw[List.take_succ_eq_append_getElem (by simpa using h3)]; simp
   rw[e2,qaV,qaY]at ih;rw[ziT h3,cond_true,zcV h3,qaa,zkY hf,qaa,zcx,znG,e];rw[zms hf.len]at ih;cases hp:pos f.vs vs[i]with
   | none=>
    rw[hp]at ih;rw[qbK,cond_false,qaa,zat (by omega)];exact ih
   | some k=>
    rw[hp]at ih;obtain⟨hk,_⟩:=zfu hp;rw[qbx,cond_true,show oz9 (some k)=(k:Int)from rfl,show f.T.steps=iL (zbu f.cs)from rfl,zdY (by rw[znH,← hf.len]; exact hk),qaa,zcc ht,qaa,zcY ht,qaa,qaa,zat (by omega)];exact ih
  obtain rfl:i=vs.length:=by omega
  rw[zjd,cond_false,Nat.sub_self,qb2,qa6,qaJ (by simp)]
theorem zlT{f:Fc}(hf:FcOk f){vs:List Nat}(hl:vs.length≤100):zaE f.T (iL vs)=some (iL (vs.map (stp f.vs f.cs))):=by
 unfold zaE;have h:=zpQ hf hl (vs.length+2) 0 (qaL _) (by omega);rw[qbV,qa5,Nat.sub_zero,zg9,show((0:Nat):Int)=0 from rfl]at h;rw[zaB,zfJ (by omega),qaa,zbg,h];rfl
theorem zp4(g h:Nat→Nat):∀(ds vs:List Nat),dot ds (vs.map fun v=>g v+h v)=dot ds (vs.map g)+dot ds (vs.map h)
 | [],_=>by simp[dot]
 | d :: ds,[]=>by simp[dot]
 | d :: ds,v :: vs=>by
  simp only[qaz,dot,zp4 g h ds vs,Nat.mul_add];omega
theorem zjU:∀(ds vs:List Nat) (g:Nat→Nat),(∀ v∈vs,g v=0)→dot ds (vs.map g)=0
 | [],_,_,_=>by simp[dot]
 | d :: ds,[],_,_=>by simp[dot]
 | d :: ds,v :: vs,g,h=>by
  simp only[qaz,dot,h v qav,Nat.mul_zero,zjU ds vs g fun u hu=>h u (qao _ hu)]
theorem zo6{u p:Nat}:∀ {vs ds:List Nat},vs.Nodup→dot ds (vs.map fun v=>bif u == v then p else 0)=at_ vs ds u * p
 | [],ds,_=>by cases ds<;>simp[dot,at_]
 | v :: vs,[],_=>by simp[dot,at_]
 | v :: vs,d :: ds,h=>by
  obtain⟨h1,h2⟩:=qbG.1 h;simp only[qaz,dot,at_];by_cases hb:u=v
  ·subst hb;rw[beq_self_eq_true,cond_true,cond_true,zjU ds vs _ (fun w hw=>by rw[show(u == w)=false from beq_false_of_ne (fun e=>h1 (e ▸ hw))]; rfl),qbi]
  rw[show(u == v)=false from beq_false_of_ne hb,show(v == u)=false from beq_false_of_ne (fun e=>hb e.symm),cond_false,cond_false,zo6 h2,Nat.mul_zero,qaX]
theorem zou:∀ {us cs:List Nat} {u:Nat},u ∉ us→stp us cs u=0
 | [],_,_,_=>by simp[stp]
 | v :: us,[],_,_=>by simp[stp]
 | v :: us,c :: cs,u,h=>by
  unfold stp;rw[show(v == u)=false from beq_false_of_ne (fun e=>h (by rw[e]; exact qav)),cond_false,zou fun hm=>h (qao _ hm)]
theorem zpz{vs ds:List Nat}(hv:vs.Nodup):∀ {us cs:List Nat},us.length=cs.length→us.Nodup→dot ds (vs.map (stp us cs))=dot (us.map (at_ vs ds)) (zbu cs)
 | [],cs,_,_=>by
  rw[zjU ds vs _ fun v _=>by simp[stp]];simp[dot]
 | u :: us,[],h,_=>by simp at h
 | u :: us,c :: cs,h,hn=>by
  obtain⟨h1,h2⟩:=qbG.1 hn;have e:vs.map (stp (u :: us) (c :: cs))=vs.map fun v=>(bif u == v then zam cs else 0)+stp us cs v:=by
   refine List.map_congr_left fun v _=>?_
   rw[show stp (u :: us) (c :: cs) v=bif u == v then zam cs else stp us cs v from rfl];cases hb:(u == v)with
   | true=>
    have:u=v:=by simpa using hb
    subst this;rw[cond_true,cond_true,zou h1]; rfl
   | false=>
    rw[cond_false,cond_false,qaX]
  rw[e,zp4,zo6 hv,zpz hv (by simpa using h) h2];rfl
theorem zdv{vs:List Nat}(h:vs.Pairwise (· < ·)):vs.Nodup:=h.imp fun h=>Nat.ne_of_lt h
def Sub(vs ws:List Nat):List Nat→List Nat→Prop
 | [],[]=>True
 | u :: us,c :: cs=>(u∈vs∧at_ vs ws u=c)∧Sub vs ws us cs
 | _,_=>False
theorem zmV:∀ {vs ws ds:List Nat} {u:Nat},vs.length=ws.length→zcq ws ds→u∈vs→at_ vs ds u<at_ vs ws u∧at_ vs ws u≤8
 | v :: vs,w :: ws,d :: ds,u,hl,hb,hm=>by
  unfold at_;by_cases h:v=u
  ·subst h;rw[beq_self_eq_true,cond_true,cond_true];exact⟨hb.1,hb.2.1⟩
  ·rw[show(v == u)=false from beq_false_of_ne h,cond_false,cond_false];rcases qaM.1 hm with e | hm
   ·exact absurd e.symm h
   ·exact zmV (by simpa using hl) hb.2.2 hm
 | [],_,_,_,_,_,hm=>by cases hm
 | v :: vs,[],_,_,hl,_,_=>by simp at hl
 | v :: vs,w :: ws,[],_,_,hb,_=>hb.elim
theorem Sub.below{vs ws ds:List Nat}(hl:vs.length=ws.length)(hb:zcq ws ds):∀ {us cs:List Nat},Sub vs ws us cs→zcq cs (us.map (at_ vs ds))
 | [],[],_=>trivial
 | u :: us,c :: cs,⟨⟨h1,h2⟩,h3⟩=>by
  have:=zmV hl hb h1;rw[h2]at this;exact⟨this.1,this.2,Sub.below hl hb h3⟩
 | [],_ :: _,h=>h.elim
 | _ :: _,[],h=>h.elim
def ovr:List Nat→List Nat→Nat→List Nat
 | v :: vs,d :: ds,u=>bif v == u then d :: ovr vs ds u else ovr vs ds u
 | _,_,_=>[]
theorem zo8:∀ {vs ds:List Nat} {u:Nat},u ∉ vs→ovr vs ds u=[]
 | [],_,_,_=>by simp[ovr]
 | v :: vs,[],_,_=>by simp[ovr]
 | v :: vs,d :: ds,u,h=>by
  unfold ovr;rw[show(v == u)=false from beq_false_of_ne (fun e=>h (by rw[e]; exact qav)),cond_false,zo8 fun hm=>h (qao _ hm)]
theorem zpO:∀ {vs ds:List Nat} {u:Nat},vs.Nodup→vs.length=ds.length→u∈vs→ovr vs ds u=[at_ vs ds u]
 | [],_,_,_,_,hm=>by cases hm
 | v :: vs,[],_,_,hl,_=>by simp at hl
 | v :: vs,d :: ds,u,hn,hl,hm=>by
  obtain⟨h1,h2⟩:=qbG.1 hn;unfold ovr at_;by_cases h:v=u
  ·subst h;rw[beq_self_eq_true,cond_true,cond_true,zo8 h1]
  rw[show(v == u)=false from beq_false_of_ne h,cond_false,cond_false];rcases qaM.1 hm with e | hm
  ·exact absurd e.symm h
  exact zpO h2 (by simpa using hl) hm
theorem zpk:∀ {vs ds:List Nat} {u:Nat},(ovr vs ds u).length≤vs.length
 | [],_,_=>by simp[ovr]
 | v :: vs,[],_=>by simp[ovr]
 | v :: vs,d :: ds,u=>by
  have:=zpk (vs:=vs) (ds:=ds) (u:=u);unfold ovr;cases(v == u)
  ·rw[cond_false,qaS]; omega
  rw[cond_true,qaS,qaS]; omega
theorem zlQ{f:Fc}{vs ds:List Nat}{j:Nat}(hj:j<f.vs.length)(hl:vs.length≤24)(hd:ds.length=vs.length):∀(n i:Nat) (acc:List Nat),i≤vs.length→acc.length≤1000→vs.length - i<n→acc.length+(vs.length - i)≤1000 →
  zdo (iL vs) f.D (j:Int) (iL ds) n (i:Int) (iL acc)=some (iL (acc ++ ovr (vs.drop i) (ds.drop i) f.vs[j]))
 | 0,_,_,_,_,h,_=>absurd h (qax _)
 | n+1,i,acc,hi,ha,hn,hb=>by
  unfold zdo;rw[zaB];rcases qaR i vs.length with h3 | h3
  ·have h4:i<ds.length:=by omega
   rw[ziT h3,cond_true,zcV h3,qaa,show f.D.vars=iL f.vs from rfl,zcV hj,qaa,zhL,qan h3,qan h4];unfold ovr;cases hq:(vs[i]== f.vs[j])with
   | true=>
    have ih:=zlQ hj hl hd n (i+1) (acc ++ [ds[i]]) h3 (by simp; omega) (by omega) (by simp; omega);rw[cond_true,cond_true,zcV h4,qaa,zjY (by rw[zaB]; simp; omega),qaa,qaa,zat (by omega),show iL acc ++ [((ds[i]:Nat):Int)]=iL (acc ++ [ds[i]]) by simp[iL],ih,qaV];rfl
   | false=>
    rw[cond_false,cond_false,qaa,zat (by omega),zlQ hj hl hd n (i+1) acc h3 ha (by omega) (by omega)]
  obtain rfl:i=vs.length:=by omega
  rw[zjd,cond_false,qaC];simp[ovr]
theorem zo1{f:Fc}(hf:FcOk f){vs ds:List Nat}(hl:vs.length≤24)(hd:ds.length=vs.length):∀(n j:Nat) (acc:List Nat),j≤f.vs.length→acc.length≤j * 24→f.vs.length - j<n →
  zc8 f.D (iL vs) (iL ds) n (j:Int) (iL acc)=some (iL (acc ++ (f.vs.drop j).flatMap (ovr vs ds)))
 | 0,_,_,_,_,h=>absurd h (qax _)
 | n+1,j,acc,hj,ha,hn=>by
  have hle:=hf.le;have hlen:=hf.len;unfold zc8;rw[show f.D.vars=iL f.vs from rfl,zaB,zaB];rcases qaR j f.vs.length with h3 | h3
  ·have h4:j * 24≤12 * 24:=qar _ (by omega);have ho:=zpk (vs:=vs) (ds:=ds) (u:=f.vs[j]);have e:=zlQ h3 hl hd (vs.length+2) 0 acc (qaL _) (by omega) (by omega) (by omega);rw[qaP,qaP,show((0:Nat):Int)=0 from rfl]at e;rw[ziT h3,cond_true,zbg,e,qaa,zat (by omega),zo1 hf hl hd n (j+1) _ h3 (by rw[qau,qaN]; omega) (by omega),qan h3,List.flatMap_cons,qaV]
  obtain rfl:j=f.vs.length:=by omega
  rw[zjd,cond_false,qaC];simp
theorem Sub.mem{vs ws:List Nat}:∀ {us cs:List Nat},Sub vs ws us cs→∀ u∈us,u∈vs
 | [],[],_,_,hu=>by cases hu
 | u :: us,c :: cs,⟨⟨h1,_⟩,h3⟩,w,hw=>by
  rcases qaM.1 hw with rfl | hw
  ·exact h1
  ·exact Sub.mem h3 w hw
 | [],_ :: _,h,_,_=>h.elim
 | _ :: _,[],h,_,_=>h.elim
theorem zmI{vs ds:List Nat}(hn:vs.Nodup)(hd:ds.length=vs.length):∀(us:List Nat),(∀ u∈us,u∈vs)→us.flatMap (ovr vs ds)=us.map (at_ vs ds)
 | [],_=>rfl
 | u :: us,h=>by
  rw[List.flatMap_cons,zpO hn hd.symm (h u qav),zmI hn hd us fun w hw=>h w (qao _ hw)];rfl
def Fc.at(f:Fc)(vs ds:List Nat):Nat:=f.ws.getD (dot (f.vs.map (at_ vs ds)) (zbu f.cs)) 0
theorem zo3{f:Fc}(hf:FcOk f){vs ws ds:List Nat}(hl:vs.length≤24)(hw:vs.length=ws.length)(hn:vs.Nodup)(hb:zcq ws ds)(hs:Sub vs ws f.vs f.cs):zdd f.D (iL vs) (iL ds)=some ((f.at vs ds:Nat):Int):=by
 have hd:ds.length=vs.length:=by rw[hb.len,hw]
 have h1:=hs.below hw hb;have h2:=zpR h1;unfold zdd;have e:=zo1 hf hl hd (f.vs.length+2) 0 [] (qaL _) (qaL _) (by omega);rw[qaP,qa5,show((0:Nat):Int)=0 from rfl,zmI hn hd _ hs.mem]at e;rw[show f.D.vars=iL f.vs from rfl,zaB,zbg,show([]:List Int)=iL []from rfl,e,qaa,show f.D.cards=iL f.cs from rfl,zsP h1 (fun c hc=>(hf.card c hc).1) hf.prod hf.le,qaa,show f.D.w=iL f.ws from rfl,zdY (by rw[hf.size]; exact h2),qaa];rfl
theorem zsp{a:Nat}(ha:a<18446744073709551616):zof .u64 (a:Int) 4294967295=((a % 4294967296:Nat):Int):=by
 rw[show(4294967295:Int)=((4294967295:Nat):Int)from rfl,zvd ha (by omega)];congr 1
 exact Nat.and_two_pow_sub_one_eq_mod a 32
theorem zqh(a:Nat):zmO .u64 (a:Int) 32=some ((a / 4294967296:Nat):Int):=by
 have h:=zvj (a:=a) (v:=32) (by omega);rw[show((32:Nat):Int)=32 from rfl]at h;rw[h,qbu]
theorem ztx{x y:Nat}(hx:x<18446744073709551616)(hy:y<18446744073709551616):zcM (x:Int) (y:Int)=some (((x * y / 18446744073709551616:Nat):Int),((x * y % 18446744073709551616:Nat):Int)):=by
 unfold zcM;rw[zqh,qaa,zqh,qaa,zsp hx,zsp hy];have ex:x=x / 4294967296 * 4294967296+x % 4294967296:=by omega
 have ey:y=y / 4294967296 * 4294967296+y % 4294967296:=by omega
 have exy:x * y=(x / 4294967296)* (y / 4294967296)* 18446744073709551616+((x / 4294967296)* (y % 4294967296)+(x % 4294967296)* (y / 4294967296))* 4294967296+(x % 4294967296)* (y % 4294967296):=by
  have:∀ a b c d:Nat,(a * 4294967296+b)* (c * 4294967296+d)=a * c * 18446744073709551616+(a * d+b * c)* 4294967296+b * d:=by
   intro a b c d;rw[qaN,Nat.mul_add,Nat.mul_add,Nat.mul_mul_mul_comm,show b * (c * 4294967296)=b * c * 4294967296 from(qbT _ _ _).symm,show a * 4294967296 * d=a * d * 4294967296 by rw[qbT,qbD 4294967296 d,qbT]];omega
  calc x * y=(x / 4294967296 * 4294967296+x % 4294967296)* (y / 4294967296 * 4294967296+y % 4294967296):=by rw[← ex,← ey]
   _=_:=this _ _ _ _
 rw[show(x:Int)* (y:Int)=((x * y:Nat):Int)from(qa1 x y).symm,zsU];have ha:x / 4294967296≤4294967295:=by omega
 have hb:x % 4294967296≤4294967295:=by omega
 have hc:y / 4294967296≤4294967295:=by omega
 have hd:y % 4294967296≤4294967295:=by omega
 rw[exy];generalize x / 4294967296=a at *;generalize x % 4294967296=b at *;generalize y / 4294967296=c at *;generalize y % 4294967296=d at *;have h1:a * c≤4294967295 * 4294967295:=qbC ha hc;have h2:a * d≤4294967295 * 4294967295:=qbC ha hd;have h3:b * c≤4294967295 * 4294967295:=qbC hb hc;have h4:b * d≤4294967295 * 4294967295:=qbC hb hd;rw[← qa1,← qa1,← qa1,← qa1];generalize a * c=p at *;generalize a * d=q at *;generalize b * c=r at *;generalize b * d=s at *
 rw[zdq (n:=s) (by omega),zqh,qaa,zdq (n:=q) (by omega),← qbY,zdq (n:=q+s / 4294967296) (by omega),zqh,qaa,zsp (by omega),zdq (n:=r) (by omega),← qbY,zdq (n:=(q+s / 4294967296) % 4294967296+r) (by omega),zqh,qaa,
  zdq (n:=p) (by omega),← qbY,zdq (n:=p+(q+s / 4294967296) / 4294967296) (by omega),← qbY,zdq (n:=p+(q+s / 4294967296) / 4294967296+((q+s / 4294967296) % 4294967296+r) / 4294967296) (by omega)]
 congr 2
 congr 1
 omega
theorem zfS{xs:List Nat}{v:Nat}:(pos xs v).isSome=decide (v∈xs):=by
 cases h:pos xs v with
 | none=>exact(decide_eq_false (zjI h)).symm
 | some k=>
  obtain⟨hk,e⟩:=zfu h;exact(decide_eq_true (e ▸ qbA hk)).symm
theorem zgR(u d:Nat)(us ds:List Nat)(v:Nat):at_ (u :: us) (d :: ds) v=bif u == v then d else at_ us ds v:=rfl
theorem zoY:∀ {vs ds:List Nat} {v k:Nat},pos vs v=some k→at_ vs ds v=ds.getD k 0
 | [],_,_,_,h=>by cases h
 | u :: us,[],v,k,_=>by simp[at_]
 | u :: us,d :: ds,v,k,h=>by
  rw[zgR];rw[show pos (u :: us) v=bif u == v then some 0 else(pos us v).map (· + 1)from rfl]at h;cases hb:(u == v)with
  | true=>rw[hb,cond_true]at h; cases h; rw[cond_true]; rfl
  | false=>
   rw[hb,cond_false]at h;cases hp:pos us v with
   | none=>rw[hp]at h; cases h
   | some j=>rw[hp]at h; cases h; rw[cond_false,zoY hp]; rfl
def inB(f g:Fc)(v:Nat):Bool:=decide (v∈f.vs)|| decide (v∈g.vs)
def cdF(f g:Fc)(v:Nat):Nat:=bif decide (v∈f.vs)then at_ f.vs f.cs v else at_ g.vs g.cs v
def uni(f g:Fc):List Nat:=(List.range' 0 64).filter (inB f g)
theorem ziq{xs:List Nat}{v:Nat}(h:xs.length≤100000):zd6 8 (iL xs) [(v:Int)]=some (iL (xs ++ [v])):=by
 rw[zjY (by rw[zaB]; simp; omega),zm2]; rfl
theorem zoL:∀ {xs:List Nat} {l:Nat},xs.Pairwise (· < ·)→(∀ x∈xs,l≤x∧x<64)→xs.length≤64 - l
 | [],_,_,_=>by simp
 | x :: xs,l,h,hb=>by
  obtain⟨h1,h2⟩:=qba.1 h;have hx:=hb x qav;have:=zoL (l:=x+1) h2 fun y hy=>⟨h1 y hy,(hb y (qao _ hy)).2⟩
  rw[qaS]; omega
theorem zfs{f:Fc}(hf:FcOk f){v k:Nat}(hp:pos f.vs v=some k):za0 f.D.cards (oz9 (some k))=some ((at_ f.vs f.cs v:Nat):Int):=by
 obtain⟨hk,_⟩:=zfu hp;show za0 (iL f.cs) (k:Int)=_;rw[zdY (by rw[← hf.len]; exact hk),zoY hp]
theorem zhr{f g:Fc}(hf:FcOk f)(hg:FcOk g):∀(m v n:Nat) (a b:List Nat),v+m=64→a.length≤v→b.length≤v→m<n →
  zbQ f.D g.D n (v:Int) (iL a) (iL b)=some (iL (a ++ (List.range' v m).filter (inB f g)),iL (b ++ ((List.range' v m).filter (inB f g)).map (cdF f g)))
 | _,_,0,_,_,_,_,_,h=>absurd h (qax _)
 | 0,v,n+1,a,b,h,_,_,_=>by
  unfold zbQ;rw[show decide ((v:Int)≤63)=false from decide_eq_false (by omega),cond_false];simp
 | m+1,v,n+1,a,b,h,ha,hb,hn=>by
  unfold zbQ;rw[show decide ((v:Int)≤63)=true from decide_eq_true (by omega),cond_true,zmU hf,qaa,zmU hg,qaa,znG,znG,zcx,zcx,qbd];cases hp:pos f.vs v with
  | some k=>
   have hm:decide (v∈f.vs)=true:=by rw[← zfS,hp]; rfl
   rw[qbx,cond_true,ziq (by omega),qaa,zfs hf hp,qaa,ziq (by omega),qaa,qaa];simp only[];rw[zat (by omega),zhr hf hg m (v+1) n _ _ (by omega) (by simp; omega) (by simp; omega) (by omega),qb8 (by unfold inB; rw[hm]; rfl)];simp only[qaz,qaV,qaY];rw[show cdF f g v=at_ f.vs f.cs v by unfold cdF; rw[hm]; rfl]
  | none=>
   have hm:decide (v∈f.vs)=false:=by rw[← zfS,hp]; rfl
   rw[qbK,cond_false];cases hq:pos g.vs v with
   | some k=>
    have hm2:decide (v∈g.vs)=true:=by rw[← zfS,hq]; rfl
    rw[qbx,cond_true,ziq (by omega),qaa,zfs hg hq,qaa,ziq (by omega),qaa,qaa];simp only[];rw[zat (by omega),zhr hf hg m (v+1) n _ _ (by omega) (by simp; omega) (by simp; omega) (by omega),qb8 (by unfold inB; rw[hm2]; simp)];simp only[qaz,qaV,qaY];rw[show cdF f g v=at_ g.vs g.cs v by unfold cdF; rw[hm]; rfl]
   | none=>
    have hm2:decide (v∈g.vs)=false:=by rw[← zfS,hq]; rfl
    rw[qbK,cond_false,qaa];simp only[];rw[zat (by omega),zhr hf hg m (v+1) n _ _ (by omega) (by omega) (by omega) (by omega),List.filter_cons_of_neg (by unfold inB; rw[hm,hm2]; simp)]
theorem zqy{f g:Fc}(hf:FcOk f)(hg:FcOk g):zdZ f.D g.D=some (iL (uni f g),iL ((uni f g).map (cdF f g))):=by
 unfold zdZ;have:=zhr hf hg 64 0 ((63 - 0+2:Int).toNat) [] [] rfl (qaj _) (qaj _) (by decide);rw[show zbQ f.D g.D ((63 - 0+2:Int).toNat) 0 [] []=_ from this];rfl
theorem zhX{f g:Fc}(hf:FcOk f)(hg:FcOk g){v:Nat}:v∈uni f g↔v∈f.vs∨v∈g.vs:=by
 unfold uni inB;simp only[qb9,List.mem_range'_1,qbf,decide_eq_true_eq];constructor
 ·exact fun h=>h.2
 rintro(h | h)
 ·exact⟨⟨qaL _,by have:=hf.var _ h; omega⟩,.inl h⟩
 exact⟨⟨qaL _,by have:=hg.var _ h; omega⟩,.inr h⟩
theorem zjN(f g:Fc):(uni f g).Pairwise (· < ·):=List.Pairwise.filter _ List.pairwise_lt_range'
theorem zrK{f g:Fc}:∀ v∈uni f g,v<64:=by
 intro v hv;have:=(qb9.1 hv).1;simp only[List.mem_range'_1]at this;omega
theorem zrh(f g:Fc):(uni f g).length≤64:=zoL (l:=0) (zjN f g) fun x hx=>⟨qaL _,zrK x hx⟩
theorem znv:∀ {a b:List Int},a.Pairwise (· < ·)→b.Pairwise (· < ·)→(∀ x,x∈a↔x∈b)→a=b
 | [],[],_,_,_=>rfl
 | [],b :: bs,_,_,h=>by have:=(h b).2 qav; simp at this
 | a :: xs,[],_,_,h=>by have:=(h a).1 qav; simp at this
 | a :: xs,b :: bs,ha,hb,h=>by
  obtain⟨ha1,ha2⟩:=qba.1 ha;obtain⟨hb1,hb2⟩:=qba.1 hb;have e:a=b:=by
   rcases qaM.1 ((h a).1 qav)with h1 | h1
   ·exact h1
   rcases qaM.1 ((h b).2 qav)with h2 | h2
   ·exact h2.symm
   have:=hb1 a h1; have:=ha1 b h2; omega
  subst e;refine congrArg (a :: ·) (znv ha2 hb2 fun x=>⟨fun hx=>?_,fun hx=>?_⟩)
  ·rcases qaM.1 ((h x).1 (qao _ hx))with rfl | h1
   ·have:=ha1 x hx; omega
   exact h1
  rcases qaM.1 ((h x).2 (qao _ hx))with rfl | h1
  ·have:=hb1 x hx; omega
  exact h1
section
variable {s:List Int}
theorem zj1{j:Nat}(h:j<s.length):s.toArray[j]! = s[j]:=by simp[h]
theorem zru(hs:s.Pairwise (· ≤ ·)){i j:Nat}(hij:i≤j)(hj:j<s.length):s.toArray[i]!≤s.toArray[j]!:=by
 rw[zj1 (by omega),zj1 hj];rcases Nat.eq_or_lt_of_le hij with h | h
 ·subst h; exact qbp _
 exact List.pairwise_iff_getElem.1 hs i j (by omega) hj h
theorem zrV(hs:s.Pairwise (· ≤ ·)):(Go.Lib.compact s).Pairwise (· < ·):=by
 unfold Go.Lib.compact Go.Lib.compactUpTo;refine List.pairwise_map.2 ((List.Pairwise.filter _ (List.pairwise_lt_range (n:=s.length))).imp_of_mem fun {a b} _ hb hab=>?_);obtain⟨h1,h2⟩:=qb9.1 hb;have hb:=qbW.1 h1;have h3:s.toArray[b]!≠s.toArray[b - 1]!:=by
  rcases of_decide_eq_true h2 with h | h
  ·omega
  exact h
 have h4:=zru hs (show a≤b - 1 by omega) (by omega);have h5:=zru hs (show b - 1≤b by omega) hb;omega
theorem zm9:∀ j:Nat,j<s.length→∃ i,i<s.length∧Go.Lib.keeps s.toArray i=true∧s.toArray[i]! = s.toArray[j]!
 | 0,h=>⟨0,h,decide_eq_true (.inl rfl),rfl⟩
 | j+1,h=>by
  by_cases e:s.toArray[j+1]! = s.toArray[j]!
  ·obtain⟨i,h1,h2,h3⟩:=zm9 j (by omega);exact⟨i,h1,h2,h3.trans e.symm⟩
  exact⟨j+1,h,decide_eq_true (.inr e),rfl⟩
theorem zsF{x:Int}:x∈Go.Lib.compact s↔x∈s:=by
 unfold Go.Lib.compact Go.Lib.compactUpTo;constructor
 ·intro h;obtain⟨j,h1,rfl⟩:=qaZ.1 h;have hj:=qbW.1 (qb9.1 h1).1;rw[zj1 hj];exact qbA hj
 intro h;obtain⟨j,hj,rfl⟩:=List.mem_iff_getElem.1 h;obtain⟨i,h1,h2,h3⟩:=zm9 j hj;exact qaZ.2 ⟨i,qb9.2 ⟨qbW.2 h1,h2⟩,h3.trans (zj1 hj)⟩
end
theorem zqW(zs:List Int):(zeR zs).Pairwise (· ≤ ·):=by
 have:=List.pairwise_mergeSort (le:=fun x y:Int=>decide (x≤y)) (fun a b c h1 h2=>by simp at *; omega) (fun a b=>by simp; omega) zs;exact this.imp fun h=>by simpa using h
theorem zoJ{zs:List Int}{x:Int}:x∈zeR zs↔x∈zs:=List.mem_mergeSort
theorem ztT{xs:List Nat}(h:xs.Pairwise (· < ·)):(iL xs).Pairwise (· < ·):=List.pairwise_map.2 (h.imp fun h=>Int.ofNat_lt.2 h)
theorem zrA{xs:List Nat}{x:Int}:x∈iL xs↔∃ k∈xs,(k:Int)=x:=qaZ
theorem zrZ{f g:Fc}(hf:FcOk f)(hg:FcOk g):Go.Lib.compact (zeR (iL f.vs ++ iL g.vs))=iL (uni f g):=by
 refine znv (zrV (zqW _)) (ztT (zjN f g)) fun x=>?_
 rw[zsF,zoJ,← zm2,zrA,zrA];constructor
 ·rintro⟨k,h1,h2⟩; exact⟨k,(zhX hf hg).2 (qb4.1 h1),h2⟩
 rintro⟨k,h1,h2⟩; exact⟨k,qb4.2 ((zhX hf hg).1 h1),h2⟩
theorem zoR{f g:Fc}(hf:FcOk f)(hg:FcOk g){vs:List Nat}(hl:vs.length≤100)(hm:∀ v∈vs,v∈f.vs∨v∈g.vs):∀(n i:Nat),i≤vs.length→vs.length - i<n →
  zbp (iL vs) f.T g.T n (i:Int) (iL ((vs.map (cdF f g)).take i ++ List.replicate (vs.length - i) 0))=some (iL (vs.map (cdF f g)))
 | 0,_,_,h=>absurd h (qax _)
 | n+1,i,hi,hn=>by
  unfold zbp;rw[zaB];rcases qaR i vs.length with h3 | h3
  ·have ih:=zoR hf hg hl hm n (i+1) h3 (by omega);have ht:((vs.map (cdF f g)).take i).length=i:=by simp; omega
   have e:List.replicate (vs.length - i) 0=0 :: List.replicate (vs.length - (i+1)) 0:=by
    rw[show vs.length - i=(vs.length - (i+1))+1 by omega,qaO]
   have e2:(vs.map (cdF f g)).take (i+1)=(vs.map (cdF f g)).take i ++ [cdF f g vs[i]]:=by
    rw[List.take_succ_eq_append_getElem (by simpa using h3)]; simp
   rw[e2,qaV,qaY]at ih;rw[ziT h3,cond_true,zcV h3,qaa,zkY hf,qaa,zcx,znG,e];cases hp:pos f.vs vs[i]with
   | some k=>
    have hm:decide (vs[i]∈f.vs)=true:=by rw[← zfS,hp]; rfl
    rw[show cdF f g vs[i]=at_ f.vs f.cs vs[i] by unfold cdF; rw[hm]; rfl]at ih;rw[qbx,cond_true,show f.T.factor=f.D from rfl,zfs hf hp,qaa,zcc ht,qaa,zcY ht,qaa,qaa,zat (by omega)];exact ih
   | none=>
    have hm1:decide (vs[i]∈f.vs)=false:=by rw[← zfS,hp]; rfl
    rw[show cdF f g vs[i]=at_ g.vs g.cs vs[i] by unfold cdF; rw[hm1]; rfl]at ih;have hm2:vs[i]∈g.vs:=(hm vs[i] (qbA h3)).resolve_left (of_decide_eq_false hm1);obtain⟨k,hq⟩:=zr0 hm2;rw[qbK,cond_false,zkY hg,qaa,zcx,hq,show g.T.factor=g.D from rfl,zfs hg hq,qaa,zcc ht,qaa,zcY ht,qaa,qaa,zat (by omega)];exact ih
  obtain rfl:i=vs.length:=by omega
  rw[zjd,cond_false,Nat.sub_self,qb2,qa6,qaJ (by simp)]
theorem zr2{f g:Fc}(hf:FcOk f)(hg:FcOk g):zb7 f.T g.T=some (iL (uni f g),iL ((uni f g).map (cdF f g))):=by
 have hl:=zrh f g;have h1:=hf.le; have h2:=hg.le; have h3:=hf.len; have h4:=hg.len;unfold zb7
 rw[show f.T.factor.vars=iL f.vs from rfl,show g.T.factor.vars=iL g.vs from rfl,zhp (by rw[zaB]; omega),qaa,zjY (by rw[zaB,zaB]; omega),qaa,
  show ziy 8 (iL f.vs ++ iL g.vs)=some (zeR (iL f.vs ++ iL g.vs))from by unfold ziy; rw[if_pos (by rw[qau,zaB,zaB]; simp only[zap]; omega)],qaa,
  show ztg (zeR (iL f.vs ++ iL g.vs))=some (Go.Lib.compact (zeR (iL f.vs ++ iL g.vs)))from rfl,qaa,zrZ hf hg,zaB,zfJ (by omega),qaa,zbg]
 have:=zoR hf hg (vs:=uni f g) (by omega) (fun v hv=>(zhX hf hg).1 hv) ((uni f g).length+2) 0 (qaL _) (by omega);rw[qbV,qa5,Nat.sub_zero,zg9]at this;rw[show zbp (iL (uni f g)) f.T g.T ((uni f g).length+2) 0 (List.replicate (uni f g).length 0)=_ from this];rfl
abbrev noF:S_api_Factor:=⟨[],[],[]⟩
theorem ztl{P:Nat}:((bif (((P / 18446744073709551616:Nat):Int)== 0)then some (decide ((4611686018427387903:Int)<((P % 18446744073709551616:Nat):Int)))else some true):Option Bool)=some (!decide (P≤zgE)):=by
 by_cases h:P / 18446744073709551616=0
 ·rw[h,show(((0:Nat):Int)== 0)=true from rfl,cond_true];congr 1
  by_cases h2:P≤zgE
  ·rw[decide_eq_true h2]; exact decide_eq_false (by have:P≤4611686018427387903:=h2; omega)
  rw[decide_eq_false h2]; exact decide_eq_true (by have:¬ P≤4611686018427387903:=h2; omega)
 rw[show(((P / 18446744073709551616:Nat):Int)== 0)=false from beq_eq_false_iff_ne.2 (by omega),cond_false,decide_eq_false (show ¬ P≤zgE by intro(h2:P≤4611686018427387903); omega)];rfl
theorem ztP{P:Nat}:((bif decide ((0:Int)<((P / 18446744073709551616:Nat):Int))then some true else some (decide ((4611686018427387903:Int)<((P % 18446744073709551616:Nat):Int)))):Option Bool)=some (!decide (P≤zgE)):=by
 by_cases h:P / 18446744073709551616=0
 ·rw[h,show decide ((0:Int)<((0:Nat):Int))=false from rfl,cond_false];congr 1
  by_cases h2:P≤zgE
  ·rw[decide_eq_true h2]; exact decide_eq_false (by have:P≤4611686018427387903:=h2; omega)
  rw[decide_eq_false h2]; exact decide_eq_true (by have:¬ P≤4611686018427387903:=h2; omega)
 rw[decide_eq_true (show(0:Int)<((P / 18446744073709551616:Nat):Int) by omega),cond_true,decide_eq_false (show ¬ P≤zgE by intro(h2:P≤4611686018427387903); omega)];rfl
theorem zjw{x:Nat}(h:x≤zgE):IntKind.u64.wrap (x:Int)=(x:Int):=by
 have:x≤4611686018427387903:=h;rw[zsU,qbb (by omega)]
theorem zre{P:Nat}(h:P≤zgE):w64 ((P % 18446744073709551616:Nat):Int)=(P:Int):=by
 have:P≤4611686018427387903:=h;rw[qbb (by omega),zcX (by omega)]
theorem zoq{x y:Nat}(hx:x≤zgE)(hy:y≤zgE):zc1 (x:Int) (y:Int)=some (bif decide (x * y≤zgE)then(((x * y:Nat):Int),true)else(0,false)):=by
 have h1:x≤4611686018427387903:=hx;have h2:y≤4611686018427387903:=hy;unfold zc1;rw[zjw hx,zjw hy,ztx (by omega) (by omega),qaa];simp only[];rw[ztP,qaa];by_cases h:x * y≤zgE
 ·rw[decide_eq_true h,qaD,cond_false,zre h]; rfl
 rw[decide_eq_false h,qaT,cond_true]; rfl
structure Dom (u c:List Nat):Prop where
 len:u.length=c.length
 nodup:u.Nodup
 card:∀ x∈c,1≤x∧x≤8
 le:c.length≤12
 prod:zam c≤4096
theorem zlI{cs:List Nat}(h:zbv (iL cs)=true):(∀ c∈cs,1≤c∧c≤8)∧zam cs≤4096∧cs.length≤12:=by
 obtain⟨ns,h1,h2⟩:=zeH h;have:cs=ns:=by rw[← zgh cs,h1,zgh]
 subst this;exact h2
theorem Fc.zqZ{f:Fc}(hf:FcOk f)(u ds:List Nat):f.at u ds≤zgE:=by
 unfold Fc.at;generalize dot _ _=k;by_cases h:k<f.ws.length
 ·rw[qbh,qag h];exact hf.num _ (qbA h)
 rw[qbh,qbo (by omega)];exact qaL _
theorem wat{f:Fc}(hf:FcOk f){u c ds:List Nat}(hD:Dom u c)(hs:Sub u c f.vs f.cs)(hb:zcq c ds):za0 f.D.w ((dot ds (u.map (stp f.vs f.cs)):Nat):Int)=some ((f.at u ds:Nat):Int):=by
 rw[zpz hD.nodup hf.len (zdv hf.inc)];show za0 (iL f.ws) _=_;have:=zpR (Sub.below hD.len hb hs);rw[zdY (by rw[hf.size]; exact this)];rfl
theorem zgN(c ss:List Nat)(i m:Nat):zgT c ss i (m+1)=((i:Int),((dot (dig c i) ss:Nat):Int),iL (dig c i)):: zgT c ss (i+1) m:=by
 unfold zgT;rw[qbd,qaz]
theorem zri{f:Fc}(hf:FcOk f){r12:Int×Int}{u c:List Nat}{e:Int}(hD:Dom u c)(hs:Sub u c f.vs f.cs):∀(m i:Nat) (ys:List Nat),i+m=zam c→ys.length=i →
  zbX (f.T,e) r12 (zgT c (u.map (stp f.vs f.cs)) i m) (iL (ys ++ List.replicate m 0))=some (iL (ys ++ (List.range' i m).map fun j=>f.at u (dig c j)))
 | 0,i,ys,_,_=>by simp[zgT,zbX]
 | m+1,i,ys,h,hy=>by
  rw[zgN];show(za0 f.D.w ((dot (dig c i) (u.map (stp f.vs f.cs)):Nat):Int)).bind _=_;rw[wat hf hD hs (zdx hD.card (by omega)),qaa];simp only[];rw[qaO,zcc hy,qaa,zcY hy,qaa,show ys ++ f.at u (dig c i):: List.replicate m 0=(ys ++ [f.at u (dig c i)])++ List.replicate m 0 by simp,zri hf hD hs m (i+1) _ (by omega) (by simp[hy]),qbd,qaz,qaV,qaY]
theorem zrI{g:Fc}(hg:FcOk g){r12:Int×Int}{u c:List Nat}{e:Int}(hD:Dom u c)(hs:Sub u c g.vs g.cs){fa:Nat→Nat}(hfa:∀ j,fa j≤zgE):∀(m i:Nat) (ys:List Nat),i+m=zam c→ys.length=i →
  zbV (g.T,e) r12 (zgT c (u.map (stp g.vs g.cs)) i m) (iL (ys ++ (List.range' i m).map fa))=
   some (bif (List.range' i m).all fun j=>decide (fa j * g.at u (dig c j)≤zgE)then .go (iL (ys ++ (List.range' i m).map fun j=>fa j * g.at u (dig c j)))else .ret (noF,6))
 | 0,i,ys,_,_=>by simp[zgT,zbV]
 | m+1,i,ys,h,hy=>by
  have h1:fa i≤4611686018427387903:=hfa i;have h2:g.at u (dig c i)≤4611686018427387903:=Fc.zqZ hg u _;rw[zgN,qbd,qaz,qbB];show(za0 (iL (ys ++ fa i :: _)) (i:Int)).bind _=_;rw[zcc hy,qaa];simp only[];rw[show(g.T,e).1.factor.w=g.D.w from rfl,wat hg hD hs (zdx hD.card (by omega)),qaa,zjw h1,zjw h2,ztx (by omega) (by omega),qaa];simp only[];rw[ztl,qaa];by_cases hp:fa i * g.at u (dig c i)≤zgE
  ·rw[decide_eq_true hp,qaD,cond_false,qaa,zre hp,zcY hy,qaa,
    show ys ++ fa i * g.at u (dig c i)::(List.range' (i+1) m).map fa=(ys ++ [fa i * g.at u (dig c i)])++ (List.range' (i+1) m).map fa by simp,zrI hg hD hs hfa m (i+1) _ (by omega) (by simp[hy])]
   simp
  rw[decide_eq_false hp,qaT,cond_true,qbL,cond_false]
theorem zqm{f g:Fc}(hf:FcOk f)(hg:FcOk g){x:List Int}{u c:List Nat}(hD:Dom u c)(hs:Sub u c f.vs f.cs)(ht:Sub u c g.vs g.cs):∀(m i n:Nat) (ys:List Nat),i+m=zam c→ys.length=i→m<n →
  zcI (zpD c) f.D (iL u,x) g.D n (i:Int) (iL ys)=
   some (bif (List.range' i m).all fun j=>decide (f.at u (dig c j)* g.at u (dig c j)≤zgE)then .go (iL (ys ++ (List.range' i m).map fun j=>f.at u (dig c j)* g.at u (dig c j)))else .ret (noF,6))
 | _,_,0,_,_,_,h=>absurd h (qax _)
 | 0,i,n+1,ys,h,hy,_=>by
  unfold zcI;obtain rfl:i=zam c:=by omega
  rw[zfx,zjd,cond_false];simp
 | m+1,i,n+1,ys,h,hy,hn=>by
  have hp4:=hD.prod;have hb:=zdx hD.card (show i<zam c by omega);have hl:u.length≤24:=by have:=hD.le; have:=hD.len; omega
  unfold zcI;rw[zfx,ziT (by omega),cond_true,zmL (by omega),qaa];simp only[];rw[zo3 hf hl hD.len hD.nodup hb hs,qaa,zo3 hg hl hD.len hD.nodup hb ht,qaa,zoq (Fc.zqZ hf _ _) (Fc.zqZ hg _ _),qaa,qbd,qbB];by_cases hp:f.at u (dig c i)* g.at u (dig c i)≤zgE
  ·rw[decide_eq_true hp,cond_true,qaH];simp only[];rw[cond_true,ziq (by omega),qaa,zat (by omega),zqm hf hg hD hs ht m (i+1) n _ (by omega) (by simp[hy]) (by omega)];simp
  rw[decide_eq_false hp,cond_false,qbL,cond_false];rfl
theorem zqa{h:Nat→Nat}{v:Nat}:∀ {us:List Nat},v∈us→at_ us (us.map h) v=h v
 | [],hm=>by simp at hm
 | u :: us,hm=>by
  rw[qaz,zgR];cases hb:(u == v)with
  | true=>rw[cond_true]; rw[beq_iff_eq]at hb; rw[hb]
  | false=>
   rw[cond_false];rcases qaM.1 hm with e | e
   ·rw[e]at hb; simp at hb
   exact zqa e
theorem zrC:∀ {vs ds:List Nat} {i:Nat} (hn:vs.Nodup) (h:i<vs.length),at_ vs ds vs[i]=ds.getD i 0
 | v :: vs,[],i,_,_=>by simp[at_]
 | v :: vs,d :: ds,0,_,_=>by rw[zgR]; simp
 | v :: vs,d :: ds,i+1,hn,h=>by
  obtain⟨h1,h2⟩:=qbG.1 hn;have hi:i<vs.length:=by simpa using h
  rw[zgR,show(v :: vs)[i+1]=vs[i]from rfl,show(v == vs[i])=false from beq_false_of_ne (fun e=>h1 (e ▸ qbA hi)),cond_false,zrC h2 hi];rfl
theorem znd{vs ws:List Nat}:∀ {us cs:List Nat},us.length=cs.length→us.Nodup→(∀ u∈us,u∈vs∧at_ vs ws u=at_ us cs u)→Sub vs ws us cs
 | [],[],_,_,_=>trivial
 | [],c :: cs,h,_,_=>by simp at h
 | u :: us,[],h,_,_=>by simp at h
 | u :: us,c :: cs,hl,hn,h=>by
  obtain⟨h1,h2⟩:=qbG.1 hn;refine⟨⟨(h u qav).1,?_⟩,znd (by simpa using hl) h2 fun x hx=>⟨(h x (qao _ hx)).1,?_⟩⟩
  ·rw[(h u qav).2,zgR,beq_self_eq_true,cond_true]
  rw[(h x (qao _ hx)).2,zgR,show(u == x)=false from beq_false_of_ne (fun e=>h1 (e ▸ hx)),cond_false]
def Agr(f g:Fc):Prop:=∀ v,v∈f.vs→v∈g.vs→at_ f.vs f.cs v=at_ g.vs g.cs v
theorem zhC{f g:Fc}(hf:FcOk f)(hg:FcOk g):zcW f g 0 f.vs=true↔Agr f g:=by
 have key:∀(m i:Nat),i+m=f.vs.length→(zcW f g i (f.vs.drop i)=true↔∀ v∈f.vs.drop i,v∈g.vs→at_ f.vs f.cs v=at_ g.vs g.cs v):=by
  intro m;induction m with
  | zero=>intro i h; rw[qbH (by omega)]; simp[zcW]
  | succ m ih=>
   intro i h;have hi:i<f.vs.length:=by omega
   rw[qan hi];rw[show zcW f g i (f.vs[i]:: f.vs.drop (i+1))=((match pos g.vs f.vs[i]with | none=>true | some k=>g.cs.getD k 0 == f.cs.getD i 0) && zcW f g (i+1) (f.vs.drop (i+1)))from rfl,qaf,ih (i+1) (by omega),List.forall_mem_cons];refine and_congr ?_ Iff.rfl;rw[zrC (zdv hf.inc) hi];cases hp:pos g.vs f.vs[i]with
   | none=>exact⟨fun _ hm=>absurd hm (zjI hp),fun _=>rfl⟩
   | some k=>
    obtain⟨hk,e⟩:=zfu hp;rw[zoY hp];simp only[beq_iff_eq];exact⟨fun h _=>h.symm,fun h=>(h (e ▸ qbA hk)).symm⟩
 have:=key f.vs.length 0 (by omega)
 rwa [qaP]at this
def ucs(f g:Fc):List Nat:=(uni f g).map (cdF f g)
theorem zu6{f g:Fc}{v:Nat}(h:v∈f.vs):cdF f g v=at_ f.vs f.cs v:=by unfold cdF; rw[decide_eq_true h,cond_true]
theorem zu8{f g:Fc}(ha:Agr f g){v:Nat}(h:v∈g.vs):cdF f g v=at_ g.vs g.cs v:=by
 unfold cdF;by_cases h1:v∈f.vs
 ·rw[decide_eq_true h1,cond_true,ha v h1 h]
 rw[decide_eq_false h1,cond_false]
theorem ztt{f g:Fc}(hf:FcOk f)(hg:FcOk g):Sub (uni f g) (ucs f g) f.vs f.cs:=
 znd hf.len (zdv hf.inc) fun u hu=>by
  have hm:=(zhX hf hg).2 (.inl hu);exact⟨hm,by unfold ucs; rw[zqa hm,zu6 hu]⟩
theorem ztH{f g:Fc}(hf:FcOk f)(hg:FcOk g)(ha:Agr f g):Sub (uni f g) (ucs f g) g.vs g.cs:=
 znd hg.len (zdv hg.inc) fun u hu=>by
  have hm:=(zhX hf hg).2 (.inr hu);exact⟨hm,by unfold ucs; rw[zqa hm,zu8 ha hu]⟩
theorem zmm{f g:Fc}(h:zbv (iL (ucs f g))=true):Dom (uni f g) (ucs f g):=by
 obtain⟨h1,h2,h3⟩:=zlI h;exact⟨by unfold ucs; simp,zdv (zjN f g),h1,h3,h2⟩
def znX(f g:Fc):Bool:=(List.range' 0 (zam (ucs f g))).all fun j=>decide (f.at (uni f g) (dig (ucs f g) j)* g.at (uni f g) (dig (ucs f g) j)≤zgE)
def zuN(f g:Fc):Fc:=⟨uni f g,ucs f g,(List.range' 0 (zam (ucs f g))).map fun j=>f.at (uni f g) (dig (ucs f g) j)* g.at (uni f g) (dig (ucs f g) j)⟩
def mulR(f g:Fc):S_api_Factor×Int:=bif zbv (iL (ucs f g))then bif znX f g then((zuN f g).D,0)else(noF,6)else(noF,3)
theorem zqg{f g:Fc}(hf:FcOk f)(hg:FcOk g)(ha:Agr f g):zfk 5000 f.D g.D=some (mulR f g):=by
 unfold zfk mulR;rw[zqy hf hg,qaa];show(zcB (iL (ucs f g))).bind _=_;rw[zkK,qaa];cases hc:zbv (iL (ucs f g))with
 | false=>rfl
 | true=>
  have hD:=zmm hc;rw[cond_true,cond_true];show(zd1 5000 (iL (ucs f g))).bind _=_;rw[zt1 hD.card hD.le hD.prod,qaa];have:=zqm hf hg (x:=iL (ucs f g)) hD (ztt hf hg) (ztH hf hg ha) (zam (ucs f g)) 0 (zam (ucs f g)+2) [] (by omega) rfl (by omega);rw[zfx,zbg];rw[show zcI (zpD (ucs f g)) f.D (iL (uni f g),iL ((uni f g).map (cdF f g))) g.D (zam (ucs f g)+2) 0 []=_ from this];unfold znX;cases hk:(List.range' 0 (zam (ucs f g))).all fun j=>decide (f.at (uni f g) (dig (ucs f g) j)* g.at (uni f g) (dig (ucs f g) j)≤zgE)with
  | false=>rfl
  | true=>rfl
theorem zoI{f:Fc}(hf:FcOk f)(v:Nat):stp f.vs f.cs v≤4096:=by
 rw[zms hf.len];cases hp:pos f.vs v with
 | none=>exact qaL _
 | some k=>
  simp only;by_cases h:k<(zbu f.cs).length
  ·rw[qbh,qag h];exact zne (fun c hc=>(hf.card c hc).1) hf.prod _ (qbA h)
  rw[qbh,qbo (by omega)];exact qaL _
theorem zhE(a b:List Int):za1 a b=some (a,b):=by rfl
theorem zih{f:Fc}(hf:FcOk f){u c:List Nat}(hD:Dom u c):zqp (iL c) (iL (u.map (stp f.vs f.cs)))=some (zgT c (u.map (stp f.vs f.cs)) 0 (zam c)):=
 ztn hD.card hD.le hD.prod (by rw[qbl,hD.len]) fun s hs=>by
  obtain⟨v,_,rfl⟩:=qaZ.1 hs;exact zoI hf v
theorem ztJ{f g:Fc}(hf:FcOk f)(hg:FcOk g):zaL f.D g.D=some (bif zcW f g 0 f.vs then mulR f g else(noF,2)):=by
 unfold zaL mulR;rw[zgZ hf,qaa];simp only[];rw[show((0:Int)== 0)=true from rfl,cond_true,zgZ hg,qaa];simp only[];rw[show((0:Int)== 0)=true from rfl,cond_true,zoF hf hg,qaa];cases ha:zcW f g 0 f.vs with
 | false=>rfl
 | true=>
  have hA:=(zhC hf hg).1 ha;rw[cond_true,cond_true,zr2 hf hg,qaa];show(zci (iL (ucs f g))).bind _=_;rw[zrs,qaa];cases hc:zbv (iL (ucs f g))with
  | false=>rfl
  | true=>
   have hD:=zmm hc;rw[cond_true,cond_true];have hlu:=zrh f g;have hp:=hD.prod;simp only[];rw[show((0:Int)== 0)=true from rfl,cond_true,zd3,zfJ (by omega),qaa,zlT hf (by omega),qaa,zhE,qaa];simp only[];rw[show iL ((uni f g).map (cdF f g))=iL (ucs f g)from rfl,zih hf hD,qaa,← zg9];have e1:=zri hf (r12:=((zam (ucs f g):Nat),0)) (e:=0) hD (ztt hf hg) (zam (ucs f g)) 0 [] (by omega) rfl;rw[qa5]at e1;rw[e1,qaa,zlT hg (by omega),qaa,zhE,qaa];simp only[];rw[zih hg hD,qaa];have e2:=zrI hg (r12:=((zam (ucs f g):Nat),0)) (e:=0) hD (ztH hf hg hA) (fa:=fun j=>f.at (uni f g) (dig (ucs f g) j)) (fun j=>Fc.zqZ hf _ _) (zam (ucs f g)) 0 [] (by omega) rfl;rw[e2,qaa];unfold znX;cases hk:(List.range' 0 (zam (ucs f g))).all fun j=>decide (f.at (uni f g) (dig (ucs f g) j)* g.at (uni f g) (dig (ucs f g) j)≤zgE)with
   | false=>rfl
   | true=>rfl
end Go.Dc
