/-
 Plain laws: numbers and sets of bits. Conditions: none.
-/
import Derived.Test.YtnfgibomhkbcpaaFgJ5
set_option linter.unusedSimpArgs false
set_option linter.unusedVariables false
namespace Go.Dc
open Go Go.Mx Go.Lx
theorem zd2{n:Nat}(h:n<9223372036854775808):w64 (n:Int)=(n:Int):=wrap64 (by omega) (by omega)
theorem zlu{n:Int}(h1:-9223372036854775808≤n)(h2:n<9223372036854775808):w64 n=n:=wrap64 h1 h2
theorem zbo{n:Nat}(h:n+1<9223372036854775808):w64 ((n:Int)+1)=((n+1:Nat):Int):=by
 rw[zlu (by omega) (by omega)]; omega
theorem zqw(n:Nat):IntKind.u64.wrap (n:Int)=((n % 18446744073709551616:Nat):Int):=by
 simp only[IntKind.wrap,IntKind.bits,IntKind.signed]; simp
theorem zcV{n:Nat}(h:n<18446744073709551616):IntKind.u64.wrap (n:Int)=(n:Int):=by
 rw[zqw,qa2 h]
theorem ztr{a b:Nat}(ha:a<18446744073709551616)(hb:b<18446744073709551616):zmQ .u64 (a:Int) (b:Int)=((a &&& b:Nat):Int):=by
 have h:(BitVec.ofInt 64 (a:Int) &&& BitVec.ofInt 64 (b:Int)).toNat=a &&& b:=by
  simp only[BitVec.ofInt_natCast,BitVec.toNat_and,BitVec.toNat_ofNat];rw[qa2 ha,qa2 hb]
 show IntKind.u64.wrap ((BitVec.ofInt 64 (a:Int) &&& BitVec.ofInt 64 (b:Int)).toNat:Int)=_;rw[h];exact zcV (qb2 Nat.and_le_left ha)
theorem zts{a v:Nat}(hv:v<64):zlo .u64 (a:Int) (v:Int)=some ((a >>> v:Nat):Int):=by
 unfold zlo;rw[if_pos (by omega)];congr 1
 have h1:min (v:Int).toNat IntKind.u64.bits=v:=by
  rw[show IntKind.u64.bits=64 from rfl,qaI]; exact qbG (by omega)
 rw[h1,qbq];have h2:((2:Int) ^ v)=((2 ^ v:Nat):Int):=by simp
 rw[h2,Int.fdiv_eq_ediv_of_nonneg _ (qbQ _)];rfl
theorem ztg(a v:Nat):((a >>> v) &&& 1)=(a.testBit v).toNat:=by
 rw[Nat.and_one_is_mod,Nat.testBit_eq_decide_div_mod_eq,qbq];have h:=Nat.mod_two_eq_zero_or_one (a / 2 ^ v);rcases h with h | h<;>simp[h]
variable {α:Type}
theorem zpr{xs:List α}{i:Nat}:zbr xs (i:Int)=xs[i]?:=by
 unfold zbr;rw[if_pos (qbQ i),qaI]
theorem zcF{xs:List α}{i:Nat}(h:i<xs.length):zbr xs (i:Int)=some (xs[i]'h):=by
 rw[zpr,qaf h]
theorem zlL{xs:List α}{i:Nat}{v:α}(h:i<xs.length):zgs xs (i:Int) v=some (xs.set i v):=by
 unfold zgs;rw[if_pos (by omega),qaI]
theorem znw{b:Nat}{xs ys:List α}(h:(xs.length+ys.length)* b≤70368744177664):zgh b xs ys=some (xs ++ ys):=by
 unfold zgh;rw[if_pos (by simp only[zap]; omega)]
theorem zgL{b n:Nat}{z:α}(h:n * b≤70368744177664):zd3 b (n:Int) z=some (List.replicate n z):=by
 have h2:(n:Int)* (b:Int)≤zap:=by
  rw[← qa4]; simp only[zap]; omega
 unfold zd3;rw[if_pos ⟨qbQ n,h2⟩,qaI]
theorem zpC{b:Nat}{xs:List α}(h:xs.length * b≤70368744177664):zc6 b xs=some xs:=by
 unfold zc6;rw[if_pos (by simp only[zap]; omega)]
theorem zsg{i n:Nat}:decide ((i:Int)<(n:Int))=decide (i<n):=by simp
theorem zc7(n:Nat):((n:Int) - 0+2).toNat=n+2:=by omega
def iL(xs:List Nat):List Int:=xs.map (fun x:Nat=>(x:Int))
theorem zbj(xs:List Nat):(iL xs).length=xs.length:=by simp[iL]
theorem zp4{xs:List Nat}{i:Nat}(h:i<xs.length):(iL xs)[i]'(by rw[zbj]; exact h)=((xs[i]:Nat):Int):=by simp[iL]
theorem zf7{xs:List Nat}{i:Nat}(h:i<xs.length):zbr (iL xs) (i:Int)=some ((xs[i]:Nat):Int):=by
 rw[zcF (by rw[zbj]; exact h),zp4 h]
def zao(xs:List Nat):Nat:=xs.foldr (· * ·) 1
theorem zjp{xs:List Nat}(h:∀ x∈xs,1≤x):1≤zao xs:=by
 induction xs with
 | nil=>exact qaj 1
 | cons x xs ih=>exact qbj (h x qao) (ih fun y hy=>h y (qal _ hy))
theorem zpo{i n:Nat}(h:i<n):decide ((i:Int)<(n:Int))=true:=decide_eq_true (by omega)
theorem zpn(n:Nat):decide ((n:Int)<(n:Int))=false:=decide_eq_false (by omega)
abbrev zgi:Nat:=4611686018427387903
def zd9:Nat→List Int→Bool
 | _,[]=>true
 | a,c :: cs=>decide (1≤c) && decide (c≤8) && decide (a * c.toNat≤4096) && zd9 (a * c.toNat) cs
theorem zhM:∀ {cs:List Int} {a:Nat},zd9 a cs=true→∃ ns:List Nat,cs=iL ns∧(∀ c∈ns,1≤c∧c≤8)∧(a≤4096→a * zao ns≤4096)
 | [],a,_=>⟨[],rfl,by simp,fun h=>by simpa [zao]using h⟩
 | c :: cs,a,h=>by
  simp only[zd9,qag,decide_eq_true_eq]at h;obtain⟨⟨⟨h1,h2⟩,h3⟩,h4⟩:=h;obtain⟨ns,e,g1,g2⟩:=zhM h4;refine⟨c.toNat :: ns,?_,?_,fun _=>?_⟩
  ·rw[e]; simp[iL]; omega
  ·intro d hd;rcases qaA.1 hd with rfl | hd
   ·omega
   exact g1 d hd
  have:=g2 h3;show a * (c.toNat * zao ns)≤4096;rw[← qbD]; exact this
theorem zgF:∀ {ns:List Nat} {a:Nat},(∀ c∈ns,1≤c∧c≤8)→a * zao ns≤4096→zd9 a (iL ns)=true
 | [],a,_,_=>rfl
 | n :: ns,a,h,hp=>by
  have h1:=h n qao;have hp':a * n * zao ns≤4096:=by rw[qbD]; exact hp
  have hpos:1≤zao ns:=zjp fun x hx=>(h x (qal _ hx)).1
  have hle:a * n≤4096:=qav (qbJ _ hpos) hp';show(decide ((1:Int)≤(n:Int)) && decide ((n:Int)≤8) && decide (a * (n:Int).toNat≤4096) && zd9 (a * (n:Int).toNat) (iL ns))=true;rw[qaI,zgF (fun c hc=>h c (qal _ hc)) hp',decide_eq_true (by omega),decide_eq_true (by omega),decide_eq_true hle];rfl
def zeW:List Int→Nat
 | []=>1
 | c :: cs=>c.toNat * zeW cs
theorem zen(ns:List Nat):zeW (iL ns)=zao ns:=by
 induction ns with
 | nil=>rfl
 | cons n ns ih=>show(n:Int).toNat * zeW (iL ns)=n * zao ns; rw[ih,qaI]
theorem zoF(cs:List Int)(hl:cs.length≤12):∀(n i:Nat) (a:Nat),a≤4096→i≤cs.length→cs.length - i<n→zbR cs n ((a:Nat):Int) (i:Int)=some (bif zd9 a (cs.drop i)then(((a * zeW (cs.drop i):Nat):Int),true)else(0,false))
 | 0,_,_,_,_,h=>absurd h (qaX _)
 | n+1,i,a,ha,hi,hn=>by
  unfold zbR;rcases qaY i cs.length with h3 | h3
  ·rw[zpo h3,cond_true,zcF h3,qad,qaz h3];generalize cs[i]=c;simp only[zd9,zeW];by_cases h1:c<1
   ·rw[decide_eq_true h1,cond_true,qad,cond_true,decide_eq_false (show ¬ 1≤c by omega)];rfl
   rw[decide_eq_false h1,cond_false,decide_eq_true (show 1≤c by omega)];by_cases h2:8<c
   ·rw[decide_eq_true h2,cond_true,qad,cond_true,decide_eq_false (show ¬ c≤8 by omega)];rfl
   rw[decide_eq_false h2,cond_false,decide_eq_true (show c≤8 by omega)];obtain⟨m,rfl⟩:∃ m:Nat,c=(m:Int):=⟨c.toNat,by omega⟩;have hb:a * m≤4096 * 8:=qbj ha (by omega);rw[← qa4,zd2 (by omega),qad,qaI];by_cases h4:a * m≤4096
   ·rw[show decide ((4096:Int)<((a * m:Nat):Int))=false from decide_eq_false (by omega),cond_false,zbo (by omega),zoF cs hl n (i+1) (a * m) h4 h3 (by omega),decide_eq_true h4,qbD];rfl
   rw[show decide ((4096:Int)<((a * m:Nat):Int))=true from decide_eq_true (by omega),cond_true,decide_eq_false h4];rfl
  obtain rfl:i=cs.length:=by omega
  rw[zpn,cond_false,qaW];simp[zd9,zeW]
def zbw(cs:List Int):Bool:=decide (cs.length≤12) && zd9 1 cs
theorem zpR(cs:List Int):zb6 cs=some (bif zbw cs then(((zeW cs:Nat):Int),0)else(0,20)):=by
 unfold zb6 zc9 zbw;by_cases hl:cs.length≤12
 ·rw[show decide ((12:Int)<(cs.length:Int))=false from decide_eq_false (by omega),cond_false,zc7];have:=zoF cs hl (cs.length+2) 0 1 (by omega) (qaV _) (by omega);rw[show((1:Nat):Int)=1 from rfl,show((0:Nat):Int)=0 from rfl,qbe,qb4]at this;rw[this,decide_eq_true hl,qbf];cases zd9 1 cs<;>rfl
 rw[show decide ((12:Int)<(cs.length:Int))=true from decide_eq_true (by omega),cond_true,decide_eq_false hl];rfl
theorem zlz(cs:List Int)(hl:cs.length≤12):∀(n i:Nat) (a:Nat),a≤4096→zd9 a (cs.drop i)=true→i≤cs.length→cs.length - i<n→zcS cs n ((a:Nat):Int) (i:Int)=some (((a * zeW (cs.drop i):Nat):Int))
 | 0,_,_,_,_,_,h=>absurd h (qaX _)
 | n+1,i,a,ha,hc,hi,hn=>by
  unfold zcS;rcases qaY i cs.length with h3 | h3
  ·rw[qaz h3]at hc ⊢;rw[zpo h3,cond_true,zcF h3,qad];simp only[zd9,zeW,qag,decide_eq_true_eq]at hc ⊢;obtain⟨⟨⟨h1,h2⟩,h4⟩,h5⟩:=hc;obtain⟨m,hm⟩:∃ m:Nat,cs[i]=(m:Int):=⟨cs[i].toNat,by omega⟩;rw[hm,qaI]at h4 h5 ⊢;rw[← qa4,zd2 (by omega),zbo (by omega),zlz cs hl n (i+1) (a * m) h4 h5 h3 (by omega),qbD]
  obtain rfl:i=cs.length:=by omega
  rw[zpn,cond_false,qaW];simp[zeW]
theorem zlm{cs:List Int}(h:zbw cs=true):zdR cs=some ((zeW cs:Nat):Int):=by
 unfold zbw at h;simp only[qag,decide_eq_true_eq]at h;unfold zdR;rw[zc7];have:=zlz cs h.1 (cs.length+2) 0 1 (by omega) (by rw[qbe]; exact h.2) (qaV _) (by omega);rw[show((1:Nat):Int)=1 from rfl,show((0:Nat):Int)=0 from rfl,qbe,qb4]at this;rw[this];rfl
def zri:Int→List Int→Bool
 | _,[]=>true
 | l,v :: vs=>decide (l<v) && decide (v≤63) && zri v vs
def zqp:List Int→Bool
 | []=>true
 | w :: ws=>decide (0≤w) && decide (w≤4611686018427387903) && zqp ws
def zsx(x:S_api_Factor):Bool:=zbw x.zad && decide (x.vars.length=x.zad.length) && decide (x.w.length=zeW x.zad) && zri (-1) x.vars && zqp x.w
def zbl:List Nat→List Nat
 | []=>[]
 | _ :: cs=>zao cs :: zbl cs
theorem zmt(cs:List Nat):(zbl cs).length=cs.length:=by induction cs with | nil=>rfl | cons c cs ih=>simp[zbl,ih]
abbrev noT:S_factor_table×Int:=(⟨⟨[],[],[]⟩,[]⟩,30)
theorem znc(x:S_api_Factor)(hl:x.vars.length≤12):∀(n i:Nat) (l:Int),i≤x.vars.length→x.vars.length - i<n→zbS x n l (i:Int)=some (bif zri l (x.vars.drop i)then .go ()else .ret noT)
 | 0,_,_,_,h=>absurd h (qaX _)
 | n+1,i,l,hi,hn=>by
  unfold zbS;rcases qaY i x.vars.length with h3 | h3
  ·rw[zpo h3,cond_true,zcF h3,qad,qaz h3];generalize x.vars[i]=v;simp only[zri];by_cases h1:v≤l
   ·rw[decide_eq_true h1,cond_true,qad,cond_true,decide_eq_false (show ¬ l<v by omega)];rfl
   rw[decide_eq_false h1,cond_false,qad,decide_eq_true (show l<v by omega)];by_cases h2:63<v
   ·rw[decide_eq_true h2,cond_true,decide_eq_false (show ¬ v≤63 by omega)];rfl
   rw[decide_eq_false h2,cond_false,decide_eq_true (show v≤63 by omega),zbo (by omega),znc x hl n (i+1) v h3 (by omega)];rfl
  obtain rfl:i=x.vars.length:=by omega
  rw[zpn,cond_false,qaW];rfl
theorem znZ(x:S_api_Factor)(hl:x.w.length≤4096):∀(n i:Nat),i≤x.w.length→x.w.length - i<n→zbT x n (i:Int)=some (bif zqp (x.w.drop i)then .go ()else .ret noT)
 | 0,_,_,h=>absurd h (qaX _)
 | n+1,i,hi,hn=>by
  unfold zbT;rcases qaY i x.w.length with h3 | h3
  ·rw[zpo h3,cond_true,zcF h3,qad,qaz h3];generalize x.w[i]=v;simp only[zqp];by_cases h1:v<0
   ·rw[decide_eq_true h1,cond_true,qad,cond_true,decide_eq_false (show ¬ 0≤v by omega)];rfl
   rw[decide_eq_false h1,cond_false,qad,decide_eq_true (show 0≤v by omega)];by_cases h2:4611686018427387903<v
   ·rw[decide_eq_true h2,cond_true,decide_eq_false (show ¬ v≤4611686018427387903 by omega)];rfl
   rw[decide_eq_false h2,cond_false,decide_eq_true (show v≤4611686018427387903 by omega),zbo (by omega),znZ x hl n (i+1) h3 (by omega)];rfl
  obtain rfl:i=x.w.length:=by omega
  rw[zpn,cond_false,qaW];rfl
theorem ziT{ns:List Nat}(h:∀ c∈ns,1≤c):∀ k,zao (ns.drop k)≤zao ns:=by
 induction ns with
 | nil=>intro k; simp
 | cons n ns ih=>
  intro k;cases k with
  | zero=>exact qaj _
  | succ k=>
   have h1:=ih (fun c hc=>h c (qal _ hc)) k;have h2:=h n qao;show zao (ns.drop k)≤n * zao ns;exact qav h1 (Nat.le_mul_of_pos_left _ h2)
theorem zlx(a b:List Nat):iL (a ++ b)=iL a ++ iL b:=by simp[iL]
theorem zhZ(k:Nat):iL (List.replicate k 0)=List.replicate k 0:=by simp[iL]
theorem zkT(x:S_api_Factor){ns:List Nat}(hx:x.zad=iL ns)(hc:∀ c∈ns,1≤c)(hp:zao ns≤4096)(hl:ns.length≤12):∀(k n:Nat),k≤ns.length→k<n →
  zbs x n ((zao (ns.drop k):Nat):Int) ((k:Int) - 1) (iL (List.replicate k 0 ++ zbl (ns.drop k)))=some (iL (zbl ns))
 | k,0,_,h=>absurd h (qaX _)
 | 0,n+1,_,_=>by
  unfold zbs;rw[show decide ((0:Int)≤((0:Nat):Int) - 1)=false from rfl,cond_false];rfl
 | k+1,n+1,hk,hn=>by
  have ih:=zkT x hx hc hp hl k n (by omega) (by omega);have hk':k<ns.length:=hk;unfold zbs;have e:(((k+1:Nat):Int) - 1)=(k:Int):=by omega
  have hlen:k<(iL (List.replicate (k+1) 0 ++ zbl (ns.drop (k+1)))).length:=by rw[zbj]; simp; omega
  rw[e,show decide ((0:Int)≤(k:Int))=true from decide_eq_true (by omega),cond_true,zcF hlen,qad,zlL hlen,qad,hx,zf7 hk',qad];have hd:ns.drop k=ns[k]:: ns.drop (k+1):=qaz hk';have h1:(iL (List.replicate (k+1) 0 ++ zbl (ns.drop (k+1)))).set k ((zao (ns.drop (k+1)):Nat):Int)=iL (List.replicate k 0 ++ zbl (ns.drop k)):=by
   rw[hd,zlx,zlx,zhZ,zhZ,List.replicate_succ',qbm,List.set_append_right _ _ (by simp)];simp[zbl,iL]
  have h2:((zao (ns.drop (k+1)):Nat):Int)* ((ns[k]:Nat):Int)=((zao (ns.drop k):Nat):Int):=by
   rw[hd,← qa4,qbo]; rfl
  have h3:=ziT hc k;rw[h1,h2,zd2 (by omega),zlu (by omega) (by omega)];exact ih
def zn5(xs:List Int):List Nat:=xs.map Int.toNat
theorem zfz(ns:List Nat):zn5 (iL ns)=ns:=by
 induction ns with
 | nil=>rfl
 | cons n ns ih=>show(n:Int).toNat :: zn5 (iL ns)=n :: ns; rw[ih,qaI]
theorem zho{cs:List Int}(h:zbw cs=true):∃ ns:List Nat,cs=iL ns∧(∀ c∈ns,1≤c∧c≤8)∧zao ns≤4096∧ns.length≤12:=by
 unfold zbw at h;simp only[qag,decide_eq_true_eq]at h;obtain⟨ns,rfl,h1,h2⟩:=zhM h.2;exact⟨ns,rfl,h1,by have:=h2 (by omega); omega,by have:=h.1; rw[zbj]at this; exact this⟩
theorem zrK(x:S_api_Factor):zaw x=some (bif zsx x then(⟨x,iL (zbl (zn5 x.zad))⟩,0)else noT):=by
 unfold zaw zsx;rw[zpR,qad];cases hc:zbw x.zad with
 | false=>
  rw[cond_false];rfl
 | true=>
  obtain⟨ns,hx,h1,h2,h3⟩:=zho hc;rw[cond_true,show(((((zeW x.zad:Nat):Int),(0:Int)).2 == 0))=true from rfl,cond_true,qbf];by_cases hv:x.vars.length=x.zad.length
  ·rw[show(((x.vars.length:Nat):Int)==((x.zad.length:Nat):Int))=true by rw[hv]; exact beq_self_eq_true _,cond_true,qad,decide_eq_true hv,qbf];by_cases hw:x.w.length=zeW x.zad
   ·have hw':x.w.length≤4096:=by rw[hw,hx,zen]; exact h2
    have hl:x.vars.length≤12:=by rw[hv,hx,zbj]; exact h3
    rw[show(!(((x.w.length:Nat):Int)==((zeW x.zad:Nat):Int)))=false by rw[hw,beq_self_eq_true]; rfl,cond_false,decide_eq_true hw,qbf,zc7,zc7];have e1:=znc x hl (x.vars.length+2) 0 (-1) (qaV _) (by omega);have e2:=znZ x hw' (x.w.length+2) 0 (qaV _) (by omega);rw[show((0:Nat):Int)=0 from rfl,qbe]at e1 e2;rw[e1,qad];cases zri (-1) x.vars with
    | false=>rfl
    | true=>
     rw[cond_true,qbf];simp only;rw[e2,qad];cases zqp x.w with
     | false=>rfl
     | true=>
      rw[cond_true];simp only;have hlen:x.zad.length=ns.length:=by rw[hx,zbj]
      have e3:=zkT x hx (fun c hc=>(h1 c hc).1) h2 h3 ns.length (ns.length+1+1) (qaj _) (by omega);rw[qaW]at e3;rw[zgL (by omega),qad,qaI,hlen,zlu (by omega) (by omega),show((ns.length:Int) - 1 - 0+2).toNat=ns.length+1 by omega];have e4:=zkT x hx (fun c hc=>(h1 c hc).1) h2 h3 ns.length (ns.length+1) (qaj _) (by omega);rw[qaW]at e4;rw[show iL (List.replicate ns.length 0 ++ zbl [])=List.replicate ns.length 0 by simp[zbl,iL],show((zao []:Nat):Int)=1 from rfl]at e4;rw[e4,qad,cond_true,hx,zfz]
   rw[show(!(((x.w.length:Nat):Int)==((zeW x.zad:Nat):Int)))=true by rw[qbx]; exact beq_false_of_ne (by omega),cond_true,decide_eq_false hw];rfl
  rw[show(((x.vars.length:Nat):Int)==((x.zad.length:Nat):Int))=false from beq_false_of_ne (by omega),cond_false,qad,cond_true,decide_eq_false hv];rfl
structure Fc where
 vs:List Nat
 cs:List Nat
 ws:List Nat
def Fc.D(f:Fc):S_api_Factor:=⟨iL f.vs,iL f.cs,iL f.ws⟩
structure FcOk (f:Fc):Prop where
 len:f.vs.length=f.cs.length
 le:f.cs.length≤12
 zmU:∀ c∈f.cs,1≤c∧c≤8
 prod:zao f.cs≤4096
 size:f.ws.length=zao f.cs
 inc:f.vs.Pairwise (· < ·)
 var:∀ v∈f.vs,v<64
 num:∀ w∈f.ws,w≤zgi
theorem zoD:∀ {ns:List Nat} {l:Int},ns.Pairwise (· < ·)→(∀ v∈ns,v<64∧l<(v:Int))→zri l (iL ns)=true
 | [],_,_,_=>rfl
 | n :: ns,l,h1,h2=>by
  have h3:=h2 n qao;obtain⟨h4,h5⟩:=qaO.1 h1;show(decide (l<(n:Int)) && decide ((n:Int)≤63) && zri (n:Int) (iL ns))=true;rw[decide_eq_true h3.2,decide_eq_true (by omega),zoD h5 fun v hv=>⟨(h2 v (qal _ hv)).1,by have:=h4 v hv; omega⟩];rfl
theorem znA:∀ {ns:List Nat},(∀ w∈ns,w≤zgi)→zqp (iL ns)=true
 | [],_=>rfl
 | n :: ns,h=>by
  have h1:n≤4611686018427387903:=h n qao;show(decide (0≤(n:Int)) && decide ((n:Int)≤4611686018427387903) && zqp (iL ns))=true;rw[decide_eq_true (by omega),decide_eq_true (by omega),znA fun w hw=>h w (qal _ hw)];rfl
theorem zq1{f:Fc}(h:FcOk f):zsx f.D=true:=by
 unfold zsx Fc.D zbw;simp only[zbj];rw[decide_eq_true h.le,zgF h.zmU (by have:=h.prod; omega),decide_eq_true h.len,decide_eq_true (by rw[zen]; exact h.size),zoD h.inc fun v hv=>⟨h.var v hv,by omega⟩,znA h.num];rfl
def Fc.T(f:Fc):S_factor_table:=⟨f.D,iL (zbl f.cs)⟩
theorem znO{f:Fc}(h:FcOk f):zaw f.D=some (f.T,0):=by
 rw[zrK,zq1 h,cond_true,show f.D.zad=iL f.cs from rfl,zfz];rfl
def zkr:List Int→Int→Option Nat
 | [],_=>none
 | x :: xs,v=>bif x == v then some 0 else(zkr xs v).map (· + 1)
def ixZ:Option Nat→Int
 | none=>-1
 | some k=>(k:Int)
theorem zj2:∀ {xs:List Int} {v:Int} {k:Nat},zkr xs v=some k→∃ h:k<xs.length,xs[k]=v
 | x :: xs,v,k,h=>by
  unfold zkr at h;cases hb:(x == v)with
  | true=>
   rw[hb,cond_true]at h;cases h;exact⟨by simp,by simpa using hb⟩
  | false=>
   rw[hb,cond_false]at h;cases hp:zkr xs v with
   | none=>rw[hp]at h; cases h
   | some j=>
    rw[hp]at h;cases h;obtain⟨g1,g2⟩:=zj2 hp;exact⟨by simp; omega,by simpa using g2⟩
theorem zjE:∀ {xs:List Int} {v:Int},zkr xs v=none→v ∉ xs
 | [],v,_=>by simp
 | x :: xs,v,h=>by
  unfold zkr at h;cases hb:(x == v)with
  | true=>rw[hb,cond_true]at h; cases h
  | false=>
   rw[hb,cond_false]at h;have h1:zkr xs v=none:=by
    cases hp:zkr xs v with
    | none=>rfl
    | some j=>rw[hp]at h; cases h
   have h2:x≠v:=by simpa using hb
   intro hm;rcases qaA.1 hm with rfl | hm
   ·exact h2 rfl
   exact zjE h1 hm
theorem zoA(xs:List Int)(v:Int)(hl:xs.length<4611686018427387904):∀(n i:Nat),i≤xs.length→xs.length - i<n→zaG xs v n (i:Int)=some (match zkr (xs.drop i) v with | none=>.go ()| some k=>.ret ((i+k:Nat):Int))
 | 0,_,_,h=>absurd h (qaX _)
 | n+1,i,hi,hn=>by
  unfold zaG;rcases qaY i xs.length with h3 | h3
  ·rw[zpo h3,cond_true,zcF h3,qad,qaz h3];generalize xs[i]=x;unfold zkr;by_cases h:v=x
   ·subst h;rw[beq_self_eq_true,cond_true,cond_true];rfl
   rw[show(v == x)=false from beq_false_of_ne h,show(x == v)=false from beq_false_of_ne (fun e=>h e.symm),cond_false,cond_false,zbo (by omega),zoA xs v hl n (i+1) h3 (by omega)];cases zkr (xs.drop (i+1)) v with
   | none=>rfl
   | some k=>
    simp only[qaF];rw[show i+1+k=i+(k+1) by omega]
  obtain rfl:i=xs.length:=by omega
  rw[zpn,cond_false,qaW];rfl
theorem zqG{xs:List Int}(hl:xs.length<4611686018427387904)(v:Int):zaV xs v=some (ixZ (zkr xs v)):=by
 unfold zaV;have h:=zoA xs v hl (xs.length+2) 0 (qaV _) (by omega);rw[show((0:Nat):Int)=0 from rfl,qbe]at h;rw[zc7,h,qad];cases zkr xs v with
 | none=>rfl
 | some k=>simp only[qaQ]; rfl
theorem FcOk.vl{f:Fc}(h:FcOk f):(iL f.vs).length<4611686018427387904:=by rw[zbj,h.len]; have:=h.le; omega
theorem zlv{f:Fc}(h:FcOk f)(v:Int):zak f.T v=some (ixZ (zkr (iL f.vs) v)):=by
 unfold zak;rw[show f.T.factor.vars=iL f.vs from rfl,zqG h.vl,qad]
theorem zok(o:Option Nat):decide ((0:Int)≤ixZ o)=o.isSome:=by
 cases o with
 | none=>rfl
 | some k=>exact decide_eq_true (qbQ k)
def pos:List Nat→Nat→Option Nat
 | [],_=>none
 | x :: xs,v=>bif x == v then some 0 else(pos xs v).map (· + 1)
theorem zdX:∀(xs:List Nat) (v:Nat),zkr (iL xs) (v:Int)=pos xs v
 | [],v=>rfl
 | x :: xs,v=>by
  show(bif ((x:Int)==(v:Int))then some 0 else(zkr (iL xs) (v:Int)).map (· + 1))=pos (x :: xs) v;rw[zdX xs v];show _=(bif x == v then some 0 else(pos xs v).map (· + 1));cases hb:(x == v)with
  | true=>
   have:x=v:=by simpa using hb
   subst this;rw[beq_self_eq_true]
  | false=>
   have h1:x≠v:=by simpa using hb
   have h2:((x:Int)==(v:Int))=false:=beq_false_of_ne (by omega);rw[h2]
theorem zeI{xs:List Nat}{v k:Nat}(h:pos xs v=some k):∃ hk:k<xs.length,xs[k]=v:=by
 rw[← zdX]at h;obtain⟨h1,h2⟩:=zj2 h;rw[zbj]at h1;refine⟨h1,?_⟩;rw[zp4 h1]at h2;omega
theorem ziF{xs:List Nat}{v:Nat}(h:pos xs v=none):v ∉ xs:=by
 rw[← zdX]at h;have:=zjE h;intro hm;exact this (qaK.2 ⟨v,hm,rfl⟩)
theorem zrm{xs:List Nat}{v:Nat}(h:v∈xs):∃ k,pos xs v=some k:=by
 cases hp:pos xs v with
 | none=>exact absurd h (ziF hp)
 | some k=>exact⟨k,rfl⟩
def zd6(f g:Fc):Nat→List Nat→Bool
 | _,[]=>true
 | i,v :: vs=>(match pos g.vs v with | none=>true | some k=>g.cs.getD k 0 == f.cs.getD i 0) && zd6 f g (i+1) vs
theorem ze5{xs:List Nat}{i:Nat}(h:i<xs.length):zbr (iL xs) (i:Int)=some ((xs.getD i 0:Nat):Int):=by
 rw[zf7 h]; simp[List.getD,h]
theorem zkJ(a b:Nat):((a:Int)==(b:Int))=(a == b):=by
 rw[Bool.eq_iff_iff,beq_iff_eq,beq_iff_eq];exact Int.ofNat_inj
theorem zmZ{f g:Fc}(hf:FcOk f)(hg:FcOk g):∀(n i:Nat),i≤f.vs.length→f.vs.length - i<n→zbE f.T g.T n (i:Int)=some (bif zd6 f g i (f.vs.drop i)then .go ()else .ret false)
 | 0,_,_,h=>absurd h (qaX _)
 | n+1,i,hi,hn=>by
  have hle:=hf.le;have hlen:=hf.len;unfold zbE;rw[show f.T.factor.vars=iL f.vs from rfl,show f.T.factor.zad=iL f.cs from rfl,show g.T.factor.zad=iL g.cs from rfl,zbj];rcases qaY i f.vs.length with h3 | h3
  ·rw[zpo h3,cond_true,zf7 h3,qad,zlv hg,zdX,qad,zok,qaz h3];simp only[zd6];have ih:=zmZ hf hg n (i+1) h3 (by omega);cases hp:pos g.vs f.vs[i]with
   | none=>
    rw[Option.isSome_none,cond_false,qad,cond_false,zbo (by omega),ih,qbf]
   | some k=>
    obtain⟨hk,_⟩:=zeI hp;rw[qb0,cond_true,show ixZ (some k)=(k:Int)from rfl,ze5 (by rw[← hg.len]; exact hk),qad,ze5 (by omega),qad,qad,zkJ];cases hb:(g.cs.getD k 0 == f.cs.getD i 0)with
    | true=>simp only[hb]; rw[qaS,cond_false,zbo (by omega),ih,qbf]
    | false=>simp only[hb]; rw[qbh,cond_true,Bool.false_and]; rfl
  obtain rfl:i=f.vs.length:=by omega
  rw[zpn,cond_false,qaW];rfl
theorem zqQ{f g:Fc}(hf:FcOk f)(hg:FcOk g):zbV f.T g.T=some (zd6 f g 0 f.vs):=by
 unfold zbV;have h:=zmZ hf hg (f.vs.length+2) 0 (qaV _) (by omega);rw[show((0:Nat):Int)=0 from rfl,qbe]at h;rw[show f.T.factor.vars=iL f.vs from rfl,zbj,zc7,h,qad];cases zd6 f g 0 f.vs<;>rfl
def dig:List Nat→Nat→List Nat
 | [],_=>[]
 | _ :: cs,i=>i / zao cs :: dig cs (i % zao cs)
theorem zjc:∀(cs:List Nat) (i:Nat),(dig cs i).length=cs.length
 | [],_=>rfl
 | _ :: cs,i=>by simp[dig,zjc cs]
def dot:List Nat→List Nat→Nat
 | x :: xs,s :: ss=>x * s+dot xs ss
 | _,_=>0
theorem zir:∀ {xs ss:List Nat} (ys ts:List Nat),xs.length=ss.length→dot (xs ++ ys) (ss ++ ts)=dot xs ss+dot ys ts
 | [],[],ys,ts,_=>by simp[dot]
 | x :: xs,s :: ss,ys,ts,h=>by
  simp only[qa5,dot];rw[zir ys ts (by simpa using h)]; omega
 | [],_ :: _,_,_,h=>by simp at h
 | _ :: _,[],_,_,h=>by simp at h
theorem zkP(x s:Nat):dot [x] [s]=x * s:=by simp[dot]
def zcd:List Nat→List Nat→Prop
 | [],[]=>True
 | c :: cs,x :: xs=>x<c∧c≤8∧zcd cs xs
 | _,_=>False
theorem zcd.len:∀ {cs xs:List Nat},zcd cs xs→xs.length=cs.length
 | [],[],_=>rfl
 | c :: cs,x :: xs,h=>by simp[h.2.2.len]
theorem zcd.snoc:∀ {cs xs:List Nat} {c x:Nat},zcd (cs ++ [c]) (xs ++ [x])→xs.length=cs.length→zcd cs xs∧x<c∧c≤8
 | [],[],c,x,h,_=>⟨qcf,h.1,h.2.1⟩
 | c :: cs,x :: xs,_,_,h,hl=>by
  obtain⟨h1,h2,h3⟩:=h;obtain⟨g1,g2⟩:=h3.snoc (by simpa using hl);exact⟨⟨h1,h2,g1⟩,g2⟩
theorem zeJ{cs:List Nat}(h:∀ c∈cs,1≤c∧c≤8):0<zao cs:=zjp fun c hc=>(h c hc).1
theorem zeD:∀ {cs:List Nat} {i:Nat},(∀ c∈cs,1≤c∧c≤8)→i<zao cs→zcd cs (dig cs i)
 | [],_,_,_=>trivial
 | c :: cs,i,h,hi=>by
  have hc:=h c qao;have hp:=zeJ fun d hd=>h d (qal c hd)
  refine⟨?_,hc.2,zeD (fun d hd=>h d (qal c hd)) (qbX _ hp)⟩;have h1:i<c * zao cs:=hi;exact Nat.div_lt_of_lt_mul (by rw[qbo]; exact h1)
theorem zqg:∀ {cs xs ss:List Nat},zcd cs xs→(∀ s∈ss,s≤4096)→dot xs ss≤cs.length * 32768
 | [],[],_,_,_=>by simp[dot]
 | c :: cs,x :: xs,[],_,_=>by simp[dot]
 | c :: cs,x :: xs,s :: ss,h,hs=>by
  have h1:=zqg h.2.2 fun t ht=>hs t (qal _ ht)
  have h2:=hs s qao;have h3:x * s≤8 * 4096:=qbj (by have:=h.1; have:=h.2.1; omega) h2;simp only[dot,qaP];omega
def nxt:List Nat→List Nat→Option (List Nat)
 | c :: cs,v :: vs=>match nxt cs vs with
  | some vs'=>some (v :: vs')
  | none=>if v+1<c then some ((v+1):: List.replicate vs.length 0)else none
 | _,_=>none
theorem zhe:∀ {cs vs:List Nat} {c v:Nat},vs.length=cs.length→v+1<c→nxt (cs ++ [c]) (vs ++ [v])=some (vs ++ [v+1])
 | [],[],c,v,_,h=>by simp[nxt,h]
 | d :: cs,u :: vs,c,v,hl,h=>by
  simp only[qa5,nxt,zhe (show vs.length=cs.length by simpa using hl) h]
theorem zgd:∀ {cs vs:List Nat} {c v:Nat},vs.length=cs.length→¬ v+1<c→nxt (cs ++ [c]) (vs ++ [v])=(nxt cs vs).map (· ++ [0])
 | [],[],c,v,_,h=>by simp[nxt,h]
 | d :: cs,u :: vs,c,v,hl,h=>by
  simp only[qa5,nxt,zgd (show vs.length=cs.length by simpa using hl) h];cases hn:nxt cs vs with
  | some vs'=>rfl
  | none=>
   simp only[qcd];by_cases hu:u+1<d
   ·rw[if_pos hu,if_pos hu];simp[List.replicate_succ']
   rw[if_neg hu,if_neg hu]; rfl
theorem zi6:∀(cs:List Nat),dig cs 0=List.replicate cs.length 0
 | []=>rfl
 | c :: cs=>by simp[dig,zi6 cs,qaT]
theorem znz:∀ {cs:List Nat} {i:Nat},(∀ c∈cs,1≤c∧c≤8)→i<zao cs→nxt cs (dig cs i)=if i+1<zao cs then some (dig cs (i+1))else none
 | [],i,_,hi=>by
  have:i=0:=by simpa [zao]using hi
  subst this;simp[nxt,zao]
 | c :: cs,i,h,hi=>by
  have hp:=zeJ fun d hd=>h d (qal c hd)
  have hm:=qbX i hp;have ih:=znz (fun d hd=>h d (qal c hd)) hm;have hi':i<c * zao cs:=hi;simp only[dig,nxt,ih];have hdm:=qce i (zao cs);generalize hq:i / zao cs=q at *;generalize hr:i % zao cs=r at *;have hprod:zao (c :: cs)=c * zao cs:=rfl;by_cases h1:r+1<zao cs
  ·rw[if_pos h1];have e1:(i+1) / zao cs=q:=by
    rw[← hdm,qaZ,Nat.mul_add_div hp,Nat.div_eq_of_lt h1,qa8]
   have e2:(i+1) % zao cs=r+1:=by
    rw[← hdm,qaZ,Nat.mul_add_mod,qa2 h1]
   have hqc:q<c:=by rw[← hq]; exact Nat.div_lt_of_lt_mul (by rw[qbo]; exact hi')
   have h2:i+1<zao (c :: cs):=by
    rw[hprod];have:(q+1)* zao cs≤c * zao cs:=qau _ hqc;rw[qaM,qb4,qbo q]at this;omega
   rw[if_pos h2,e1,e2]
  rw[if_neg h1];have hr1:r+1=zao cs:=by omega
  have hi1:i+1=zao cs * (q+1):=by rw[Nat.mul_add,Nat.mul_one]; omega
  simp only;have h4:(q+1<c)↔(i+1<zao (c :: cs)):=by
   rw[hprod,hi1,qbo c];exact(Nat.mul_lt_mul_left hp).symm
  by_cases h5:q+1<c
  ·rw[if_pos h5,if_pos (h4.1 h5),hi1,Nat.mul_div_cancel_left _ hp,Nat.mul_mod_right,zi6,zjc]
  rw[if_neg h5,if_neg (fun h=>h5 (h4.2 h))]
theorem zc0{xs ys:List Nat}{x:Nat}{k:Nat}(h:xs.length=k):zbr (iL (xs ++ x :: ys)) (k:Int)=some (x:Int):=by
 subst h;rw[zf7 (by simp)];simp
theorem zd1{xs ys:List Nat}{x y:Nat}{k:Nat}(h:xs.length=k):zgs (iL (xs ++ x :: ys)) (k:Int) (y:Int)=some (iL (xs ++ y :: ys)):=by
 subst h;rw[zlL (by rw[zbj]; simp)];simp[iL]
theorem zkL{xs:List Nat}{k:Nat}(h:xs.length=k+1):∃ ys y,xs=ys ++ [y]∧ys.length=k:=by
 have hne:xs≠[]:=by rintro rfl; simp at h
 exact⟨xs.dropLast,xs.getLast hne,(List.dropLast_concat_getLast hne).symm,by simp[h]⟩
theorem zlD:∀(k:Nat) (xs cx sx cy sy zs:List Nat) (e:Nat),xs.length=k→cx.length=k→sx.length=k→zcd cx xs→(∀ s∈sx,s≤4096)→k≤12→e≤1000000 →
  ∃ r,zhV (iL (cx ++ cy)) (iL (sx ++ sy)) k (iL (xs ++ zs)) ((dot xs sx+e:Nat):Int)=some r∧match nxt cx xs with
   | none=>r.2.2 = -1
   | some xs'=>∃(j:Nat) (v st:Int),r.2.2=(j:Int)∧zbr r.1 (j:Int)=some v∧zgs r.1 (j:Int) (w64 (v+1))=some (iL (xs' ++ zs))∧zbr (iL (sx ++ sy)) (j:Int)=some st∧w64 (r.2.1+st)=((dot xs' sx+e:Nat):Int)
 | 0,xs,cx,sx,cy,sy,zs,e,hx,hc,hs,_,_,_,_=>by
  obtain rfl:xs=[]:=qay.1 hx;obtain rfl:cx=[]:=qay.1 hc;exact⟨_,rfl,rfl⟩
 | k+1,xs,cx,sx,cy,sy,zs,e,hx,hc,hs,hb,hsm,hk,he=>by
  obtain⟨xs,x,rfl,lx⟩:=zkL hx;obtain⟨cx,c,rfl,lc⟩:=zkL hc;obtain⟨sx,s,rfl,ls⟩:=zkL hs;obtain⟨hb1,hb2,hb3⟩:=hb.snoc (lx.trans lc.symm);have hd:=zqg hb1 fun t ht=>hsm t (qb9 _ ht)
  have hss:s≤4096:=hsm s (by simp);have hxs:x * s≤8 * 4096:=qbj (by omega) hss;have hlen:cx.length * 32768≤12 * 32768:=qau _ (by omega);simp only[qbm,qbb];unfold zhV;rw[zc0 lx,qad,zc0 lc,qad,zlu (by omega) (by omega)];rw[zir [x] [s] (lx.trans ls.symm),zkP];by_cases h1:x+1<c
  ·rw[show((x:Int)==(c:Int) - 1)=false from beq_false_of_ne (by omega),cond_false,zhe (lx.trans lc.symm) h1];refine⟨_,rfl,k,(x:Int),(s:Int),rfl,zc0 lx,?_,zc0 ls,?_⟩
   ·rw[zbo (by omega),zd1 lx]; simp
   rw[zir [x+1] [s] (lx.trans ls.symm),zkP,← qb3,zd2 (by omega),qaM];congr 1; omega
  rw[show((x:Int)==(c:Int) - 1)=true by rw[show(x:Int)=(c:Int) - 1 by omega]; exact beq_self_eq_true _,cond_true,zc0 ls,qad,show(0:Int)=((0:Nat):Int)from rfl,zd1 lx,qad,← qa4,
   zd2 (by omega),show(((dot xs sx+x * s+e:Nat):Int) - ((x * s:Nat):Int))=((dot xs sx+e:Nat):Int) by omega,zd2 (by omega),zgd (lx.trans lc.symm) h1]
  obtain⟨r,h2,h3⟩:=zlD k xs cx sx (c :: cy) (s :: sy) (0 :: zs) e lx lc ls hb1 (fun t ht=>hsm t (qb9 _ ht)) (by omega) he;refine⟨r,h2,?_⟩;cases hn:nxt cx xs with
  | none=>rw[hn]at h3; exact h3
  | some xs'=>
   rw[hn]at h3;obtain⟨j,v,st,g1,g2,g3,g4,g5⟩:=h3;have hl':xs'.length=sx.length:=by
    have:∀ {cs vs ws:List Nat},nxt cs vs=some ws→vs.length=cs.length→ws.length=vs.length:=by
     intro cs;induction cs with
     | nil=>intro vs ws h _; simp[nxt]at h
     | cons d cs ih=>
      intro vs ws h hl;cases vs with
      | nil=>simp[nxt]at h
      | cons u vs=>
       simp only[nxt]at h;cases hq:nxt cs vs with
       | some vs'=>
        rw[hq]at h;cases h;simp[ih hq (by simpa using hl)]
       | none=>
        rw[hq]at h;simp only at h;split at h
        ·cases h; simp
        cases h
    rw[this hn (lx.trans lc.symm),lx,ls]
   refine⟨j,v,st,g1,g2,by rw[g3]; simp,g4,?_⟩;rw[g5,zir [0] [s] hl',zkP,qbS,qa8]
def zhs(cs ss:List Nat)(i m:Nat):List (Int×Int×List Int):=(List.range' i m).map fun j:Nat=>((j:Int),((dot (dig cs j) ss:Nat):Int),iL (dig cs j))
theorem zrT{cs ss:List Nat}(hc:∀ c∈cs,1≤c∧c≤8)(hl:cs.length≤12)(hp:zao cs≤4096)(hs:ss.length=cs.length)(hsm:∀ s∈ss,s≤4096):∀(m i n:Nat),i+(m+1)=zao cs→m<n →
  zry (iL cs) (iL ss) n (iL (dig cs i)) (i:Int) ((dot (dig cs i) ss:Nat):Int)=some (zhs cs ss i (m+1))
 | m,i,0,_,h=>absurd h (qaX _)
 | m,i,n+1,hi,hn=>by
  have hb:=zeD hc (show i<zao cs by omega);obtain⟨r,h1,h2⟩:=zlD cs.length (dig cs i) cs ss [] [] [] 0 (zjc _ _) rfl hs hb hsm hl (by omega);simp only[qa6,qa8]at h1 h2;unfold zry;rw[zbj,h1,qad];rw[znz hc (show i<zao cs by omega)]at h2;cases m with
  | zero=>
   rw[if_neg (by omega)]at h2;simp only at h2;rw[h2];rfl
  | succ m=>
   rw[if_pos (by omega)]at h2;simp only at h2;obtain⟨j,v,st,g1,g2,g3,g4,g5⟩:=h2;rw[g1,show decide ((j:Int)<0)=false from decide_eq_false (by omega),cond_false,g2,qad,g3,qad,g4,qad,g5,zbo (by omega),zrT hc hl hp hs hsm m (i+1) n (by omega) (by omega)];rfl
theorem znC(cs:List Nat):∀ a:Nat,(iL cs).foldl (· * ·) (a:Int)=((a * zao cs:Nat):Int):=by
 induction cs with
 | nil=>intro a; simp[iL,zao]
 | cons c cs ih=>
  intro a;show(iL cs).foldl (· * ·) ((a:Int)* (c:Int))=_;rw[← qa4,ih,qbD];rfl
theorem zrG{cs ss:List Nat}(hc:∀ c∈cs,1≤c∧c≤8)(hl:cs.length≤12)(hp:zao cs≤4096)(hs:ss.length=cs.length)(hsm:∀ s∈ss,s≤4096):zoZ (iL cs) (iL ss)=some (zhs cs ss 0 (zao cs)):=by
 have hpos:=zeJ hc;unfold zoZ zlX;rw[if_pos (by rw[zbj]; omega),qad,zbj,zgL (by omega),qad];have h:=znC cs 1;rw[show((1:Nat):Int)=1 from rfl]at h;rw[h,qb4,qaI];obtain⟨m,hm⟩:∃ m,zao cs=m+1:=⟨zao cs - 1,by omega⟩;have e:=zrT hc hl hp hs hsm m 0 (m+1) (by omega) (by omega);have hz:∀(n:Nat) (ss:List Nat),dot (List.replicate n 0) ss=0:=by
  intro n;induction n with
  | zero=>intro ss; simp[dot]
  | succ n ih=>
   intro ss;cases ss with
   | nil=>simp[qaT,dot]
   | cons s ss=>simp[qaT,dot,ih]
 rw[zi6,hz,zhZ]at e;rw[hm];exact e
theorem zpk{cs:List Nat}(hc:∀ c∈cs,1≤c)(hp:zao cs≤4096):∀ s∈zbl cs,s≤4096:=by
 induction cs with
 | nil=>intro s hs; cases hs
 | cons c cs ih=>
  have h1:=hc c qao;have h2:zao cs≤4096:=qav (Nat.le_mul_of_pos_left (zao cs) h1) hp;intro s hs;rcases qaA.1 hs with rfl | hs
  ·exact h2
  exact ih (fun d hd=>hc d (qal _ hd)) h2 s hs
theorem zcd.drop:∀ {cs xs:List Nat} (k:Nat),zcd cs xs→zcd (cs.drop k) (xs.drop k)
 | cs,xs,0,h=>h
 | [],[],k+1,_=>trivial
 | c :: cs,x :: xs,k+1,h=>h.2.2.drop k
theorem zlI:∀ {cs ds:List Nat},zcd cs ds→dot ds (zbl cs)<zao cs
 | [],[],_=>by simp[dot,zao]
 | c :: cs,d :: ds,h=>by
  have h1:=zlI h.2.2;show d * zao cs+dot ds (zbl cs)<c * zao cs;have h2:(d+1)* zao cs≤c * zao cs:=qau _ h.1;rw[qaM,qb4]at h2;omega
theorem zop:∀ {cs:List Nat} {i:Nat},(∀ c∈cs,1≤c∧c≤8)→i<zao cs→dot (dig cs i) (zbl cs)=i
 | [],i,_,h=>by
  have:i=0:=by simpa [zao]using h
  subst this; rfl
 | c :: cs,i,hc,h=>by
  have hp:=zeJ fun d hd=>hc d (qal c hd)
  show i / zao cs * zao cs+dot (dig cs (i % zao cs)) (zbl cs)=i;rw[zop (fun d hd=>hc d (qal c hd)) (qbX _ hp),qbo];exact qce i (zao cs)
theorem zm0:∀ {cs ds:List Nat},zcd cs ds→dig cs (dot ds (zbl cs))=ds
 | [],[],_=>rfl
 | c :: cs,d :: ds,h=>by
  have h1:=zlI h.2.2;have hp:0<zao cs:=by omega
  show((d * zao cs+dot ds (zbl cs)) / zao cs):: dig cs ((d * zao cs+dot ds (zbl cs)) % zao cs)=d :: ds;rw[qbo d,Nat.mul_add_div hp,Nat.div_eq_of_lt h1,qa8,Nat.mul_add_mod,qa2 h1,zm0 h.2.2]
def stp:List Nat→List Nat→Nat→Nat
 | v :: vs,_ :: cs,u=>bif v == u then zao cs else stp vs cs u
 | _,_,_=>0
def at_:List Nat→List Nat→Nat→Nat
 | v :: vs,d :: ds,u=>bif v == u then d else at_ vs ds u
 | _,_,_=>0
theorem zkS:∀ {vs cs:List Nat} {u:Nat},vs.length=cs.length→stp vs cs u=(match pos vs u with | none=>0 | some k=>(zbl cs).getD k 0)
 | [],_,u,_=>by simp[stp,pos]
 | v :: vs,[],_,h=>by simp at h
 | v :: vs,c :: cs,u,h=>by
  have ih:=zkS (u:=u) (show vs.length=cs.length by simpa using h);unfold stp pos;cases hb:(v == u)with
  | true=>rfl
  | false=>
   rw[cond_false,cond_false,ih];cases pos vs u with
   | none=>rfl
   | some k=>simp[zbl]
theorem znI{f:Fc}(hf:FcOk f){vs:List Nat}(hl:vs.length≤100):∀(n i:Nat),i≤vs.length→vs.length - i<n →
  zaO (iL vs) f.T n (i:Int) (iL ((vs.map (stp f.vs f.cs)).take i ++ List.replicate (vs.length - i) 0))=some (iL (vs.map (stp f.vs f.cs)))
 | 0,_,_,h=>absurd h (qaX _)
 | n+1,i,hi,hn=>by
  unfold zaO;rw[zbj];rcases qaY i vs.length with h3 | h3
  ·have ih:=znI hf hl n (i+1) h3 (by omega);have ht:((vs.map (stp f.vs f.cs)).take i).length=i:=by simp; omega
   have e:List.replicate (vs.length - i) 0=0 :: List.replicate (vs.length - (i+1)) 0:=by
    rw[show vs.length - i=(vs.length - (i+1))+1 by omega,qaT]
   have e2:(vs.map (stp f.vs f.cs)).take (i+1)=(vs.map (stp f.vs f.cs)).take i ++ [stp f.vs f.cs vs[i]]:=by
    rw[List.take_succ_eq_append_getElem (by simpa using h3)]; simp
   rw[e2,qbm,qbb]at ih;rw[zpo h3,cond_true,zf7 h3,qad,zlv hf,qad,zdX,zok,e];rw[zkS hf.len]at ih;cases hp:pos f.vs vs[i]with
   | none=>
    rw[hp]at ih;rw[Option.isSome_none,cond_false,qad,zbo (by omega)];exact ih
   | some k=>
    rw[hp]at ih;obtain⟨hk,_⟩:=zeI hp;rw[qb0,cond_true,show ixZ (some k)=(k:Int)from rfl,show f.T.steps=iL (zbl f.cs)from rfl,ze5 (by rw[zmt,← hf.len]; exact hk),qad,zc0 ht,qad,zd1 ht,qad,qad,zbo (by omega)];exact ih
  obtain rfl:i=vs.length:=by omega
  rw[zpn,cond_false,Nat.sub_self,qbW,qa6,qaJ (by simp)]
theorem zos{f:Fc}(hf:FcOk f){vs:List Nat}(hl:vs.length≤100):zaA f.T (iL vs)=some (iL (vs.map (stp f.vs f.cs))):=by
 unfold zaA;have h:=znI hf hl (vs.length+2) 0 (qaV _) (by omega);rw[qbO,qbc,Nat.sub_zero,zhZ,show((0:Nat):Int)=0 from rfl]at h;rw[zbj,zgL (by omega),qad,zc7,h];rfl
theorem zoU(g h:Nat→Nat):∀(ds vs:List Nat),dot ds (vs.map fun v=>g v+h v)=dot ds (vs.map g)+dot ds (vs.map h)
 | [],_=>by simp[dot]
 | d :: ds,[]=>by simp[dot]
 | d :: ds,v :: vs=>by
  simp only[qaB,dot,zoU g h ds vs,Nat.mul_add];omega
theorem ziA:∀(ds vs:List Nat) (g:Nat→Nat),(∀ v∈vs,g v=0)→dot ds (vs.map g)=0
 | [],_,_,_=>by simp[dot]
 | d :: ds,[],_,_=>by simp[dot]
 | d :: ds,v :: vs,g,h=>by
  simp only[qaB,dot,h v qao,Nat.mul_zero,ziA ds vs g fun u hu=>h u (qal _ hu)]
theorem zn8{u p:Nat}:∀ {vs ds:List Nat},vs.Nodup→dot ds (vs.map fun v=>bif u == v then p else 0)=at_ vs ds u * p
 | [],ds,_=>by cases ds<;>simp[dot,at_]
 | v :: vs,[],_=>by simp[dot,at_]
 | v :: vs,d :: ds,h=>by
  obtain⟨h1,h2⟩:=qbz.1 h;simp only[qaB,dot,at_];by_cases hb:u=v
  ·subst hb;rw[beq_self_eq_true,cond_true,cond_true,ziA ds vs _ (fun w hw=>by rw[show(u == w)=false from beq_false_of_ne (fun e=>h1 (e ▸ hw))]; rfl),qa8]
  rw[show(u == v)=false from beq_false_of_ne hb,show(v == u)=false from beq_false_of_ne (fun e=>hb e.symm),cond_false,cond_false,zn8 h2,Nat.mul_zero,qaQ]
theorem znq:∀ {us cs:List Nat} {u:Nat},u ∉ us→stp us cs u=0
 | [],_,_,_=>by simp[stp]
 | v :: us,[],_,_=>by simp[stp]
 | v :: us,c :: cs,u,h=>by
  unfold stp;rw[show(v == u)=false from beq_false_of_ne (fun e=>h (by rw[e]; exact qao)),cond_false,znq fun hm=>h (qal _ hm)]
theorem zoR{vs ds:List Nat}(hv:vs.Nodup):∀ {us cs:List Nat},us.length=cs.length→us.Nodup→dot ds (vs.map (stp us cs))=dot (us.map (at_ vs ds)) (zbl cs)
 | [],cs,_,_=>by
  rw[ziA ds vs _ fun v _=>by simp[stp]];simp[dot]
 | u :: us,[],h,_=>by simp at h
 | u :: us,c :: cs,h,hn=>by
  obtain⟨h1,h2⟩:=qbz.1 hn;have e:vs.map (stp (u :: us) (c :: cs))=vs.map fun v=>(bif u == v then zao cs else 0)+stp us cs v:=by
   refine List.map_congr_left fun v _=>?_
   rw[show stp (u :: us) (c :: cs) v=bif u == v then zao cs else stp us cs v from rfl];cases hb:(u == v)with
   | true=>
    have:u=v:=by simpa using hb
    subst this;rw[cond_true,cond_true,znq h1]; rfl
   | false=>
    rw[cond_false,cond_false,qaQ]
  rw[e,zoU,zn8 hv,zoR hv (by simpa using h) h2];rfl
theorem zdm{vs:List Nat}(h:vs.Pairwise (· < ·)):vs.Nodup:=h.imp fun h=>Nat.ne_of_lt h
def Sub(vs ws:List Nat):List Nat→List Nat→Prop
 | [],[]=>True
 | u :: us,c :: cs=>(u∈vs∧at_ vs ws u=c)∧Sub vs ws us cs
 | _,_=>False
theorem zja:∀ {vs ws ds:List Nat} {u:Nat},vs.length=ws.length→zcd ws ds→u∈vs→at_ vs ds u<at_ vs ws u∧at_ vs ws u≤8
 | v :: vs,w :: ws,d :: ds,u,hl,hb,hm=>by
  unfold at_;by_cases h:v=u
  ·subst h;rw[beq_self_eq_true,cond_true,cond_true];exact⟨hb.1,hb.2.1⟩
  ·rw[show(v == u)=false from beq_false_of_ne h,cond_false,cond_false];rcases qaA.1 hm with e | hm
   ·exact absurd e.symm h
   ·exact zja (by simpa using hl) hb.2.2 hm
 | [],_,_,_,_,_,hm=>by cases hm
 | v :: vs,[],_,_,hl,_,_=>by simp at hl
 | v :: vs,w :: ws,[],_,_,hb,_=>hb.elim
theorem Sub.below{vs ws ds:List Nat}(hl:vs.length=ws.length)(hb:zcd ws ds):∀ {us cs:List Nat},Sub vs ws us cs→zcd cs (us.map (at_ vs ds))
 | [],[],_=>trivial
 | u :: us,c :: cs,⟨⟨h1,h2⟩,h3⟩=>by
  have:=zja hl hb h1;rw[h2]at this;exact⟨this.1,this.2,Sub.below hl hb h3⟩
 | [],_ :: _,h=>h.elim
 | _ :: _,[],h=>h.elim
def Fc.at(f:Fc)(vs ds:List Nat):Nat:=f.ws.getD (dot (f.vs.map (at_ vs ds)) (zbl f.cs)) 0
theorem zrd{a:Nat}(ha:a<18446744073709551616):zmQ .u64 (a:Int) 4294967295=((a % 4294967296:Nat):Int):=by
 rw[show(4294967295:Int)=((4294967295:Nat):Int)from rfl,ztr ha (by omega)];congr 1
 exact Nat.and_two_pow_sub_one_eq_mod a 32
theorem zm4(a:Nat):zlo .u64 (a:Int) 32=some ((a / 4294967296:Nat):Int):=by
 have h:=zts (a:=a) (v:=32) (by omega);rw[show((32:Nat):Int)=32 from rfl]at h;rw[h,qbq]
theorem zs2{x y:Nat}(hx:x<18446744073709551616)(hy:y<18446744073709551616):zc3 (x:Int) (y:Int)=some (((x * y / 18446744073709551616:Nat):Int),((x * y % 18446744073709551616:Nat):Int)):=by
 unfold zc3;rw[zm4,qad,zm4,qad,zrd hx,zrd hy];have ex:x=x / 4294967296 * 4294967296+x % 4294967296:=by omega
 have ey:y=y / 4294967296 * 4294967296+y % 4294967296:=by omega
 have exy:x * y=(x / 4294967296)* (y / 4294967296)* 18446744073709551616+((x / 4294967296)* (y % 4294967296)+(x % 4294967296)* (y / 4294967296))* 4294967296+(x % 4294967296)* (y % 4294967296):=by
  have:∀ a b c d:Nat,(a * 4294967296+b)* (c * 4294967296+d)=a * c * 18446744073709551616+(a * d+b * c)* 4294967296+b * d:=by
   intro a b c d;rw[qaM,Nat.mul_add,Nat.mul_add,Nat.mul_mul_mul_comm,show b * (c * 4294967296)=b * c * 4294967296 from(qbD _ _ _).symm,show a * 4294967296 * d=a * d * 4294967296 by rw[qbD,qbo 4294967296 d,qbD]];omega
  calc x * y=(x / 4294967296 * 4294967296+x % 4294967296)* (y / 4294967296 * 4294967296+y % 4294967296):=by rw[← ex,← ey]
   _=_:=this _ _ _ _
 rw[show(x:Int)* (y:Int)=((x * y:Nat):Int)from(qa4 x y).symm,zqw];have ha:x / 4294967296≤4294967295:=by omega
 have hb:x % 4294967296≤4294967295:=by omega
 have hc:y / 4294967296≤4294967295:=by omega
 have hd:y % 4294967296≤4294967295:=by omega
 rw[exy];generalize x / 4294967296=a at *;generalize x % 4294967296=b at *;generalize y / 4294967296=c at *;generalize y % 4294967296=d at *;have h1:a * c≤4294967295 * 4294967295:=qbj ha hc;have h2:a * d≤4294967295 * 4294967295:=qbj ha hd;have h3:b * c≤4294967295 * 4294967295:=qbj hb hc;have h4:b * d≤4294967295 * 4294967295:=qbj hb hd;rw[← qa4,← qa4,← qa4,← qa4];generalize a * c=p at *;generalize a * d=q at *;generalize b * c=r at *;generalize b * d=s at *
 rw[zcV (n:=s) (by omega),zm4,qad,zcV (n:=q) (by omega),← qb3,zcV (n:=q+s / 4294967296) (by omega),zm4,qad,zrd (by omega),zcV (n:=r) (by omega),← qb3,zcV (n:=(q+s / 4294967296) % 4294967296+r) (by omega),zm4,qad,
  zcV (n:=p) (by omega),← qb3,zcV (n:=p+(q+s / 4294967296) / 4294967296) (by omega),← qb3,zcV (n:=p+(q+s / 4294967296) / 4294967296+((q+s / 4294967296) % 4294967296+r) / 4294967296) (by omega)]
 congr 2
 congr 1
 omega
theorem znT{xs:List Nat}{v:Nat}:(pos xs v).isSome=decide (v∈xs):=by
 cases h:pos xs v with
 | none=>exact(decide_eq_false (ziF h)).symm
 | some k=>
  obtain⟨hk,e⟩:=zeI h;exact(decide_eq_true (e ▸ qbp hk)).symm
theorem zeu(u d:Nat)(us ds:List Nat)(v:Nat):at_ (u :: us) (d :: ds) v=bif u == v then d else at_ us ds v:=rfl
theorem zlQ:∀ {vs ds:List Nat} {v k:Nat},pos vs v=some k→at_ vs ds v=ds.getD k 0
 | [],_,_,_,h=>by cases h
 | u :: us,[],v,k,_=>by simp[at_]
 | u :: us,d :: ds,v,k,h=>by
  rw[zeu];rw[show pos (u :: us) v=bif u == v then some 0 else(pos us v).map (· + 1)from rfl]at h;cases hb:(u == v)with
  | true=>rw[hb,cond_true]at h; cases h; rw[cond_true]; rfl
  | false=>
   rw[hb,cond_false]at h;cases hp:pos us v with
   | none=>rw[hp]at h; cases h
   | some j=>rw[hp]at h; cases h; rw[cond_false,zlQ hp]; rfl
def inB(f g:Fc)(v:Nat):Bool:=decide (v∈f.vs)|| decide (v∈g.vs)
def cdF(f g:Fc)(v:Nat):Nat:=bif decide (v∈f.vs)then at_ f.vs f.cs v else at_ g.vs g.cs v
def uni(f g:Fc):List Nat:=(List.range' 0 64).filter (inB f g)
theorem zqM{xs:List Nat}{v:Nat}(h:xs.length≤100000):zgh 8 (iL xs) [(v:Int)]=some (iL (xs ++ [v])):=by
 rw[znw (by rw[zbj]; simp; omega),zlx]; rfl
theorem znN:∀ {xs:List Nat} {l:Nat},xs.Pairwise (· < ·)→(∀ x∈xs,l≤x∧x<64)→xs.length≤64 - l
 | [],_,_,_=>by simp
 | x :: xs,l,h,hb=>by
  obtain⟨h1,h2⟩:=qaO.1 h;have hx:=hb x qao;have:=znN (l:=x+1) h2 fun y hy=>⟨h1 y hy,(hb y (qal _ hy)).2⟩
  rw[qaP]; omega
theorem zhR{f:Fc}(hf:FcOk f){v k:Nat}(hp:pos f.vs v=some k):zbr f.D.zad (ixZ (some k))=some ((at_ f.vs f.cs v:Nat):Int):=by
 obtain⟨hk,_⟩:=zeI hp;show zbr (iL f.cs) (k:Int)=_;rw[ze5 (by rw[← hf.len]; exact hk),zlQ hp]
theorem zcz{f g:Fc}(hf:FcOk f)(hg:FcOk g){v:Nat}:v∈uni f g↔v∈f.vs∨v∈g.vs:=by
 unfold uni inB;simp only[qbH,qb5,qa9,decide_eq_true_eq];constructor
 ·exact fun h=>h.2
 rintro(h | h)
 ·exact⟨⟨qaV _,by have:=hf.var _ h; omega⟩,.inl h⟩
 exact⟨⟨qaV _,by have:=hg.var _ h; omega⟩,.inr h⟩
theorem zek(f g:Fc):(uni f g).Pairwise (· < ·):=qca _ List.pairwise_lt_range'
theorem zpW{f g:Fc}:∀ v∈uni f g,v<64:=by
 intro v hv;have:=(qbH.1 hv).1;simp only[qb5]at this;omega
theorem zqi(f g:Fc):(uni f g).length≤64:=znN (l:=0) (zek f g) fun x hx=>⟨qaV _,zpW x hx⟩
theorem znS:∀ {a b:List Nat},a.Pairwise (· < ·)→b.Pairwise (· < ·)→(∀ x,x∈a↔x∈b)→a=b
 | [],[],_,_,_=>rfl
 | [],b :: bs,_,_,h=>by have:=(h b).2 qao; simp at this
 | a :: xs,[],_,_,h=>by have:=(h a).1 qao; simp at this
 | a :: xs,b :: bs,ha,hb,h=>by
  obtain⟨ha1,ha2⟩:=qaO.1 ha;obtain⟨hb1,hb2⟩:=qaO.1 hb;have e:a=b:=by
   rcases qaA.1 ((h a).1 qao)with h1 | h1
   ·exact h1
   rcases qaA.1 ((h b).2 qao)with h2 | h2
   ·exact h2.symm
   have:=hb1 a h1; have:=ha1 b h2; omega
  subst e;refine congrArg (a :: ·) (znS ha2 hb2 fun x=>⟨fun hx=>?_,fun hx=>?_⟩)
  ·rcases qaA.1 ((h x).1 (qal _ hx))with rfl | h1
   ·have:=ha1 x hx; omega
   exact h1
  rcases qaA.1 ((h x).2 (qal _ hx))with rfl | h1
  ·have:=hb1 x hx; omega
  exact h1
theorem zlw:∀ {a b:List Int},a.Pairwise (· < ·)→b.Pairwise (· < ·)→(∀ x,x∈a↔x∈b)→a=b
 | [],[],_,_,_=>rfl
 | [],b :: bs,_,_,h=>by have:=(h b).2 qao; simp at this
 | a :: xs,[],_,_,h=>by have:=(h a).1 qao; simp at this
 | a :: xs,b :: bs,ha,hb,h=>by
  obtain⟨ha1,ha2⟩:=qaO.1 ha;obtain⟨hb1,hb2⟩:=qaO.1 hb;have e:a=b:=by
   rcases qaA.1 ((h a).1 qao)with h1 | h1
   ·exact h1
   rcases qaA.1 ((h b).2 qao)with h2 | h2
   ·exact h2.symm
   have:=hb1 a h1; have:=ha1 b h2; omega
  subst e;refine congrArg (a :: ·) (zlw ha2 hb2 fun x=>⟨fun hx=>?_,fun hx=>?_⟩)
  ·rcases qaA.1 ((h x).1 (qal _ hx))with rfl | h1
   ·have:=ha1 x hx; omega
   exact h1
  rcases qaA.1 ((h x).2 (qal _ hx))with rfl | h1
  ·have:=hb1 x hx; omega
  exact h1
section
variable {s:List Int}
theorem ziU{j:Nat}(h:j<s.length):s.toArray[j]! = s[j]:=by simp[h]
theorem zpO(hs:s.Pairwise (· ≤ ·)){i j:Nat}(hij:i≤j)(hj:j<s.length):s.toArray[i]!≤s.toArray[j]!:=by
 rw[ziU (by omega),ziU hj];rcases Nat.eq_or_lt_of_le hij with h | h
 ·subst h; exact qbv _
 exact List.pairwise_iff_getElem.1 hs i j (by omega) hj h
theorem zq8(hs:s.Pairwise (· ≤ ·)):(Go.Lib.compact s).Pairwise (· < ·):=by
 unfold Go.Lib.compact Go.Lib.compactUpTo;refine List.pairwise_map.2 ((qca _ (List.pairwise_lt_range (n:=s.length))).imp_of_mem fun {a b} _ hb hab=>?_);obtain⟨h1,h2⟩:=qbH.1 hb;have hb:=qbP.1 h1;have h3:s.toArray[b]!≠s.toArray[b - 1]!:=by
  rcases of_decide_eq_true h2 with h | h
  ·omega
  exact h
 have h4:=zpO hs (show a≤b - 1 by omega) (by omega);have h5:=zpO hs (show b - 1≤b by omega) hb;omega
theorem zlH:∀ j:Nat,j<s.length→∃ i,i<s.length∧Go.Lib.keeps s.toArray i=true∧s.toArray[i]! = s.toArray[j]!
 | 0,h=>⟨0,h,decide_eq_true (.inl rfl),rfl⟩
 | j+1,h=>by
  by_cases e:s.toArray[j+1]! = s.toArray[j]!
  ·obtain⟨i,h1,h2,h3⟩:=zlH j (by omega);exact⟨i,h1,h2,h3.trans e.symm⟩
  exact⟨j+1,h,decide_eq_true (.inr e),rfl⟩
theorem zqP{x:Int}:x∈Go.Lib.compact s↔x∈s:=by
 unfold Go.Lib.compact Go.Lib.compactUpTo;constructor
 ·intro h;obtain⟨j,h1,rfl⟩:=qaK.1 h;have hj:=qbP.1 (qbH.1 h1).1;rw[ziU hj];exact qbp hj
 intro h;obtain⟨j,hj,rfl⟩:=List.mem_iff_getElem.1 h;obtain⟨i,h1,h2,h3⟩:=zlH j hj;exact qaK.2 ⟨i,qbH.2 ⟨qbP.2 h1,h2⟩,h3.trans (ziU hj)⟩
end
theorem zph(zs:List Int):(zeh zs).Pairwise (· ≤ ·):=by
 have:=List.pairwise_mergeSort (le:=fun x y:Int=>decide (x≤y)) (fun a b c h1 h2=>by simp at *; omega) (fun a b=>by simp; omega) zs;exact this.imp fun h=>by simpa using h
theorem zm9{zs:List Int}{x:Int}:x∈zeh zs↔x∈zs:=List.mem_mergeSort
theorem zrF{xs:List Nat}(h:xs.Pairwise (· < ·)):(iL xs).Pairwise (· < ·):=List.pairwise_map.2 (h.imp fun h=>Int.ofNat_lt.2 h)
theorem zp8{xs:List Nat}{x:Int}:x∈iL xs↔∃ k∈xs,(k:Int)=x:=qaK
theorem zq2{f g:Fc}(hf:FcOk f)(hg:FcOk g):Go.Lib.compact (zeh (iL f.vs ++ iL g.vs))=iL (uni f g):=by
 refine zlw (zq8 (zph _)) (zrF (zek f g)) fun x=>?_
 rw[zqP,zm9,← zlx,zp8,zp8];constructor
 ·rintro⟨k,h1,h2⟩; exact⟨k,(zcz hf hg).2 (qbZ.1 h1),h2⟩
 rintro⟨k,h1,h2⟩; exact⟨k,qbZ.2 ((zcz hf hg).1 h1),h2⟩
theorem zoK{f g:Fc}(hf:FcOk f)(hg:FcOk g){vs:List Nat}(hl:vs.length≤100)(hm:∀ v∈vs,v∈f.vs∨v∈g.vs):∀(n i:Nat),i≤vs.length→vs.length - i<n →
  zbg (iL vs) f.T g.T n (i:Int) (iL ((vs.map (cdF f g)).take i ++ List.replicate (vs.length - i) 0))=some (iL (vs.map (cdF f g)))
 | 0,_,_,h=>absurd h (qaX _)
 | n+1,i,hi,hn=>by
  unfold zbg;rw[zbj];rcases qaY i vs.length with h3 | h3
  ·have ih:=zoK hf hg hl hm n (i+1) h3 (by omega);have ht:((vs.map (cdF f g)).take i).length=i:=by simp; omega
   have e:List.replicate (vs.length - i) 0=0 :: List.replicate (vs.length - (i+1)) 0:=by
    rw[show vs.length - i=(vs.length - (i+1))+1 by omega,qaT]
   have e2:(vs.map (cdF f g)).take (i+1)=(vs.map (cdF f g)).take i ++ [cdF f g vs[i]]:=by
    rw[List.take_succ_eq_append_getElem (by simpa using h3)]; simp
   rw[e2,qbm,qbb]at ih;rw[zpo h3,cond_true,zf7 h3,qad,zlv hf,qad,zdX,zok,e];cases hp:pos f.vs vs[i]with
   | some k=>
    have hm:decide (vs[i]∈f.vs)=true:=by rw[← znT,hp]; rfl
    rw[show cdF f g vs[i]=at_ f.vs f.cs vs[i] by unfold cdF; rw[hm]; rfl]at ih;rw[qb0,cond_true,show f.T.factor=f.D from rfl,zhR hf hp,qad,zc0 ht,qad,zd1 ht,qad,qad,zbo (by omega)];exact ih
   | none=>
    have hm1:decide (vs[i]∈f.vs)=false:=by rw[← znT,hp]; rfl
    rw[show cdF f g vs[i]=at_ g.vs g.cs vs[i] by unfold cdF; rw[hm1]; rfl]at ih;have hm2:vs[i]∈g.vs:=(hm vs[i] (qbp h3)).resolve_left (of_decide_eq_false hm1);obtain⟨k,hq⟩:=zrm hm2;rw[Option.isSome_none,cond_false,zlv hg,qad,zdX,hq,show g.T.factor=g.D from rfl,zhR hg hq,qad,zc0 ht,qad,zd1 ht,qad,qad,zbo (by omega)];exact ih
  obtain rfl:i=vs.length:=by omega
  rw[zpn,cond_false,Nat.sub_self,qbW,qa6,qaJ (by simp)]
theorem zqj{f g:Fc}(hf:FcOk f)(hg:FcOk g):zbP f.T g.T=some (iL (uni f g),iL ((uni f g).map (cdF f g))):=by
 have hl:=zqi f g;have h1:=hf.le; have h2:=hg.le; have h3:=hf.len; have h4:=hg.len;unfold zbP
 rw[show f.T.factor.vars=iL f.vs from rfl,show g.T.factor.vars=iL g.vs from rfl,zpC (by rw[zbj]; omega),qad,znw (by rw[zbj,zbj]; omega),qad,
  show zhp 8 (iL f.vs ++ iL g.vs)=some (zeh (iL f.vs ++ iL g.vs))from by unfold zhp; rw[if_pos (by rw[qat,zbj,zbj]; simp only[zap]; omega)],qad,
  show zrp (zeh (iL f.vs ++ iL g.vs))=some (Go.Lib.compact (zeh (iL f.vs ++ iL g.vs)))from rfl,qad,zq2 hf hg,zbj,zgL (by omega),qad,zc7]
 have:=zoK hf hg (vs:=uni f g) (by omega) (fun v hv=>(zcz hf hg).1 hv) ((uni f g).length+2) 0 (qaV _) (by omega);rw[qbO,qbc,Nat.sub_zero,zhZ]at this;rw[show zbg (iL (uni f g)) f.T g.T ((uni f g).length+2) 0 (List.replicate (uni f g).length 0)=_ from this];rfl
abbrev noF:S_api_Factor:=⟨[],[],[]⟩
theorem zsb{P:Nat}:((bif (((P / 18446744073709551616:Nat):Int)== 0)then some (decide ((4611686018427387903:Int)<((P % 18446744073709551616:Nat):Int)))else some true):Option Bool)=some (!decide (P≤zgi)):=by
 by_cases h:P / 18446744073709551616=0
 ·rw[h,show(((0:Nat):Int)== 0)=true from rfl,cond_true];congr 1
  by_cases h2:P≤zgi
  ·rw[decide_eq_true h2]; exact decide_eq_false (by have:P≤4611686018427387903:=h2; omega)
  rw[decide_eq_false h2]; exact decide_eq_true (by have:¬ P≤4611686018427387903:=h2; omega)
 rw[show(((P / 18446744073709551616:Nat):Int)== 0)=false from beq_eq_false_iff_ne.2 (by omega),cond_false,decide_eq_false (show ¬ P≤zgi by intro(h2:P≤4611686018427387903); omega)];rfl
theorem zoH{x:Nat}(h:x≤zgi):IntKind.u64.wrap (x:Int)=(x:Int):=by
 have:x≤4611686018427387903:=h;rw[zqw,qa2 (by omega)]
theorem zsj{P:Nat}(h:P≤zgi):w64 ((P % 18446744073709551616:Nat):Int)=(P:Int):=by
 have:P≤4611686018427387903:=h;rw[qa2 (by omega),zd2 (by omega)]
structure Dom (u c:List Nat):Prop where
 len:u.length=c.length
 nodup:u.Nodup
 zmU:∀ x∈c,1≤x∧x≤8
 le:c.length≤12
 prod:zao c≤4096
theorem zg3{cs:List Nat}(h:zbw (iL cs)=true):(∀ c∈cs,1≤c∧c≤8)∧zao cs≤4096∧cs.length≤12:=by
 obtain⟨ns,h1,h2⟩:=zho h;have:cs=ns:=by rw[← zfz cs,h1,zfz]
 subst this;exact h2
theorem Fc.zrP{f:Fc}(hf:FcOk f)(u ds:List Nat):f.at u ds≤zgi:=by
 unfold Fc.at;generalize dot _ _=k;by_cases h:k<f.ws.length
 ·rw[qaG,qaf h];exact hf.num _ (qbp h)
 rw[qaG,qbl (by omega)];exact qaV _
theorem wat{f:Fc}(hf:FcOk f){u c ds:List Nat}(hD:Dom u c)(hs:Sub u c f.vs f.cs)(hb:zcd c ds):zbr f.D.w ((dot ds (u.map (stp f.vs f.cs)):Nat):Int)=some ((f.at u ds:Nat):Int):=by
 rw[zoR hD.nodup hf.len (zdm hf.inc)];show zbr (iL f.ws) _=_;have:=zlI (Sub.below hD.len hb hs);rw[ze5 (by rw[hf.size]; exact this)];rfl
theorem zh0(c ss:List Nat)(i m:Nat):zhs c ss i (m+1)=((i:Int),((dot (dig c i) ss:Nat):Int),iL (dig c i)):: zhs c ss (i+1) m:=by
 unfold zhs;rw[qbM,qaB]
theorem zqa{f:Fc}(hf:FcOk f){r12:Int×Int}{u c:List Nat}{e:Int}(hD:Dom u c)(hs:Sub u c f.vs f.cs):∀(m i:Nat) (ys:List Nat),i+m=zao c→ys.length=i →
  zbJ (f.T,e) r12 (zhs c (u.map (stp f.vs f.cs)) i m) (iL (ys ++ List.replicate m 0))=some (iL (ys ++ (List.range' i m).map fun j=>f.at u (dig c j)))
 | 0,i,ys,_,_=>by simp[zhs,zbJ]
 | m+1,i,ys,h,hy=>by
  rw[zh0];show(zbr f.D.w ((dot (dig c i) (u.map (stp f.vs f.cs)):Nat):Int)).bind _=_;rw[wat hf hD hs (zeD hD.zmU (by omega)),qad];simp only[];rw[qaT,zc0 hy,qad,zd1 hy,qad,show ys ++ f.at u (dig c i):: List.replicate m 0=(ys ++ [f.at u (dig c i)])++ List.replicate m 0 by simp,zqa hf hD hs m (i+1) _ (by omega) (by simp[hy]),qbM,qaB,qbm,qbb]
theorem zp6{g:Fc}(hg:FcOk g){r12:Int×Int}{u c:List Nat}{e:Int}(hD:Dom u c)(hs:Sub u c g.vs g.cs){fa:Nat→Nat}(hfa:∀ j,fa j≤zgi):∀(m i:Nat) (ys:List Nat),i+m=zao c→ys.length=i →
  zbM (g.T,e) r12 (zhs c (u.map (stp g.vs g.cs)) i m) (iL (ys ++ (List.range' i m).map fa))=
   some (bif (List.range' i m).all fun j=>decide (fa j * g.at u (dig c j)≤zgi)then .go (iL (ys ++ (List.range' i m).map fun j=>fa j * g.at u (dig c j)))else .ret (noF,6))
 | 0,i,ys,_,_=>by simp[zhs,zbM]
 | m+1,i,ys,h,hy=>by
  have h1:fa i≤4611686018427387903:=hfa i;have h2:g.at u (dig c i)≤4611686018427387903:=Fc.zrP hg u _;rw[zh0,qbM,qaB,qcb];show(zbr (iL (ys ++ fa i :: _)) (i:Int)).bind _=_;rw[zc0 hy,qad];simp only[];rw[show(g.T,e).1.factor.w=g.D.w from rfl,wat hg hD hs (zeD hD.zmU (by omega)),qad,zoH h1,zoH h2,zs2 (by omega) (by omega),qad];simp only[];rw[zsb,qad];by_cases hp:fa i * g.at u (dig c i)≤zgi
  ·rw[decide_eq_true hp,qaS,cond_false,qad,zsj hp,zd1 hy,qad,
    show ys ++ fa i * g.at u (dig c i)::(List.range' (i+1) m).map fa=(ys ++ [fa i * g.at u (dig c i)])++ (List.range' (i+1) m).map fa by simp,zp6 hg hD hs hfa m (i+1) _ (by omega) (by simp[hy])]
   simp
  rw[decide_eq_false hp,qbh,cond_true,Bool.false_and,cond_false]
theorem zh3{h:Nat→Nat}{v:Nat}:∀ {us:List Nat},v∈us→at_ us (us.map h) v=h v
 | [],hm=>by simp at hm
 | u :: us,hm=>by
  rw[qaB,zeu];cases hb:(u == v)with
  | true=>rw[cond_true]; rw[beq_iff_eq]at hb; rw[hb]
  | false=>
   rw[cond_false];rcases qaA.1 hm with e | e
   ·rw[e]at hb; simp at hb
   exact zh3 e
theorem zn6:∀ {vs ds:List Nat} {i:Nat} (hn:vs.Nodup) (h:i<vs.length),at_ vs ds vs[i]=ds.getD i 0
 | v :: vs,[],i,_,_=>by simp[at_]
 | v :: vs,d :: ds,0,_,_=>by rw[zeu]; simp
 | v :: vs,d :: ds,i+1,hn,h=>by
  obtain⟨h1,h2⟩:=qbz.1 hn;have hi:i<vs.length:=by simpa using h
  rw[zeu,show(v :: vs)[i+1]=vs[i]from rfl,show(v == vs[i])=false from beq_false_of_ne (fun e=>h1 (e ▸ qbp hi)),cond_false,zn6 h2 hi];rfl
theorem zrV{vs ds:List Nat}(hn:vs.Nodup)(hl:vs.length=ds.length):vs.map (at_ vs ds)=ds:=by
 refine List.ext_getElem (by simpa using hl) fun i h1 h2=>?_
 rw[List.getElem_map,zn6 hn (by simpa using h1),qaG,qaf h2];rfl
theorem zm3{vs ws:List Nat}:∀ {us cs:List Nat},us.length=cs.length→us.Nodup→(∀ u∈us,u∈vs∧at_ vs ws u=at_ us cs u)→Sub vs ws us cs
 | [],[],_,_,_=>trivial
 | [],c :: cs,h,_,_=>by simp at h
 | u :: us,[],h,_,_=>by simp at h
 | u :: us,c :: cs,hl,hn,h=>by
  obtain⟨h1,h2⟩:=qbz.1 hn;refine⟨⟨(h u qao).1,?_⟩,zm3 (by simpa using hl) h2 fun x hx=>⟨(h x (qal _ hx)).1,?_⟩⟩
  ·rw[(h u qao).2,zeu,beq_self_eq_true,cond_true]
  rw[(h x (qal _ hx)).2,zeu,show(u == x)=false from beq_false_of_ne (fun e=>h1 (e ▸ hx)),cond_false]
def Agr(f g:Fc):Prop:=∀ v,v∈f.vs→v∈g.vs→at_ f.vs f.cs v=at_ g.vs g.cs v
theorem zjD{f g:Fc}(hf:FcOk f)(hg:FcOk g):zd6 f g 0 f.vs=true↔Agr f g:=by
 have key:∀(m i:Nat),i+m=f.vs.length→(zd6 f g i (f.vs.drop i)=true↔∀ v∈f.vs.drop i,v∈g.vs→at_ f.vs f.cs v=at_ g.vs g.cs v):=by
  intro m;induction m with
  | zero=>intro i h; rw[qbA (by omega)]; simp[zd6]
  | succ m ih=>
   intro i h;have hi:i<f.vs.length:=by omega
   rw[qaz hi];rw[show zd6 f g i (f.vs[i]:: f.vs.drop (i+1))=((match pos g.vs f.vs[i]with | none=>true | some k=>g.cs.getD k 0 == f.cs.getD i 0) && zd6 f g (i+1) (f.vs.drop (i+1)))from rfl,qag,ih (i+1) (by omega),List.forall_mem_cons];refine and_congr ?_ Iff.rfl;rw[zn6 (zdm hf.inc) hi];cases hp:pos g.vs f.vs[i]with
   | none=>exact⟨fun _ hm=>absurd hm (ziF hp),fun _=>rfl⟩
   | some k=>
    obtain⟨hk,e⟩:=zeI hp;rw[zlQ hp];simp only[beq_iff_eq];exact⟨fun h _=>h.symm,fun h=>(h (e ▸ qbp hk)).symm⟩
 have:=key f.vs.length 0 (by omega)
 rwa [qbe]at this
def ucs(f g:Fc):List Nat:=(uni f g).map (cdF f g)
theorem ztf{f g:Fc}{v:Nat}(h:v∈f.vs):cdF f g v=at_ f.vs f.cs v:=by unfold cdF; rw[decide_eq_true h,cond_true]
theorem ztc{f g:Fc}(ha:Agr f g){v:Nat}(h:v∈g.vs):cdF f g v=at_ g.vs g.cs v:=by
 unfold cdF;by_cases h1:v∈f.vs
 ·rw[decide_eq_true h1,cond_true,ha v h1 h]
 rw[decide_eq_false h1,cond_false]
theorem zs6{f g:Fc}(hf:FcOk f)(hg:FcOk g):Sub (uni f g) (ucs f g) f.vs f.cs:=
 zm3 hf.len (zdm hf.inc) fun u hu=>by
  have hm:=(zcz hf hg).2 (.inl hu);exact⟨hm,by unfold ucs; rw[zh3 hm,ztf hu]⟩
theorem zsS{f g:Fc}(hf:FcOk f)(hg:FcOk g)(ha:Agr f g):Sub (uni f g) (ucs f g) g.vs g.cs:=
 zm3 hg.len (zdm hg.inc) fun u hu=>by
  have hm:=(zcz hf hg).2 (.inr hu);exact⟨hm,by unfold ucs; rw[zh3 hm,ztc ha hu]⟩
theorem zk2{f g:Fc}(h:zbw (iL (ucs f g))=true):Dom (uni f g) (ucs f g):=by
 obtain⟨h1,h2,h3⟩:=zg3 h;exact⟨by unfold ucs; simp,zdm (zek f g),h1,h3,h2⟩
def zkG(f g:Fc):Bool:=(List.range' 0 (zao (ucs f g))).all fun j=>decide (f.at (uni f g) (dig (ucs f g) j)* g.at (uni f g) (dig (ucs f g) j)≤zgi)
def zgr(f g:Fc):Fc:=⟨uni f g,ucs f g,(List.range' 0 (zao (ucs f g))).map fun j=>f.at (uni f g) (dig (ucs f g) j)* g.at (uni f g) (dig (ucs f g) j)⟩
def mulR(f g:Fc):S_api_Factor×Int:=bif zbw (iL (ucs f g))then bif zkG f g then((zgr f g).D,0)else(noF,6)else(noF,3)
theorem zmY{f:Fc}(hf:FcOk f)(v:Nat):stp f.vs f.cs v≤4096:=by
 rw[zkS hf.len];cases hp:pos f.vs v with
 | none=>exact qaV _
 | some k=>
  simp only;by_cases h:k<(zbl f.cs).length
  ·rw[qaG,qaf h];exact zpk (fun c hc=>(hf.zmU c hc).1) hf.prod _ (qbp h)
  rw[qaG,qbl (by omega)];exact qaV _
theorem zjJ(a b:List Int):zaT a b=some (a,b):=by rfl
theorem zjB{f:Fc}(hf:FcOk f){u c:List Nat}(hD:Dom u c):zoZ (iL c) (iL (u.map (stp f.vs f.cs)))=some (zhs c (u.map (stp f.vs f.cs)) 0 (zao c)):=
 zrG hD.zmU hD.le hD.prod (by rw[qba,hD.len]) fun s hs=>by
  obtain⟨v,_,rfl⟩:=qaK.1 hs;exact zmY hf v
theorem zi1{f g:Fc}(hf:FcOk f)(hg:FcOk g):zau f.D g.D=some (bif zd6 f g 0 f.vs then mulR f g else(noF,2)):=by
 unfold zau mulR;rw[znO hf,qad];simp only[];rw[show((0:Int)== 0)=true from rfl,cond_true,znO hg,qad];simp only[];rw[show((0:Int)== 0)=true from rfl,cond_true,zqQ hf hg,qad];cases ha:zd6 f g 0 f.vs with
 | false=>rfl
 | true=>
  have hA:=(zjD hf hg).1 ha;rw[cond_true,cond_true,zqj hf hg,qad];show(zb6 (iL (ucs f g))).bind _=_;rw[zpR,qad];cases hc:zbw (iL (ucs f g))with
  | false=>rfl
  | true=>
   have hD:=zk2 hc;rw[cond_true,cond_true];have hlu:=zqi f g;have hp:=hD.prod;simp only[];rw[show((0:Int)== 0)=true from rfl,cond_true,zen,zgL (by omega),qad,zos hf (by omega),qad,zjJ,qad];simp only[];rw[show iL ((uni f g).map (cdF f g))=iL (ucs f g)from rfl,zjB hf hD,qad,← zhZ];have e1:=zqa hf (r12:=((zao (ucs f g):Nat),0)) (e:=0) hD (zs6 hf hg) (zao (ucs f g)) 0 [] (by omega) rfl;rw[qbc]at e1;rw[e1,qad,zos hg (by omega),qad,zjJ,qad];simp only[];rw[zjB hg hD,qad];have e2:=zp6 hg (r12:=((zao (ucs f g):Nat),0)) (e:=0) hD (zsS hf hg hA) (fa:=fun j=>f.at (uni f g) (dig (ucs f g) j)) (fun j=>Fc.zrP hf _ _) (zao (ucs f g)) 0 [] (by omega) rfl;rw[e2,qad];unfold zkG;cases hk:(List.range' 0 (zao (ucs f g))).all fun j=>decide (f.at (uni f g) (dig (ucs f g) j)* g.at (uni f g) (dig (ucs f g) j)≤zgi)with
   | false=>rfl
   | true=>rfl
end Go.Dc
