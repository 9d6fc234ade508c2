/-
 Plain laws: numbers and sets of bits. Conditions: none.
-/
import Derived.Test.YtnfgibomhkbcpaaFkJ5
set_option linter.unusedSimpArgs false
set_option linter.unusedVariables false
namespace Go.Dc
open Go Go.Mx Go.Lx
theorem zcj{n:Nat}(h:n<9223372036854775808):w64 (n:Int)=(n:Int):=wrap64 (by omega) (by omega)
theorem zeb{n:Int}(h1:-9223372036854775808≤n)(h2:n<9223372036854775808):w64 n=n:=wrap64 h1 h2
theorem zaI{n:Nat}(h:n+1<9223372036854775808):w64 ((n:Int)+1)=((n+1:Nat):Int):=by
 rw[zeb (by omega) (by omega)]; omega
theorem zud(n:Nat):IntKind.u64.wrap (n:Int)=((n % 18446744073709551616:Nat):Int):=by
 simp only[IntKind.wrap,IntKind.bits,IntKind.signed]; simp
theorem zqE{n:Nat}(h:n<18446744073709551616):IntKind.u64.wrap (n:Int)=(n:Int):=by
 rw[zud,qbq h]
theorem zuK(a v:Nat):((a >>> v) &&& 1)=(a.testBit v).toNat:=by
 rw[Nat.and_one_is_mod,Nat.testBit_eq_decide_div_mod_eq,qbR];have h:=Nat.mod_two_eq_zero_or_one (a / 2 ^ v);rcases h with h | h<;>simp[h]
variable {α:Type}
theorem zqi{xs:List α}{i:Nat}:za4 xs (i:Int)=xs[i]?:=by
 unfold za4;rw[if_pos (qbD i),qaI]
theorem zaG{xs:List α}{i:Nat}(h:i<xs.length):za4 xs (i:Int)=some (xs[i]'h):=by
 rw[zqi,qag h]
theorem zjo{xs:List α}{i:Nat}{v:α}(h:i<xs.length):zfD xs (i:Int) v=some (xs.set i v):=by
 unfold zfD;rw[if_pos (by omega),qaI]
theorem znY{b:Nat}{xs ys:List α}(h:(xs.length+ys.length)* b≤70368744177664):zfB b xs ys=some (xs ++ ys):=by
 unfold zfB;rw[if_pos (by simp only[zap]; omega)]
theorem zfE{b n:Nat}{z:α}(h:n * b≤70368744177664):zd2 b (n:Int) z=some (List.replicate n z):=by
 have h2:(n:Int)* (b:Int)≤zap:=by
  rw[← qa7]; simp only[zap]; omega
 unfold zd2;rw[if_pos ⟨qbD n,h2⟩,qaI]
theorem zqG{b:Nat}{xs:List α}(h:xs.length * b≤70368744177664):zdg b xs=some xs:=by
 unfold zdg;rw[if_pos (by simp only[zap]; omega)]
theorem zpS{i n:Nat}:decide ((i:Int)<(n:Int))=decide (i<n):=by simp
theorem zbb(n:Nat):((n:Int) - 0+2).toNat=n+2:=by omega
def iL(xs:List Nat):List Int:=xs.map (fun x:Nat=>(x:Int))
theorem zaS(xs:List Nat):(iL xs).length=xs.length:=by simp[iL]
theorem zra{xs:List Nat}{i:Nat}(h:i<xs.length):(iL xs)[i]'(by rw[zaS]; exact h)=((xs[i]:Nat):Int):=by simp[iL]
theorem zdK{xs:List Nat}{i:Nat}(h:i<xs.length):za4 (iL xs) (i:Int)=some ((xs[i]:Nat):Int):=by
 rw[zaG (by rw[zaS]; exact h),zra h]
def zai(xs:List Nat):Nat:=xs.foldr (· * ·) 1
theorem zko{xs:List Nat}(h:∀ x∈xs,1≤x):1≤zai xs:=by
 induction xs with
 | nil=>exact qai 1
 | cons x xs ih=>exact qbL (h x qaB) (ih fun y hy=>h y (qao _ hy))
theorem zjn{i n:Nat}(h:i<n):decide ((i:Int)<(n:Int))=true:=decide_eq_true (by omega)
theorem zja(n:Nat):decide ((n:Int)<(n:Int))=false:=decide_eq_false (by omega)
abbrev zgG:Nat:=4611686018427387903
def zdp:Nat→List Int→Bool
 | _,[]=>true
 | a,c :: cs=>decide (1≤c) && decide (c≤8) && decide (a * c.toNat≤4096) && zdp (a * c.toNat) cs
theorem ziH:∀ {cs:List Int} {a:Nat},zdp a cs=true→∃ ns:List Nat,cs=iL ns∧(∀ c∈ns,1≤c∧c≤8)∧(a≤4096→a * zai ns≤4096)
 | [],a,_=>⟨[],rfl,by simp,fun h=>by simpa [zai]using h⟩
 | c :: cs,a,h=>by
  simp only[zdp,qaf,decide_eq_true_eq]at h;obtain⟨⟨⟨h1,h2⟩,h3⟩,h4⟩:=h;obtain⟨ns,e,g1,g2⟩:=ziH h4;refine⟨c.toNat :: ns,?_,?_,fun _=>?_⟩
  ·rw[e]; simp[iL]; omega
  ·intro d hd;rcases qaL.1 hd with rfl | hd
   ·omega
   exact g1 d hd
  have:=g2 h3;show a * (c.toNat * zai ns)≤4096;rw[← qb0]; exact this
theorem zhN:∀ {ns:List Nat} {a:Nat},(∀ c∈ns,1≤c∧c≤8)→a * zai ns≤4096→zdp a (iL ns)=true
 | [],a,_,_=>rfl
 | n :: ns,a,h,hp=>by
  have h1:=h n qaB;have hp':a * n * zai ns≤4096:=by rw[qb0]; exact hp
  have hpos:1≤zai ns:=zko fun x hx=>(h x (qao _ hx)).1
  have hle:a * n≤4096:=qau (qbw _ hpos) hp';show(decide ((1:Int)≤(n:Int)) && decide ((n:Int)≤8) && decide (a * (n:Int).toNat≤4096) && zdp (a * (n:Int).toNat) (iL ns))=true;rw[qaI,zhN (fun c hc=>h c (qao _ hc)) hp',decide_eq_true (by omega),decide_eq_true (by omega),decide_eq_true hle];rfl
def zet:List Int→Nat
 | []=>1
 | c :: cs=>c.toNat * zet cs
theorem zdH(ns:List Nat):zet (iL ns)=zai ns:=by
 induction ns with
 | nil=>rfl
 | cons n ns ih=>show(n:Int).toNat * zet (iL ns)=n * zai ns; rw[ih,qaI]
theorem zpm(cs:List Int)(hl:cs.length≤12):∀(n i:Nat) (a:Nat),a≤4096→i≤cs.length→cs.length - i<n→zbV cs n ((a:Nat):Int) (i:Int)=some (bif zdp a (cs.drop i)then(((a * zet (cs.drop i):Nat):Int),true)else(0,false))
 | 0,_,_,_,_,h=>absurd h (qaw _)
 | n+1,i,a,ha,hi,hn=>by
  unfold zbV;rcases qaF i cs.length with h3 | h3
  ·rw[zjn h3,cond_true,zaG h3,qab,qak h3];generalize cs[i]=c;simp only[zdp,zet];by_cases h1:c<1
   ·rw[decide_eq_true h1,cond_true,qab,cond_true,decide_eq_false (show ¬ 1≤c by omega)];rfl
   rw[decide_eq_false h1,cond_false,decide_eq_true (show 1≤c by omega)];by_cases h2:8<c
   ·rw[decide_eq_true h2,cond_true,qab,cond_true,decide_eq_false (show ¬ c≤8 by omega)];rfl
   rw[decide_eq_false h2,cond_false,decide_eq_true (show c≤8 by omega)];obtain⟨m,rfl⟩:∃ m:Nat,c=(m:Int):=⟨c.toNat,by omega⟩;have hb:a * m≤4096 * 8:=qbL ha (by omega);rw[← qa7,zcj (by omega),qab,qaI];by_cases h4:a * m≤4096
   ·rw[show decide ((4096:Int)<((a * m:Nat):Int))=false from decide_eq_false (by omega),cond_false,zaI (by omega),zpm cs hl n (i+1) (a * m) h4 h3 (by omega),decide_eq_true h4,qb0];rfl
   rw[show decide ((4096:Int)<((a * m:Nat):Int))=true from decide_eq_true (by omega),cond_true,decide_eq_false h4];rfl
  obtain rfl:i=cs.length:=by omega
  rw[zja,cond_false,qaC];simp[zdp,zet]
def zct(cs:List Int):Bool:=decide (cs.length≤12) && zdp 1 cs
theorem zs4(cs:List Int):zcI cs=some (bif zct cs then(((zet cs:Nat):Int),0)else(0,20)):=by
 unfold zcI zds zct;by_cases hl:cs.length≤12
 ·rw[show decide ((12:Int)<(cs.length:Int))=false from decide_eq_false (by omega),cond_false,zbb];have:=zpm cs hl (cs.length+2) 0 1 (by omega) (qaQ _) (by omega);rw[show((1:Nat):Int)=1 from rfl,show((0:Nat):Int)=0 from rfl,qaK,qbV]at this;rw[this,decide_eq_true hl,qaS];cases zdp 1 cs<;>rfl
 rw[show decide ((12:Int)<(cs.length:Int))=true from decide_eq_true (by omega),cond_true,decide_eq_false hl];rfl
theorem zk0(cs:List Int)(hl:cs.length≤12):∀(n i:Nat) (a:Nat),a≤4096→i≤cs.length→cs.length - i<n→zcB cs n ((a:Nat):Int) (i:Int)=some (bif zdp a (cs.drop i)then .go ()else .ret false)
 | 0,_,_,_,_,h=>absurd h (qaw _)
 | n+1,i,a,ha,hi,hn=>by
  unfold zcB;rcases qaF i cs.length with h3 | h3
  ·rw[zjn h3,cond_true,zaG h3,qab,qak h3];generalize cs[i]=c;simp only[zdp];by_cases h1:c<1
   ·rw[decide_eq_true h1,cond_true,qab,cond_true,decide_eq_false (show ¬ 1≤c by omega)];rfl
   rw[decide_eq_false h1,cond_false,decide_eq_true (show 1≤c by omega)];by_cases h2:8<c
   ·rw[decide_eq_true h2,qab,cond_true,decide_eq_false (show ¬ c≤8 by omega)];rfl
   rw[decide_eq_false h2,qab,cond_false,decide_eq_true (show c≤8 by omega),qab];obtain⟨m,rfl⟩:∃ m:Nat,c=(m:Int):=⟨c.toNat,by omega⟩;have hb:a * m≤4096 * 8:=qbL ha (by omega);rw[← qa7,zcj (by omega),qaI];by_cases h4:a * m≤4096
   ·rw[show decide ((4096:Int)<((a * m:Nat):Int))=false from decide_eq_false (by omega),cond_false,zaI (by omega),zk0 cs hl n (i+1) (a * m) h4 h3 (by omega),decide_eq_true h4];rfl
   rw[show decide ((4096:Int)<((a * m:Nat):Int))=true from decide_eq_true (by omega),cond_true,decide_eq_false h4];rfl
  obtain rfl:i=cs.length:=by omega
  rw[zja,cond_false,qaC];simp[zdp]
theorem zpg(cs:List Int):zdF cs=some (zct cs):=by
 unfold zdF zct;by_cases hl:cs.length≤12
 ·rw[show decide ((12:Int)<(cs.length:Int))=false from decide_eq_false (by omega),cond_false,zbb];have:=zk0 cs hl (cs.length+2) 0 1 (by omega) (qaQ _) (by omega);rw[show((1:Nat):Int)=1 from rfl,show((0:Nat):Int)=0 from rfl,qaK]at this;rw[this,decide_eq_true hl,qaS];cases zdp 1 cs<;>rfl
 rw[show decide ((12:Int)<(cs.length:Int))=true from decide_eq_true (by omega),cond_true,decide_eq_false hl];rfl
theorem zmz(cs:List Int)(hl:cs.length≤12):∀(n i:Nat) (a:Nat),a≤4096→zdp a (cs.drop i)=true→i≤cs.length→cs.length - i<n→zc9 cs n ((a:Nat):Int) (i:Int)=some (((a * zet (cs.drop i):Nat):Int))
 | 0,_,_,_,_,_,h=>absurd h (qaw _)
 | n+1,i,a,ha,hc,hi,hn=>by
  unfold zc9;rcases qaF i cs.length with h3 | h3
  ·rw[qak h3]at hc ⊢;rw[zjn h3,cond_true,zaG h3,qab];simp only[zdp,zet,qaf,decide_eq_true_eq]at hc ⊢;obtain⟨⟨⟨h1,h2⟩,h4⟩,h5⟩:=hc;obtain⟨m,hm⟩:∃ m:Nat,cs[i]=(m:Int):=⟨cs[i].toNat,by omega⟩;rw[hm,qaI]at h4 h5 ⊢;rw[← qa7,zcj (by omega),zaI (by omega),zmz cs hl n (i+1) (a * m) h4 h5 h3 (by omega),qb0]
  obtain rfl:i=cs.length:=by omega
  rw[zja,cond_false,qaC];simp[zet]
theorem zg2{cs:List Int}(h:zct cs=true):zcJ cs=some ((zet cs:Nat):Int):=by
 unfold zct at h;simp only[qaf,decide_eq_true_eq]at h;unfold zcJ;rw[zbb];have:=zmz cs h.1 (cs.length+2) 0 1 (by omega) (by rw[qaK]; exact h.2) (qaQ _) (by omega);rw[show((1:Nat):Int)=1 from rfl,show((0:Nat):Int)=0 from rfl,qaK,qbV]at this;rw[this];rfl
def znx:Int→List Int→Bool
 | _,[]=>true
 | l,v :: vs=>decide (l<v) && decide (v≤63) && znx v vs
def znM:List Int→Bool
 | []=>true
 | w :: ws=>decide (0≤w) && decide (w≤4611686018427387903) && znM ws
def zk6(x:S_api_Factor):Bool:=zct x.cards && decide (x.vars.length=x.cards.length) && decide (x.w.length=zet x.cards) && znx (-1) x.vars && znM x.w
def zbD:List Nat→List Nat
 | []=>[]
 | _ :: cs=>zai cs :: zbD cs
abbrev noT:S_factor_table×Int:=(⟨⟨[],[],[]⟩,[]⟩,30)
theorem zo4(x:S_api_Factor)(hl:x.vars.length≤12):∀(n i:Nat) (l:Int),i≤x.vars.length→x.vars.length - i<n→zbS x n l (i:Int)=some (bif znx l (x.vars.drop i)then .go ()else .ret noT)
 | 0,_,_,_,h=>absurd h (qaw _)
 | n+1,i,l,hi,hn=>by
  unfold zbS;rcases qaF i x.vars.length with h3 | h3
  ·rw[zjn h3,cond_true,zaG h3,qab,qak h3];generalize x.vars[i]=v;simp only[znx];by_cases h1:v≤l
   ·rw[decide_eq_true h1,cond_true,qab,cond_true,decide_eq_false (show ¬ l<v by omega)];rfl
   rw[decide_eq_false h1,cond_false,qab,decide_eq_true (show l<v by omega)];by_cases h2:63<v
   ·rw[decide_eq_true h2,cond_true,decide_eq_false (show ¬ v≤63 by omega)];rfl
   rw[decide_eq_false h2,cond_false,decide_eq_true (show v≤63 by omega),zaI (by omega),zo4 x hl n (i+1) v h3 (by omega)];rfl
  obtain rfl:i=x.vars.length:=by omega
  rw[zja,cond_false,qaC];rfl
theorem zoV(x:S_api_Factor)(hl:x.w.length≤4096):∀(n i:Nat),i≤x.w.length→x.w.length - i<n→zbW x n (i:Int)=some (bif znM (x.w.drop i)then .go ()else .ret noT)
 | 0,_,_,h=>absurd h (qaw _)
 | n+1,i,hi,hn=>by
  unfold zbW;rcases qaF i x.w.length with h3 | h3
  ·rw[zjn h3,cond_true,zaG h3,qab,qak h3];generalize x.w[i]=v;simp only[znM];by_cases h1:v<0
   ·rw[decide_eq_true h1,cond_true,qab,cond_true,decide_eq_false (show ¬ 0≤v by omega)];rfl
   rw[decide_eq_false h1,cond_false,qab,decide_eq_true (show 0≤v by omega)];by_cases h2:4611686018427387903<v
   ·rw[decide_eq_true h2,cond_true,decide_eq_false (show ¬ v≤4611686018427387903 by omega)];rfl
   rw[decide_eq_false h2,cond_false,decide_eq_true (show v≤4611686018427387903 by omega),zaI (by omega),zoV x hl n (i+1) h3 (by omega)];rfl
  obtain rfl:i=x.w.length:=by omega
  rw[zja,cond_false,qaC];rfl
theorem zdt{ns:List Nat}(h:∀ c∈ns,1≤c):∀ k,zai (ns.drop k)≤zai ns:=by
 induction ns with
 | nil=>intro k; simp
 | cons n ns ih=>
  intro k;cases k with
  | zero=>exact qai _
  | succ k=>
   have h1:=ih (fun c hc=>h c (qao _ hc)) k;have h2:=h n qaB;show zai (ns.drop k)≤n * zai ns;exact qau h1 (Nat.le_mul_of_pos_left _ h2)
theorem zor(a b:List Nat):iL (a ++ b)=iL a ++ iL b:=by simp[iL]
theorem zgJ(k:Nat):iL (List.replicate k 0)=List.replicate k 0:=by simp[iL]
theorem zlG(x:S_api_Factor){ns:List Nat}(hx:x.cards=iL ns)(hc:∀ c∈ns,1≤c)(hp:zai ns≤4096)(hl:ns.length≤12):∀(k n:Nat),k≤ns.length→k<n →
  zby x n ((zai (ns.drop k):Nat):Int) ((k:Int) - 1) (iL (List.replicate k 0 ++ zbD (ns.drop k)))=some (iL (zbD ns))
 | k,0,_,h=>absurd h (qaw _)
 | 0,n+1,_,_=>by
  unfold zby
  rw[show decide ((0:Int)≤((0:Nat):Int) - 1)=false from rfl,cond_false];rfl
 | k+1,n+1,hk,hn=>by
  have ih:=zlG x hx hc hp hl k n (by omega) (by omega);have hk':k<ns.length:=hk;unfold zby
  have e:(((k+1:Nat):Int) - 1)=(k:Int):=by omega
  have hlen:k<(iL (List.replicate (k+1) 0 ++ zbD (ns.drop (k+1)))).length:=by rw[zaS]; simp; omega
  rw[e,show decide ((0:Int)≤(k:Int))=true from decide_eq_true (by omega),cond_true,zaG hlen,qab,zjo hlen,qab,hx,zdK hk',qab];have hd:ns.drop k=ns[k]:: ns.drop (k+1):=qak hk';have h1:(iL (List.replicate (k+1) 0 ++ zbD (ns.drop (k+1)))).set k ((zai (ns.drop (k+1)):Nat):Int)=iL (List.replicate k 0 ++ zbD (ns.drop k)):=by
   rw[hd,zor,zor,zgJ,zgJ,qb7,qbf,List.set_append_right _ _ (by simp)];simp[zbD,iL]
  have h2:((zai (ns.drop (k+1)):Nat):Int)* ((ns[k]:Nat):Int)=((zai (ns.drop k):Nat):Int):=by
   rw[hd,← qa7,qbn]; rfl
  have h3:=zdt hc k;rw[h1,h2,zcj (by omega),zeb (by omega) (by omega)];exact ih
def zoe(xs:List Int):List Nat:=xs.map Int.toNat
theorem zkq(ns:List Nat):zoe (iL ns)=ns:=by
 induction ns with
 | nil=>rfl
 | cons n ns ih=>show(n:Int).toNat :: zoe (iL ns)=n :: ns; rw[ih,qaI]
theorem zfu{cs:List Int}(h:zct cs=true):∃ ns:List Nat,cs=iL ns∧(∀ c∈ns,1≤c∧c≤8)∧zai ns≤4096∧ns.length≤12:=by
 unfold zct at h;simp only[qaf,decide_eq_true_eq]at h;obtain⟨ns,rfl,h1,h2⟩:=ziH h.2;exact⟨ns,rfl,h1,by have:=h2 (by omega); omega,by have:=h.1; rw[zaS]at this; exact this⟩
theorem zq8(x:S_api_Factor):zay x=some (bif zk6 x then(⟨x,iL (zbD (zoe x.cards))⟩,0)else noT):=by
 unfold zay zk6;rw[zs4,qab];cases hc:zct x.cards with
 | false=>
  rw[cond_false];rfl
 | true=>
  obtain⟨ns,hx,h1,h2,h3⟩:=zfu hc;rw[cond_true,show(((((zet x.cards:Nat):Int),(0:Int)).2 == 0))=true from rfl,cond_true,qaS];by_cases hv:x.vars.length=x.cards.length
  ·rw[show(((x.vars.length:Nat):Int)==((x.cards.length:Nat):Int))=true by rw[hv]; exact beq_self_eq_true _,cond_true,qab,decide_eq_true hv,qaS];by_cases hw:x.w.length=zet x.cards
   ·have hw':x.w.length≤4096:=by rw[hw,hx,zdH]; exact h2
    have hl:x.vars.length≤12:=by rw[hv,hx,zaS]; exact h3
    rw[show(!(((x.w.length:Nat):Int)==((zet x.cards:Nat):Int)))=false by rw[hw,beq_self_eq_true]; rfl,cond_false,decide_eq_true hw,qaS,zbb,zbb];have e1:=zo4 x hl (x.vars.length+2) 0 (-1) (qaQ _) (by omega);have e2:=zoV x hw' (x.w.length+2) 0 (qaQ _) (by omega);rw[show((0:Nat):Int)=0 from rfl,qaK]at e1 e2;rw[e1,qab];cases znx (-1) x.vars with
    | false=>rfl
    | true=>
     rw[cond_true,qaS];simp only;rw[e2,qab];cases znM x.w with
     | false=>rfl
     | true=>
      rw[cond_true];simp only;have hlen:x.cards.length=ns.length:=by rw[hx,zaS]
      have e3:=zlG x hx (fun c hc=>(h1 c hc).1) h2 h3 ns.length (ns.length+1+1) (qai _) (by omega);rw[qaC]at e3;rw[zfE (by omega),qab,qaI,hlen,zeb (by omega) (by omega),show((ns.length:Int) - 1 - 0+2).toNat=ns.length+1 by omega];have e4:=zlG x hx (fun c hc=>(h1 c hc).1) h2 h3 ns.length (ns.length+1) (qai _) (by omega);rw[qaC]at e4;rw[show iL (List.replicate ns.length 0 ++ zbD [])=List.replicate ns.length 0 by simp[zbD,iL],show((zai []:Nat):Int)=1 from rfl]at e4;rw[e4,qab,cond_true,hx,zkq]
   rw[show(!(((x.w.length:Nat):Int)==((zet x.cards:Nat):Int)))=true by rw[qbr]; exact beq_false_of_ne (by omega),cond_true,decide_eq_false hw];rfl
  rw[show(((x.vars.length:Nat):Int)==((x.cards.length:Nat):Int))=false from beq_false_of_ne (by omega),cond_false,qab,cond_true,decide_eq_false hv];rfl
theorem zl9(x:S_api_Factor)(hl:x.vars.length≤12):∀(n i:Nat) (l:Int),((i=0∧l = -1)∨∃ h:i - 1<x.vars.length,0<i∧l=x.vars[i - 1]∧0≤l)→i≤x.vars.length→x.vars.length - i<n→zcd x n (i:Int)=some (bif znx l (x.vars.drop i)then .go ()else .ret false)
 | 0,_,_,_,_,h=>absurd h (qaw _)
 | n+1,i,l,hil,hi,hn=>by
  unfold zcd;rcases qaF i x.vars.length with h3 | h3
  ·obtain⟨v,hv⟩:∃ v,x.vars[i]=v:=⟨_,rfl⟩;rw[zjn h3,cond_true,zaG h3,qab,qak h3,hv];simp only[znx];have hl0:-1≤l:=by rcases hil with⟨_,h⟩| ⟨_,_,_,h⟩<;> omega
   by_cases h1:v<0
   ·rw[decide_eq_true h1,cond_true,qab,cond_true,decide_eq_false (show ¬ l<v by omega)];rfl
   rw[decide_eq_false h1,cond_false];by_cases h2:63<v
   ·rw[decide_eq_true h2,cond_true,qab,cond_true,decide_eq_false (show ¬ v≤63 by omega),Bool.and_false];rfl
   rw[decide_eq_false h2,cond_false,decide_eq_true (show v≤63 by omega),qbY];have fin:∀ b:Bool,b=decide (v≤l)→(bif b then some (Out.ret false)else zcd x n (w64 ((i:Int)+1)))=some (bif decide (l<v) && znx v (x.vars.drop (i+1))then .go ()else .ret false):=by
    intro b hb;subst hb;by_cases h4:v≤l
    ·rw[decide_eq_true h4,cond_true,decide_eq_false (show ¬ l<v by omega)];rfl
    rw[decide_eq_false h4,cond_false,decide_eq_true (show l<v by omega),zaI (by omega),qaS];exact zl9 x hl n (i+1) v (.inr ⟨by simpa using h3,by omega,by simp[hv],by omega⟩) h3 (by omega)
   rcases hil with⟨rfl,rfl⟩| ⟨h5,h6,h7,h8⟩
   ·rw[show decide ((0:Int)<((0:Nat):Int))=false from rfl,cond_false,qab];exact fin false (decide_eq_false (by omega)).symm
   rw[show decide ((0:Int)<(i:Int))=true from decide_eq_true (by omega),cond_true,zeb (by omega) (by omega),show((i:Int) - 1)=((i - 1:Nat):Int) by omega,zaG h5,qab,qab,← h7];exact fin _ rfl
  obtain rfl:i=x.vars.length:=by omega
  rw[zja,cond_false,qaC];rfl
theorem zmo(x:S_api_Factor)(hl:x.w.length≤4096):∀(n i:Nat),i≤x.w.length→x.w.length - i<n→zcH x n (i:Int)=some (bif znM (x.w.drop i)then .go ()else .ret false)
 | 0,_,_,h=>absurd h (qaw _)
 | n+1,i,hi,hn=>by
  unfold zcH;rcases qaF i x.w.length with h3 | h3
  ·rw[zjn h3,cond_true,zaG h3,qab,qak h3];generalize x.w[i]=v;simp only[znM];by_cases h1:v<0
   ·rw[decide_eq_true h1,cond_true,qab,cond_true,decide_eq_false (show ¬ 0≤v by omega)];rfl
   rw[decide_eq_false h1,cond_false,qab,decide_eq_true (show 0≤v by omega)];by_cases h2:4611686018427387903<v
   ·rw[decide_eq_true h2,cond_true,decide_eq_false (show ¬ v≤4611686018427387903 by omega)];rfl
   rw[decide_eq_false h2,cond_false,decide_eq_true (show v≤4611686018427387903 by omega),zaI (by omega),zmo x hl n (i+1) h3 (by omega)];rfl
  obtain rfl:i=x.w.length:=by omega
  rw[zja,cond_false,qaC];rfl
theorem zlK(x:S_api_Factor):zdP x=some (zk6 x):=by
 unfold zdP zk6;rw[zpg,qab];cases hc:zct x.cards with
 | false=>rw[cond_false]; rfl
 | true=>
  obtain⟨ns,hx,h1,h2,h3⟩:=zfu hc;rw[cond_true,qaS];by_cases hv:x.vars.length=x.cards.length
  ·rw[show(((x.vars.length:Nat):Int)==((x.cards.length:Nat):Int))=true by rw[hv]; exact beq_self_eq_true _,cond_true,zg2 hc,qab,qab,decide_eq_true hv,qaS];by_cases hw:x.w.length=zet x.cards
   ·have hw':x.w.length≤4096:=by rw[hw,hx,zdH]; exact h2
    have hl:x.vars.length≤12:=by rw[hv,hx,zaS]; exact h3
    rw[show(!(((x.w.length:Nat):Int)==((zet x.cards:Nat):Int)))=false by rw[hw,beq_self_eq_true]; rfl,cond_false,decide_eq_true hw,qaS,zbb,zbb];have e1:=zl9 x hl (x.vars.length+2) 0 (-1) (.inl ⟨rfl,rfl⟩) (qaQ _) (by omega);have e2:=zmo x hw' (x.w.length+2) 0 (qaQ _) (by omega);rw[show((0:Nat):Int)=0 from rfl,qaK]at e1 e2;rw[e1,qab];cases znx (-1) x.vars with
    | false=>rfl
    | true=>
     rw[cond_true,qaS];simp only;rw[e2,qab];cases znM x.w<;>rfl
   rw[show(!(((x.w.length:Nat):Int)==((zet x.cards:Nat):Int)))=true by rw[qbr]; exact beq_false_of_ne (by omega),cond_true,decide_eq_false hw];rfl
  rw[show(((x.vars.length:Nat):Int)==((x.cards.length:Nat):Int))=false from beq_false_of_ne (by omega),cond_false,qab,cond_true,decide_eq_false hv];rfl
structure Fc where
 vs:List Nat
 cs:List Nat
 ws:List Nat
def Fc.D(f:Fc):S_api_Factor:=⟨iL f.vs,iL f.cs,iL f.ws⟩
structure FcOk (f:Fc):Prop where
 len:f.vs.length=f.cs.length
 le:f.cs.length≤12
 card:∀ c∈f.cs,1≤c∧c≤8
 prod:zai f.cs≤4096
 size:f.ws.length=zai f.cs
 inc:f.vs.Pairwise (· < ·)
 var:∀ v∈f.vs,v<64
 num:∀ w∈f.ws,w≤zgG
theorem zmY:∀ {vs:List Int} {l:Int},-1≤l→znx l vs=true→∃ ns:List Nat,vs=iL ns∧ns.Pairwise (· < ·)∧∀ v∈ns,v<64∧l<(v:Int)
 | [],l,_,_=>⟨[],rfl,.nil,by simp⟩
 | v :: vs,l,hl,h=>by
  simp only[znx,qaf,decide_eq_true_eq]at h;obtain⟨⟨h1,h2⟩,h3⟩:=h;obtain⟨ns,rfl,g1,g2⟩:=zmY (by omega) h3;refine⟨v.toNat :: ns,?_,qa0.2 ⟨fun u hu=>?_,g1⟩,fun u hu=>?_⟩
  ·simp[iL]; omega
  ·have:=(g2 u hu).2; omega
  rcases qaL.1 hu with rfl | hu
  ·omega
  have:=g2 u hu; omega
theorem zpe:∀ {ns:List Nat} {l:Int},ns.Pairwise (· < ·)→(∀ v∈ns,v<64∧l<(v:Int))→znx l (iL ns)=true
 | [],_,_,_=>rfl
 | n :: ns,l,h1,h2=>by
  have h3:=h2 n qaB;obtain⟨h4,h5⟩:=qa0.1 h1;show(decide (l<(n:Int)) && decide ((n:Int)≤63) && znx (n:Int) (iL ns))=true;rw[decide_eq_true h3.2,decide_eq_true (by omega),zpe h5 fun v hv=>⟨(h2 v (qao _ hv)).1,by have:=h4 v hv; omega⟩];rfl
theorem zmR:∀ {ws:List Int},znM ws=true→∃ ns:List Nat,ws=iL ns∧∀ w∈ns,w≤zgG
 | [],_=>⟨[],rfl,by simp⟩
 | w :: ws,h=>by
  simp only[znM,qaf,decide_eq_true_eq]at h;obtain⟨⟨h1,h2⟩,h3⟩:=h;obtain⟨ns,rfl,g⟩:=zmR h3;refine⟨w.toNat :: ns,by simp[iL]; omega,fun u hu=>?_⟩;rcases qaL.1 hu with rfl | hu
  ·unfold zgG; omega
  exact g u hu
theorem zof:∀ {ns:List Nat},(∀ w∈ns,w≤zgG)→znM (iL ns)=true
 | [],_=>rfl
 | n :: ns,h=>by
  have h1:n≤4611686018427387903:=h n qaB;show(decide (0≤(n:Int)) && decide ((n:Int)≤4611686018427387903) && znM (iL ns))=true;rw[decide_eq_true (by omega),decide_eq_true (by omega),zof fun w hw=>h w (qao _ hw)];rfl
theorem zqM{x:S_api_Factor}(h:zk6 x=true):∃ f:Fc,FcOk f∧x=f.D:=by
 unfold zk6 at h;simp only[qaf,decide_eq_true_eq]at h;obtain⟨⟨⟨⟨h1,h2⟩,h3⟩,h4⟩,h5⟩:=h;obtain⟨cs,e1,a1,a2,a3⟩:=zfu h1;obtain⟨vs,e2,b1,b2⟩:=zmY (by omega) h4;obtain⟨ws,e3,c1⟩:=zmR h5;obtain⟨xv,xc,xw⟩:=x;simp only at e1 e2 e3 h2 h3;subst e1 e2 e3;rw[zaS,zaS]at h2;rw[zaS,zdH]at h3;exact⟨⟨vs,cs,ws⟩,⟨h2,a3,a1,a2,h3,b1,fun v hv=>(b2 v hv).1,c1⟩,rfl⟩
theorem zld{f:Fc}(h:FcOk f):zk6 f.D=true:=by
 unfold zk6 Fc.D zct;simp only[zaS];rw[decide_eq_true h.le,zhN h.card (by have:=h.prod; omega),decide_eq_true h.len,decide_eq_true (by rw[zdH]; exact h.size),zpe h.inc fun v hv=>⟨h.var v hv,by omega⟩,zof h.num];rfl
def Fc.T(f:Fc):S_factor_table:=⟨f.D,iL (zbD f.cs)⟩
theorem zot{f:Fc}(h:FcOk f):zay f.D=some (f.T,0):=by
 rw[zq8,zld h,cond_true,show f.D.cards=iL f.cs from rfl,zkq];rfl
theorem zop{x:S_api_Factor}(h:zk6 x=false):zay x=some noT:=by rw[zq8,h,cond_false]
def zfn:List Int→Int→Option Nat
 | [],_=>none
 | x :: xs,v=>bif x == v then some 0 else(zfn xs v).map (· + 1)
def ixZ:Option Nat→Int
 | none=>-1
 | some k=>(k:Int)
theorem zkf:∀ {xs:List Int} {v:Int} {k:Nat},zfn xs v=some k→∃ h:k<xs.length,xs[k]=v
 | x :: xs,v,k,h=>by
  unfold zfn at h;cases hb:(x == v)with
  | true=>
   rw[hb,cond_true]at h;cases h;exact⟨by simp,by simpa using hb⟩
  | false=>
   rw[hb,cond_false]at h;cases hp:zfn xs v with
   | none=>rw[hp]at h; cases h
   | some j=>
    rw[hp]at h;cases h;obtain⟨g1,g2⟩:=zkf hp;exact⟨by simp; omega,by simpa using g2⟩
theorem zk5:∀ {xs:List Int} {v:Int},zfn xs v=none→v ∉ xs
 | [],v,_=>by simp
 | x :: xs,v,h=>by
  unfold zfn at h;cases hb:(x == v)with
  | true=>rw[hb,cond_true]at h; cases h
  | false=>
   rw[hb,cond_false]at h;have h1:zfn xs v=none:=by
    cases hp:zfn xs v with
    | none=>rfl
    | some j=>rw[hp]at h; cases h
   have h2:x≠v:=by simpa using hb
   intro hm;rcases qaL.1 hm with rfl | hm
   ·exact h2 rfl
   exact zk5 h1 hm
theorem znU(xs:List Int)(v:Int)(hl:xs.length<4611686018427387904):∀(n i:Nat),i≤xs.length→xs.length - i<n→zaL xs v n (i:Int)=some (match zfn (xs.drop i) v with | none=>.go ()| some k=>.ret ((i+k:Nat):Int))
 | 0,_,_,h=>absurd h (qaw _)
 | n+1,i,hi,hn=>by
  unfold zaL;rcases qaF i xs.length with h3 | h3
  ·rw[zjn h3,cond_true,zaG h3,qab,qak h3];generalize xs[i]=x;unfold zfn;by_cases h:v=x
   ·subst h;rw[beq_self_eq_true,cond_true,cond_true];rfl
   rw[show(v == x)=false from beq_false_of_ne h,show(x == v)=false from beq_false_of_ne (fun e=>h e.symm),cond_false,cond_false,zaI (by omega),znU xs v hl n (i+1) h3 (by omega)];cases zfn (xs.drop (i+1)) v with
   | none=>rfl
   | some k=>
    simp only[qaG];rw[show i+1+k=i+(k+1) by omega]
  obtain rfl:i=xs.length:=by omega
  rw[zja,cond_false,qaC];rfl
theorem zr7{xs:List Int}(hl:xs.length<4611686018427387904)(v:Int):za8 xs v=some (ixZ (zfn xs v)):=by
 unfold za8;have h:=znU xs v hl (xs.length+2) 0 (qaQ _) (by omega);rw[show((0:Nat):Int)=0 from rfl,qaK]at h;rw[zbb,h,qab];cases zfn xs v with
 | none=>rfl
 | some k=>simp only[qaT]; rfl
theorem zou(x:S_api_Factor)(v:Int)(hl:x.vars.length<4611686018427387904):∀(n i:Nat),i≤x.vars.length→x.vars.length - i<n→zcG x v n (i:Int)=some (match zfn (x.vars.drop i) v with | none=>.go ()| some k=>.ret ((i+k:Nat):Int))
 | 0,_,_,h=>absurd h (qaw _)
 | n+1,i,hi,hn=>by
  unfold zcG;rcases qaF i x.vars.length with h3 | h3
  ·rw[zjn h3,cond_true,zaG h3,qab,qak h3];generalize x.vars[i]=y;unfold zfn;cases hb:(y == v)with
   | true=>rw[cond_true,cond_true]; rfl
   | false=>
    rw[cond_false,cond_false,zaI (by omega),zou x v hl n (i+1) h3 (by omega)];cases zfn (x.vars.drop (i+1)) v with
    | none=>rfl
    | some k=>
     simp only[qaG];rw[show i+1+k=i+(k+1) by omega]
  obtain rfl:i=x.vars.length:=by omega
  rw[zja,cond_false,qaC];rfl
theorem znZ{x:S_api_Factor}(hl:x.vars.length<4611686018427387904)(v:Int):zcr x v=some (ixZ (zfn x.vars v)):=by
 unfold zcr;have h:=zou x v hl (x.vars.length+2) 0 (qaQ _) (by omega);rw[show((0:Nat):Int)=0 from rfl,qaK]at h;rw[zbb,h,qab];cases zfn x.vars v with
 | none=>rfl
 | some k=>simp only[qaT]; rfl
theorem FcOk.vl{f:Fc}(h:FcOk f):(iL f.vs).length<4611686018427387904:=by rw[zaS,h.len]; have:=h.le; omega
theorem zoO{f:Fc}(h:FcOk f)(v:Int):zaj f.T v=some (ixZ (zfn (iL f.vs) v)):=by
 unfold zaj;rw[show f.T.factor.vars=iL f.vs from rfl,zr7 h.vl,qab]
theorem zqZ{f:Fc}(h:FcOk f)(v:Int):zcr f.D v=some (ixZ (zfn (iL f.vs) v)):=znZ (x:=f.D) h.vl v
theorem zoi(o:Option Nat):decide (ixZ o<(0:Int))=!o.isSome:=by
 cases o with
 | none=>rfl
 | some k=>exact decide_eq_false (by show ¬ (k:Int)<0; omega)
def pos:List Nat→Nat→Option Nat
 | [],_=>none
 | x :: xs,v=>bif x == v then some 0 else(pos xs v).map (· + 1)
theorem zes:∀(xs:List Nat) (v:Nat),zfn (iL xs) (v:Int)=pos xs v
 | [],v=>rfl
 | x :: xs,v=>by
  show(bif ((x:Int)==(v:Int))then some 0 else(zfn (iL xs) (v:Int)).map (· + 1))=pos (x :: xs) v;rw[zes xs v];show _=(bif x == v then some 0 else(pos xs v).map (· + 1));cases hb:(x == v)with
  | true=>
   have:x=v:=by simpa using hb
   subst this;rw[beq_self_eq_true]
  | false=>
   have h1:x≠v:=by simpa using hb
   have h2:((x:Int)==(v:Int))=false:=beq_false_of_ne (by omega);rw[h2]
theorem zmc:∀(xs:List Nat) {v:Int},v<0→zfn (iL xs) v=none
 | [],v,_=>rfl
 | x :: xs,v,h=>by
  show(bif ((x:Int)== v)then some 0 else(zfn (iL xs) v).map (· + 1))=none;rw[show((x:Int)== v)=false from beq_false_of_ne (by omega),cond_false,zmc xs h];rfl
theorem zg3{xs:List Nat}{v k:Nat}(h:pos xs v=some k):∃ hk:k<xs.length,xs[k]=v:=by
 rw[← zes]at h;obtain⟨h1,h2⟩:=zkf h;rw[zaS]at h1;refine⟨h1,?_⟩;rw[zra h1]at h2;omega
theorem zqh{xs:List Nat}{v:Nat}(h:pos xs v=none):v ∉ xs:=by
 rw[← zes]at h;have:=zk5 h;intro hm;exact this (qaW.2 ⟨v,hm,rfl⟩)
theorem zhw{xs:List Nat}{v:Nat}(h:v∈xs):∃ k,pos xs v=some k:=by
 cases hp:pos xs v with
 | none=>exact absurd h (zqh hp)
 | some k=>exact⟨k,rfl⟩
theorem zd1{xs:List Nat}{i:Nat}(h:i<xs.length):za4 (iL xs) (i:Int)=some ((xs.getD i 0:Nat):Int):=by
 rw[zdK h]; simp[List.getD,h]
theorem zpa(a b:Nat):((a:Int)==(b:Int))=(a == b):=by
 rw[Bool.eq_iff_iff,beq_iff_eq,beq_iff_eq];exact Int.ofNat_inj
def dig:List Nat→Nat→List Nat
 | [],_=>[]
 | _ :: cs,i=>i / zai cs :: dig cs (i % zai cs)
theorem ziV:∀(cs:List Nat) (i:Nat),(dig cs i).length=cs.length
 | [],_=>rfl
 | _ :: cs,i=>by simp[dig,ziV cs]
def dot:List Nat→List Nat→Nat
 | x :: xs,s :: ss=>x * s+dot xs ss
 | _,_=>0
theorem zjk:∀ {xs ss:List Nat} (ys ts:List Nat),xs.length=ss.length→dot (xs ++ ys) (ss ++ ts)=dot xs ss+dot ys ts
 | [],[],ys,ts,_=>by simp[dot]
 | x :: xs,s :: ss,ys,ts,h=>by
  simp only[qba,dot];rw[zjk ys ts (by simpa using h)]; omega
 | [],_ :: _,_,_,h=>by simp at h
 | _ :: _,[],_,_,h=>by simp at h
theorem zlS(x s:Nat):dot [x] [s]=x * s:=by simp[dot]
def zcV:List Nat→List Nat→Prop
 | [],[]=>True
 | c :: cs,x :: xs=>x<c∧c≤8∧zcV cs xs
 | _,_=>False
theorem zcV.len:∀ {cs xs:List Nat},zcV cs xs→xs.length=cs.length
 | [],[],_=>rfl
 | c :: cs,x :: xs,h=>by simp[h.2.2.len]
theorem zcV.snoc:∀ {cs xs:List Nat} {c x:Nat},zcV (cs ++ [c]) (xs ++ [x])→xs.length=cs.length→zcV cs xs∧x<c∧c≤8
 | [],[],c,x,h,_=>⟨qca,h.1,h.2.1⟩
 | c :: cs,x :: xs,_,_,h,hl=>by
  obtain⟨h1,h2,h3⟩:=h;obtain⟨g1,g2⟩:=h3.snoc (by simpa using hl);exact⟨⟨h1,h2,g1⟩,g2⟩
theorem zff{cs:List Nat}(h:∀ c∈cs,1≤c∧c≤8):0<zai cs:=zko fun c hc=>(h c hc).1
theorem zgi:∀ {cs:List Nat} {i:Nat},(∀ c∈cs,1≤c∧c≤8)→i<zai cs→zcV cs (dig cs i)
 | [],_,_,_=>trivial
 | c :: cs,i,h,hi=>by
  have hc:=h c qaB;have hp:=zff fun d hd=>h d (qao c hd)
  refine⟨?_,hc.2,zgi (fun d hd=>h d (qao c hd)) (qb1 _ hp)⟩;have h1:i<c * zai cs:=hi;exact Nat.div_lt_of_lt_mul (by rw[qbn]; exact h1)
theorem zpF:∀ {cs xs ss:List Nat},zcV cs xs→(∀ s∈ss,s≤4096)→dot xs ss≤cs.length * 32768
 | [],[],_,_,_=>by simp[dot]
 | c :: cs,x :: xs,[],_,_=>by simp[dot]
 | c :: cs,x :: xs,s :: ss,h,hs=>by
  have h1:=zpF h.2.2 fun t ht=>hs t (qao _ ht)
  have h2:=hs s qaB;have h3:x * s≤8 * 4096:=qbL (by have:=h.1; have:=h.2.1; omega) h2;simp only[dot,qaV];omega
def nxt:List Nat→List Nat→Option (List Nat)
 | c :: cs,v :: vs=>match nxt cs vs with
  | some vs'=>some (v :: vs')
  | none=>if v+1<c then some ((v+1):: List.replicate vs.length 0)else none
 | _,_=>none
theorem zhz:∀ {cs vs:List Nat} {c v:Nat},vs.length=cs.length→v+1<c→nxt (cs ++ [c]) (vs ++ [v])=some (vs ++ [v+1])
 | [],[],c,v,_,h=>by simp[nxt,h]
 | d :: cs,u :: vs,c,v,hl,h=>by
  simp only[qba,nxt,zhz (show vs.length=cs.length by simpa using hl) h]
theorem zgF:∀ {cs vs:List Nat} {c v:Nat},vs.length=cs.length→¬ v+1<c→nxt (cs ++ [c]) (vs ++ [v])=(nxt cs vs).map (· ++ [0])
 | [],[],c,v,_,h=>by simp[nxt,h]
 | d :: cs,u :: vs,c,v,hl,h=>by
  simp only[qba,nxt,zgF (show vs.length=cs.length by simpa using hl) h];cases hn:nxt cs vs with
  | some vs'=>rfl
  | none=>
   simp only[qb9];by_cases hu:u+1<d
   ·rw[if_pos hu,if_pos hu];simp[qb7]
   rw[if_neg hu,if_neg hu]; rfl
theorem ziR:∀(cs:List Nat),dig cs 0=List.replicate cs.length 0
 | []=>rfl
 | c :: cs=>by simp[dig,ziR cs,qa9]
theorem znS:∀ {cs:List Nat} {i:Nat},(∀ c∈cs,1≤c∧c≤8)→i<zai cs→nxt cs (dig cs i)=if i+1<zai cs then some (dig cs (i+1))else none
 | [],i,_,hi=>by
  have:i=0:=by simpa [zai]using hi
  subst this;simp[nxt,zai]
 | c :: cs,i,h,hi=>by
  have hp:=zff fun d hd=>h d (qao c hd)
  have hm:=qb1 i hp;have ih:=znS (fun d hd=>h d (qao c hd)) hm;have hi':i<c * zai cs:=hi;simp only[dig,nxt,ih];have hdm:=Nat.div_add_mod i (zai cs);generalize hq:i / zai cs=q at *;generalize hr:i % zai cs=r at *;have hprod:zai (c :: cs)=c * zai cs:=rfl;by_cases h1:r+1<zai cs
  ·rw[if_pos h1];have e1:(i+1) / zai cs=q:=by
    rw[← hdm,qa2,Nat.mul_add_div hp,Nat.div_eq_of_lt h1,qbg]
   have e2:(i+1) % zai cs=r+1:=by
    rw[← hdm,qa2,Nat.mul_add_mod,qbq h1]
   have hqc:q<c:=by rw[← hq]; exact Nat.div_lt_of_lt_mul (by rw[qbn]; exact hi')
   have h2:i+1<zai (c :: cs):=by
    rw[hprod];have:(q+1)* zai cs≤c * zai cs:=qat _ hqc;rw[qaO,qbV,qbn q]at this;omega
   rw[if_pos h2,e1,e2]
  rw[if_neg h1];have hr1:r+1=zai cs:=by omega
  have hi1:i+1=zai cs * (q+1):=by rw[Nat.mul_add,Nat.mul_one]; omega
  simp only;have h4:(q+1<c)↔(i+1<zai (c :: cs)):=by
   rw[hprod,hi1,qbn c];exact(Nat.mul_lt_mul_left hp).symm
  by_cases h5:q+1<c
  ·rw[if_pos h5,if_pos (h4.1 h5),hi1,Nat.mul_div_cancel_left _ hp,Nat.mul_mod_right,ziR,ziV]
  rw[if_neg h5,if_neg (fun h=>h5 (h4.2 h))]
theorem zey{xs ys:List Nat}{x:Nat}{k:Nat}(h:xs.length=k):za4 (iL (xs ++ x :: ys)) (k:Int)=some (x:Int):=by
 subst h;rw[zdK (by simp)];simp
theorem zg5{xs ys:List Nat}{x y:Nat}{k:Nat}(h:xs.length=k):zfD (iL (xs ++ x :: ys)) (k:Int) (y:Int)=some (iL (xs ++ y :: ys)):=by
 subst h;rw[zjo (by rw[zaS]; simp)];simp[iL]
theorem zll{xs:List Nat}{k:Nat}(h:xs.length=k+1):∃ ys y,xs=ys ++ [y]∧ys.length=k:=by
 have hne:xs≠[]:=by rintro rfl; simp at h
 exact⟨xs.dropLast,xs.getLast hne,(List.dropLast_concat_getLast hne).symm,by simp[h]⟩
theorem zmt:∀(k:Nat) (xs cx sx cy sy zs:List Nat) (e:Nat),xs.length=k→cx.length=k→sx.length=k→zcV cx xs→(∀ s∈sx,s≤4096)→k≤12→e≤1000000 →
  ∃ r,ziE (iL (cx ++ cy)) (iL (sx ++ sy)) k (iL (xs ++ zs)) ((dot xs sx+e:Nat):Int)=some r∧match nxt cx xs with
   | none=>r.2.2 = -1
   | some xs'=>∃(j:Nat) (v st:Int),r.2.2=(j:Int)∧za4 r.1 (j:Int)=some v∧zfD r.1 (j:Int) (w64 (v+1))=some (iL (xs' ++ zs))∧za4 (iL (sx ++ sy)) (j:Int)=some st∧w64 (r.2.1+st)=((dot xs' sx+e:Nat):Int)
 | 0,xs,cx,sx,cy,sy,zs,e,hx,hc,hs,_,_,_,_=>by
  obtain rfl:xs=[]:=qaA.1 hx;obtain rfl:cx=[]:=qaA.1 hc;exact⟨_,rfl,rfl⟩
 | k+1,xs,cx,sx,cy,sy,zs,e,hx,hc,hs,hb,hsm,hk,he=>by
  obtain⟨xs,x,rfl,lx⟩:=zll hx;obtain⟨cx,c,rfl,lc⟩:=zll hc;obtain⟨sx,s,rfl,ls⟩:=zll hs;obtain⟨hb1,hb2,hb3⟩:=hb.snoc (lx.trans lc.symm);have hd:=zpF hb1 fun t ht=>hsm t (qb8 _ ht)
  have hss:s≤4096:=hsm s (by simp);have hxs:x * s≤8 * 4096:=qbL (by omega) hss;have hlen:cx.length * 32768≤12 * 32768:=qat _ (by omega);simp only[qbf,qbd];unfold ziE;rw[zey lx,qab,zey lc,qab,zeb (by omega) (by omega)];rw[zjk [x] [s] (lx.trans ls.symm),zlS];by_cases h1:x+1<c
  ·rw[show((x:Int)==(c:Int) - 1)=false from beq_false_of_ne (by omega),cond_false,zhz (lx.trans lc.symm) h1];refine⟨_,rfl,k,(x:Int),(s:Int),rfl,zey lx,?_,zey ls,?_⟩
   ·rw[zaI (by omega),zg5 lx]; simp
   rw[zjk [x+1] [s] (lx.trans ls.symm),zlS,← Int.natCast_add,zcj (by omega),qaO];congr 1; omega
  rw[show((x:Int)==(c:Int) - 1)=true by rw[show(x:Int)=(c:Int) - 1 by omega]; exact beq_self_eq_true _,cond_true,zey ls,qab,show(0:Int)=((0:Nat):Int)from rfl,zg5 lx,qab,← qa7,
   zcj (by omega),show(((dot xs sx+x * s+e:Nat):Int) - ((x * s:Nat):Int))=((dot xs sx+e:Nat):Int) by omega,zcj (by omega),zgF (lx.trans lc.symm) h1]
  obtain⟨r,h2,h3⟩:=zmt k xs cx sx (c :: cy) (s :: sy) (0 :: zs) e lx lc ls hb1 (fun t ht=>hsm t (qb8 _ ht)) (by omega) he;refine⟨r,h2,?_⟩;cases hn:nxt cx xs with
  | none=>rw[hn]at h3; exact h3
  | some xs'=>
   rw[hn]at h3;obtain⟨j,v,st,g1,g2,g3,g4,g5⟩:=h3;have hl':xs'.length=sx.length:=by
    have:∀ {cs vs ws:List Nat},nxt cs vs=some ws→vs.length=cs.length→ws.length=vs.length:=by
     intro cs;induction cs with
     | nil=>intro vs ws h _; simp[nxt]at h
     | cons d cs ih=>
      intro vs ws h hl;cases vs with
      | nil=>simp[nxt]at h
      | cons u vs=>
       simp only[nxt]at h;cases hq:nxt cs vs with
       | some vs'=>
        rw[hq]at h;cases h;simp[ih hq (by simpa using hl)]
       | none=>
        rw[hq]at h;simp only at h;split at h
        ·cases h; simp
        cases h
    rw[this hn (lx.trans lc.symm),lx,ls]
   refine⟨j,v,st,g1,g2,by rw[g3]; simp,g4,?_⟩;rw[g5,zjk [0] [s] hl',zlS,qbG,qbg]
def znf(cs ss:List Nat)(i m:Nat):List (Int×Int×List Int):=(List.range' i m).map fun j:Nat=>((j:Int),((dot (dig cs j) ss:Nat):Int),iL (dig cs j))
theorem ztc{cs ss:List Nat}(hc:∀ c∈cs,1≤c∧c≤8)(hl:cs.length≤12)(hp:zai cs≤4096)(hs:ss.length=cs.length)(hsm:∀ s∈ss,s≤4096):∀(m i n:Nat),i+(m+1)=zai cs→m<n →
  zsD (iL cs) (iL ss) n (iL (dig cs i)) (i:Int) ((dot (dig cs i) ss:Nat):Int)=some (znf cs ss i (m+1))
 | m,i,0,_,h=>absurd h (qaw _)
 | m,i,n+1,hi,hn=>by
  have hb:=zgi hc (show i<zai cs by omega);obtain⟨r,h1,h2⟩:=zmt cs.length (dig cs i) cs ss [] [] [] 0 (ziV _ _) rfl hs hb hsm hl (by omega);simp only[qa8,qbg]at h1 h2;unfold zsD;rw[zaS,h1,qab];rw[znS hc (show i<zai cs by omega)]at h2;cases m with
  | zero=>
   rw[if_neg (by omega)]at h2;simp only at h2;rw[h2];rfl
  | succ m=>
   rw[if_pos (by omega)]at h2;simp only at h2;obtain⟨j,v,st,g1,g2,g3,g4,g5⟩:=h2;rw[g1,show decide ((j:Int)<0)=false from decide_eq_false (by omega),cond_false,g2,qab,g3,qab,g4,qab,g5,zaI (by omega),ztc hc hl hp hs hsm m (i+1) n (by omega) (by omega)];rfl
theorem zoH(cs:List Nat):∀ a:Nat,(iL cs).foldl (· * ·) (a:Int)=((a * zai cs:Nat):Int):=by
 induction cs with
 | nil=>intro a; simp[iL,zai]
 | cons c cs ih=>
  intro a;show(iL cs).foldl (· * ·) ((a:Int)* (c:Int))=_;rw[← qa7,ih,qb0];rfl
theorem zsJ{cs ss:List Nat}(hc:∀ c∈cs,1≤c∧c≤8)(hl:cs.length≤12)(hp:zai cs≤4096)(hs:ss.length=cs.length)(hsm:∀ s∈ss,s≤4096):zqk (iL cs) (iL ss)=some (znf cs ss 0 (zai cs)):=by
 have hpos:=zff hc;unfold zqk zm0;rw[if_pos (by rw[zaS]; omega),qab,zaS,zfE (by omega),qab];have h:=zoH cs 1;rw[show((1:Nat):Int)=1 from rfl]at h;rw[h,qbV,qaI];obtain⟨m,hm⟩:∃ m,zai cs=m+1:=⟨zai cs - 1,by omega⟩;have e:=ztc hc hl hp hs hsm m 0 (m+1) (by omega) (by omega);have hz:∀(n:Nat) (ss:List Nat),dot (List.replicate n 0) ss=0:=by
  intro n;induction n with
  | zero=>intro ss; simp[dot]
  | succ n ih=>
   intro ss;cases ss with
   | nil=>simp[qa9,dot]
   | cons s ss=>simp[qa9,dot,ih]
 rw[ziR,hz,zgJ]at e;rw[hm];exact e
theorem zt0(k:Nat):decide ((0:Int)≤(k:Int))=true:=decide_eq_true (qbD k)
theorem pred_succ(k:Nat):((k+1:Nat):Int) - 1=(k:Int):=by omega
theorem zmr{cs:List Nat}(hc:∀ c∈cs,1≤c)(hp:zai cs≤4096):∀ s∈zbD cs,s≤4096:=by
 induction cs with
 | nil=>intro s hs; cases hs
 | cons c cs ih=>
  have h1:=hc c qaB;have h2:zai cs≤4096:=qau (Nat.le_mul_of_pos_left (zai cs) h1) hp;intro s hs;rcases qaL.1 hs with rfl | hs
  ·exact h2
  exact ih (fun d hd=>hc d (qao _ hd)) h2 s hs
theorem zcV.drop:∀ {cs xs:List Nat} (k:Nat),zcV cs xs→zcV (cs.drop k) (xs.drop k)
 | cs,xs,0,h=>h
 | [],[],k+1,_=>trivial
 | c :: cs,x :: xs,k+1,h=>h.2.2.drop k
theorem zmN{cs ds:List Nat}(hb:zcV cs ds)(hc:∀ c∈cs,1≤c)(hp:zai cs≤4096)(hl:cs.length≤12):∀(k n:Nat),k≤cs.length→k<n →
  zca (iL ds) (iL cs) n ((dot (ds.drop k) (zbD (cs.drop k)):Nat):Int) ((zai (cs.drop k):Nat):Int) ((k:Int) - 1)=some ((dot ds (zbD cs):Nat):Int)
 | k,0,_,h=>absurd h (qaw _)
 | 0,n+1,_,_=>by
  unfold zca;rw[show decide ((0:Int)≤((0:Nat):Int) - 1)=false from rfl,cond_false];rfl
 | k+1,n+1,hk,hn=>by
  have hlen:=hb.len;have hk1:k<cs.length:=hk;have hk2:k<ds.length:=by omega
  have e1:ds.drop k=ds[k]:: ds.drop (k+1):=qak hk2;have e2:cs.drop k=cs[k]:: cs.drop (k+1):=qak hk1;have h1:=zdt hc k;have h2:=zdt hc (k+1);have h3:=zpF (hb.drop k) (zmr (cs:=cs.drop k) (fun c h=>hc c (qbP h)) (by omega));have h4:(cs.drop k).length * 32768≤12 * 32768:=qat _ (by simp; omega);have h5:dot (ds.drop k) (zbD (cs.drop k))=ds[k] * zai (cs.drop (k+1))+dot (ds.drop (k+1)) (zbD (cs.drop (k+1))):=by rw[e1,e2]; rfl
  have h6:zai (cs.drop k)=cs[k] * zai (cs.drop (k+1)):=by rw[e2]; rfl
  unfold zca
  rw[pred_succ,zt0,cond_true,zdK hk2,qab,zdK hk1,qab,← qa7,zcj (by omega),← Int.natCast_add,zcj (by omega),← qa7,zcj (by rw[qbn]; omega),zeb (by omega) (by omega),
   show dot (ds.drop (k+1)) (zbD (cs.drop (k+1)))+ds[k] * zai (cs.drop (k+1))=dot (ds.drop k) (zbD (cs.drop k)) by omega,show zai (cs.drop (k+1))* cs[k]=zai (cs.drop k) by rw[h6,qbn]]
  exact zmN hb hc hp hl k n (by omega) (by omega)
theorem zrC{cs ds:List Nat}(hb:zcV cs ds)(hc:∀ c∈cs,1≤c)(hp:zai cs≤4096)(hl:cs.length≤12):zc5 (iL cs) (iL ds)=some ((dot ds (zbD cs):Nat):Int):=by
 have hlen:=hb.len;unfold zc5;have h:=zmN hb hc hp hl cs.length (cs.length+1) (qai _) (by omega);rw[qaC,qbA (by omega)]at h;rw[show((zai []:Nat):Int)=1 from rfl,show((dot [] (zbD []):Nat):Int)=0 from rfl]at h;rw[zaS,zeb (by omega) (by omega),show((cs.length:Int) - 1 - 0+2).toNat=cs.length+1 by omega,h];rfl
theorem zrj:∀ {cs ds:List Nat},zcV cs ds→dot ds (zbD cs)<zai cs
 | [],[],_=>by simp[dot,zai]
 | c :: cs,d :: ds,h=>by
  have h1:=zrj h.2.2;show d * zai cs+dot ds (zbD cs)<c * zai cs;have h2:(d+1)* zai cs≤c * zai cs:=qat _ h.1;rw[qaO,qbV]at h2;omega
def stp:List Nat→List Nat→Nat→Nat
 | v :: vs,_ :: cs,u=>bif v == u then zai cs else stp vs cs u
 | _,_,_=>0
def at_:List Nat→List Nat→Nat→Nat
 | v :: vs,d :: ds,u=>bif v == u then d else at_ vs ds u
 | _,_,_=>0
theorem zoR:∀ {vs cs:List Nat} {u:Nat},vs.length=cs.length→stp vs cs u=(match pos vs u with | none=>0 | some k=>(zbD cs).getD k 0)
 | [],_,u,_=>by simp[stp,pos]
 | v :: vs,[],_,h=>by simp at h
 | v :: vs,c :: cs,u,h=>by
  have ih:=zoR (u:=u) (show vs.length=cs.length by simpa using h);unfold stp pos;cases hb:(v == u)with
  | true=>rfl
  | false=>
   rw[cond_false,cond_false,ih];cases pos vs u with
   | none=>rfl
   | some k=>simp[zbD]
theorem zov(g h:Nat→Nat):∀(ds vs:List Nat),dot ds (vs.map fun v=>g v+h v)=dot ds (vs.map g)+dot ds (vs.map h)
 | [],_=>by simp[dot]
 | d :: ds,[]=>by simp[dot]
 | d :: ds,v :: vs=>by
  simp only[qay,dot,zov g h ds vs,Nat.mul_add];omega
theorem zjl:∀(ds vs:List Nat) (g:Nat→Nat),(∀ v∈vs,g v=0)→dot ds (vs.map g)=0
 | [],_,_,_=>by simp[dot]
 | d :: ds,[],_,_=>by simp[dot]
 | d :: ds,v :: vs,g,h=>by
  simp only[qay,dot,h v qaB,Nat.mul_zero,zjl ds vs g fun u hu=>h u (qao _ hu)]
theorem zpW{u p:Nat}:∀ {vs ds:List Nat},vs.Nodup→dot ds (vs.map fun v=>bif u == v then p else 0)=at_ vs ds u * p
 | [],ds,_=>by cases ds<;>simp[dot,at_]
 | v :: vs,[],_=>by simp[dot,at_]
 | v :: vs,d :: ds,h=>by
  obtain⟨h1,h2⟩:=qbz.1 h;simp only[qay,dot,at_];by_cases hb:u=v
  ·subst hb;rw[beq_self_eq_true,cond_true,cond_true,zjl ds vs _ (fun w hw=>by rw[show(u == w)=false from beq_false_of_ne (fun e=>h1 (e ▸ hw))]; rfl),qbg]
  rw[show(u == v)=false from beq_false_of_ne hb,show(v == u)=false from beq_false_of_ne (fun e=>hb e.symm),cond_false,cond_false,zpW h2,Nat.mul_zero,qaT]
theorem zoG:∀ {us cs:List Nat} {u:Nat},u ∉ us→stp us cs u=0
 | [],_,_,_=>by simp[stp]
 | v :: us,[],_,_=>by simp[stp]
 | v :: us,c :: cs,u,h=>by
  unfold stp;rw[show(v == u)=false from beq_false_of_ne (fun e=>h (by rw[e]; exact qaB)),cond_false,zoG fun hm=>h (qao _ hm)]
theorem zoT{vs ds:List Nat}(hv:vs.Nodup):∀ {us cs:List Nat},us.length=cs.length→us.Nodup→dot ds (vs.map (stp us cs))=dot (us.map (at_ vs ds)) (zbD cs)
 | [],cs,_,_=>by
  rw[zjl ds vs _ fun v _=>by simp[stp]];simp[dot]
 | u :: us,[],h,_=>by simp at h
 | u :: us,c :: cs,h,hn=>by
  obtain⟨h1,h2⟩:=qbz.1 hn;have e:vs.map (stp (u :: us) (c :: cs))=vs.map fun v=>(bif u == v then zai cs else 0)+stp us cs v:=by
   refine List.map_congr_left fun v _=>?_
   rw[show stp (u :: us) (c :: cs) v=bif u == v then zai cs else stp us cs v from rfl];cases hb:(u == v)with
   | true=>
    have:u=v:=by simpa using hb
    subst this;rw[cond_true,cond_true,zoG h1]; rfl
   | false=>
    rw[cond_false,cond_false,qaT]
  rw[e,zov,zpW hv,zoT hv (by simpa using h) h2];rfl
theorem zef{vs:List Nat}(h:vs.Pairwise (· < ·)):vs.Nodup:=h.imp fun h=>Nat.ne_of_lt h
def Sub(vs ws:List Nat):List Nat→List Nat→Prop
 | [],[]=>True
 | u :: us,c :: cs=>(u∈vs∧at_ vs ws u=c)∧Sub vs ws us cs
 | _,_=>False
theorem zmX:∀ {vs ws ds:List Nat} {u:Nat},vs.length=ws.length→zcV ws ds→u∈vs→at_ vs ds u<at_ vs ws u∧at_ vs ws u≤8
 | v :: vs,w :: ws,d :: ds,u,hl,hb,hm=>by
  unfold at_;by_cases h:v=u
  ·subst h;rw[beq_self_eq_true,cond_true,cond_true];exact⟨hb.1,hb.2.1⟩
  ·rw[show(v == u)=false from beq_false_of_ne h,cond_false,cond_false];rcases qaL.1 hm with e | hm
   ·exact absurd e.symm h
   ·exact zmX (by simpa using hl) hb.2.2 hm
 | [],_,_,_,_,_,hm=>by cases hm
 | v :: vs,[],_,_,hl,_,_=>by simp at hl
 | v :: vs,w :: ws,[],_,_,hb,_=>hb.elim
theorem Sub.below{vs ws ds:List Nat}(hl:vs.length=ws.length)(hb:zcV ws ds):∀ {us cs:List Nat},Sub vs ws us cs→zcV cs (us.map (at_ vs ds))
 | [],[],_=>trivial
 | u :: us,c :: cs,⟨⟨h1,h2⟩,h3⟩=>by
  have:=zmX hl hb h1;rw[h2]at this;exact⟨this.1,this.2,Sub.below hl hb h3⟩
 | [],_ :: _,h=>h.elim
 | _ :: _,[],h=>h.elim
def Fc.at(f:Fc)(vs ds:List Nat):Nat:=f.ws.getD (dot (f.vs.map (at_ vs ds)) (zbD f.cs)) 0
theorem zgt(u d:Nat)(us ds:List Nat)(v:Nat):at_ (u :: us) (d :: ds) v=bif u == v then d else at_ us ds v:=rfl
theorem znT:∀ {vs ds:List Nat} {v k:Nat},pos vs v=some k→at_ vs ds v=ds.getD k 0
 | [],_,_,_,h=>by cases h
 | u :: us,[],v,k,_=>by simp[at_]
 | u :: us,d :: ds,v,k,h=>by
  rw[zgt];rw[show pos (u :: us) v=bif u == v then some 0 else(pos us v).map (· + 1)from rfl]at h;cases hb:(u == v)with
  | true=>rw[hb,cond_true]at h; cases h; rw[cond_true]; rfl
  | false=>
   rw[hb,cond_false]at h;cases hp:pos us v with
   | none=>rw[hp]at h; cases h
   | some j=>rw[hp]at h; cases h; rw[cond_false,znT hp]; rfl
theorem zoP{xs:List Nat}{v:Nat}(h:xs.length≤100000):zfB 8 (iL xs) [(v:Int)]=some (iL (xs ++ [v])):=by
 rw[znY (by rw[zaS]; simp; omega),zor]; rfl
theorem zm4{f:Fc}(hf:FcOk f){v k:Nat}(hp:pos f.vs v=some k):za4 f.D.cards (ixZ (some k))=some ((at_ f.vs f.cs v:Nat):Int):=by
 obtain⟨hk,_⟩:=zg3 hp;show za4 (iL f.cs) (k:Int)=_;rw[zd1 (by rw[← hf.len]; exact hk),znT hp]
section
variable {s:List Int}
end
abbrev noF:S_api_Factor:=⟨[],[],[]⟩
structure Dom (u c:List Nat):Prop where
 len:u.length=c.length
 nodup:u.Nodup
 card:∀ x∈c,1≤x∧x≤8
 le:c.length≤12
 prod:zai c≤4096
theorem zm7(c ss:List Nat)(i m:Nat):znf c ss i (m+1)=((i:Int),((dot (dig c i) ss:Nat):Int),iL (dig c i)):: znf c ss (i+1) m:=by
 unfold znf;rw[qb6,qay]
theorem zrh{h:Nat→Nat}{v:Nat}:∀ {us:List Nat},v∈us→at_ us (us.map h) v=h v
 | [],hm=>by simp at hm
 | u :: us,hm=>by
  rw[qay,zgt];cases hb:(u == v)with
  | true=>rw[cond_true]; rw[beq_iff_eq]at hb; rw[hb]
  | false=>
   rw[cond_false];rcases qaL.1 hm with e | e
   ·rw[e]at hb; simp at hb
   exact zrh e
theorem zre:∀ {vs ds:List Nat} {i:Nat} (hn:vs.Nodup) (h:i<vs.length),at_ vs ds vs[i]=ds.getD i 0
 | v :: vs,[],i,_,_=>by simp[at_]
 | v :: vs,d :: ds,0,_,_=>by rw[zgt]; simp
 | v :: vs,d :: ds,i+1,hn,h=>by
  obtain⟨h1,h2⟩:=qbz.1 hn;have hi:i<vs.length:=by simpa using h
  rw[zgt,show(v :: vs)[i+1]=vs[i]from rfl,show(v == vs[i])=false from beq_false_of_ne (fun e=>h1 (e ▸ qbe hi)),cond_false,zre h2 hi];rfl
theorem zsN{vs ds:List Nat}(hn:vs.Nodup)(hl:vs.length=ds.length):vs.map (at_ vs ds)=ds:=by
 refine List.ext_getElem (by simpa using hl) fun i h1 h2=>?_
 rw[List.getElem_map,zre hn (by simpa using h1),qaY,qag h2];rfl
theorem zrg{vs ws:List Nat}:∀ {us cs:List Nat},us.length=cs.length→us.Nodup→(∀ u∈us,u∈vs∧at_ vs ws u=at_ us cs u)→Sub vs ws us cs
 | [],[],_,_,_=>trivial
 | [],c :: cs,h,_,_=>by simp at h
 | u :: us,[],h,_,_=>by simp at h
 | u :: us,c :: cs,hl,hn,h=>by
  obtain⟨h1,h2⟩:=qbz.1 hn;refine⟨⟨(h u qaB).1,?_⟩,zrg (by simpa using hl) h2 fun x hx=>⟨(h x (qao _ hx)).1,?_⟩⟩
  ·rw[(h u qaB).2,zgt,beq_self_eq_true,cond_true]
  rw[(h x (qao _ hx)).2,zgt,show(u == x)=false from beq_false_of_ne (fun e=>h1 (e ▸ hx)),cond_false]
theorem zow(a b:List Int):za6 a b=some (a,b):=by rfl
end Go.Dc
