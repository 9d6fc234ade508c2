/-
 Plain laws: numbers and sets of bits. Conditions: none.
-/
import Derived.Test.YtnfgibomhkbcpaaFrJ5
set_option linter.unusedSimpArgs false
set_option linter.unusedVariables false
namespace Go.Dc
open Go Go.Mx Go.Lx
theorem zbW{n:Nat}(h:n<9223372036854775808):w64 (n:Int)=(n:Int):=wrap64 (by omega) (by omega)
theorem zdG{n:Int}(h1:-9223372036854775808≤n)(h2:n<9223372036854775808):w64 n=n:=wrap64 h1 h2
theorem zaF{n:Nat}(h:n+1<9223372036854775808):w64 ((n:Int)+1)=((n+1:Nat):Int):=by
 rw[zdG (by omega) (by omega)]; omega
theorem zuF(n:Nat):IntKind.u64.wrap (n:Int)=((n % 18446744073709551616:Nat):Int):=by
 simp only[IntKind.wrap,IntKind.bits,IntKind.signed]; simp
theorem zqA{n:Nat}(h:n<18446744073709551616):IntKind.u64.wrap (n:Int)=(n:Int):=by
 rw[zuF,qbo h]
theorem zvs(a v:Nat):((a >>> v) &&& 1)=(a.testBit v).toNat:=by
 rw[Nat.and_one_is_mod,Nat.testBit_eq_decide_div_mod_eq,qb4];have h:=Nat.mod_two_eq_zero_or_one (a / 2 ^ v);rcases h with h | h<;>simp[h]
variable {α:Type}
theorem zng{xs:List α}{i:Nat}:za4 xs (i:Int)=xs[i]?:=by
 unfold za4;rw[if_pos (qbK i),qaC]
theorem zbo{xs:List α}{i:Nat}(h:i<xs.length):za4 xs (i:Int)=some (xs[i]'h):=by
 rw[zng,qaf h]
theorem zjO{xs:List α}{i:Nat}{v:α}(h:i<xs.length):zfH xs (i:Int) v=some (xs.set i v):=by
 unfold zfH;rw[if_pos (by omega),qaC]
theorem zqe{b:Nat}{xs ys:List α}(h:(xs.length+ys.length)* b≤70368744177664):zeZ b xs ys=some (xs ++ ys):=by
 unfold zeZ;rw[if_pos (by simp only[zar]; omega)]
theorem zdj{b n:Nat}{z:α}(h:n * b≤70368744177664):zd8 b (n:Int) z=some (List.replicate n z):=by
 have h2:(n:Int)* (b:Int)≤zar:=by
  rw[← qa0]; simp only[zar]; omega
 unfold zd8;rw[if_pos ⟨qbK n,h2⟩,qaC]
theorem zjE{b:Nat}{xs:List α}(h:xs.length * b≤70368744177664):zc6 b xs=some xs:=by
 unfold zc6;rw[if_pos (by simp only[zar]; omega)]
theorem zrv{i n:Nat}:decide ((i:Int)<(n:Int))=decide (i<n):=by simp
theorem zbq(n:Nat):((n:Int) - 0+2).toNat=n+2:=by omega
def iL(xs:List Nat):List Int:=xs.map (fun x:Nat=>(x:Int))
theorem zaG(xs:List Nat):(iL xs).length=xs.length:=by simp[iL]
theorem zrP{xs:List Nat}{i:Nat}(h:i<xs.length):(iL xs)[i]'(by rw[zaG]; exact h)=((xs[i]:Nat):Int):=by simp[iL]
theorem zbK{xs:List Nat}{i:Nat}(h:i<xs.length):za4 (iL xs) (i:Int)=some ((xs[i]:Nat):Int):=by
 rw[zbo (by rw[zaG]; exact h),zrP h]
def zad(xs:List Nat):Nat:=xs.foldr (· * ·) 1
theorem zlw{xs:List Nat}(h:∀ x∈xs,1≤x):1≤zad xs:=by
 induction xs with
 | nil=>exact qah 1
 | cons x xs ih=>exact qbW (h x qay) (ih fun y hy=>h y (qal _ hy))
theorem zjm{i n:Nat}(h:i<n):decide ((i:Int)<(n:Int))=true:=decide_eq_true (by omega)
theorem zjv(n:Nat):decide ((n:Int)<(n:Int))=false:=decide_eq_false (by omega)
abbrev zf6:Nat:=4611686018427387903
def zdH:Nat→List Int→Bool
 | _,[]=>true
 | a,c :: cs=>decide (1≤c) && decide (c≤8) && decide (a * c.toNat≤4096) && zdH (a * c.toNat) cs
theorem zi4:∀ {cs:List Int} {a:Nat},zdH a cs=true→∃ ns:List Nat,cs=iL ns∧(∀ c∈ns,1≤c∧c≤8)∧(a≤4096→a * zad ns≤4096)
 | [],a,_=>⟨[],rfl,by simp,fun h=>by simpa [zad]using h⟩
 | c :: cs,a,h=>by
  simp only[zdH,qag,decide_eq_true_eq]at h;obtain⟨⟨⟨h1,h2⟩,h3⟩,h4⟩:=h;obtain⟨ns,e,g1,g2⟩:=zi4 h4;refine⟨c.toNat :: ns,?_,?_,fun _=>?_⟩
  ·rw[e]; simp[iL]; omega
  ·intro d hd;rcases qaJ.1 hd with rfl | hd
   ·omega
   exact g1 d hd
  have:=g2 h3;show a * (c.toNat * zad ns)≤4096;rw[← qb0]; exact this
theorem zhN:∀ {ns:List Nat} {a:Nat},(∀ c∈ns,1≤c∧c≤8)→a * zad ns≤4096→zdH a (iL ns)=true
 | [],a,_,_=>rfl
 | n :: ns,a,h,hp=>by
  have h1:=h n qay;have hp':a * n * zad ns≤4096:=by rw[qb0]; exact hp
  have hpos:1≤zad ns:=zlw fun x hx=>(h x (qal _ hx)).1
  have hle:a * n≤4096:=qau (qbr _ hpos) hp';show(decide ((1:Int)≤(n:Int)) && decide ((n:Int)≤8) && decide (a * (n:Int).toNat≤4096) && zdH (a * (n:Int).toNat) (iL ns))=true;rw[qaC,zhN (fun c hc=>h c (qal _ hc)) hp',decide_eq_true (by omega),decide_eq_true (by omega),decide_eq_true hle];rfl
def zeM:List Int→Nat
 | []=>1
 | c :: cs=>c.toNat * zeM cs
theorem zdW(ns:List Nat):zeM (iL ns)=zad ns:=by
 induction ns with
 | nil=>rfl
 | cons n ns ih=>show(n:Int).toNat * zeM (iL ns)=n * zad ns; rw[ih,qaC]
theorem zpV(cs:List Int)(hl:cs.length≤12):∀(n i:Nat) (a:Nat),a≤4096→i≤cs.length→cs.length - i<n→zb6 cs n ((a:Nat):Int) (i:Int)=some (bif zdH a (cs.drop i)then(((a * zeM (cs.drop i):Nat):Int),true)else(0,false))
 | 0,_,_,_,_,h=>absurd h (qaw _)
 | n+1,i,a,ha,hi,hn=>by
  unfold zb6;rcases qaQ i cs.length with h3 | h3
  ·rw[zjm h3,cond_true,zbo h3,qaa,qam h3];generalize cs[i]=c;simp only[zdH,zeM];by_cases h1:c<1
   ·rw[decide_eq_true h1,cond_true,qaa,cond_true,decide_eq_false (show ¬ 1≤c by omega)];rfl
   rw[decide_eq_false h1,cond_false,decide_eq_true (show 1≤c by omega)];by_cases h2:8<c
   ·rw[decide_eq_true h2,cond_true,qaa,cond_true,decide_eq_false (show ¬ c≤8 by omega)];rfl
   rw[decide_eq_false h2,cond_false,decide_eq_true (show c≤8 by omega)];obtain⟨m,rfl⟩:∃ m:Nat,c=(m:Int):=⟨c.toNat,by omega⟩;have hb:a * m≤4096 * 8:=qbW ha (by omega);rw[← qa0,zbW (by omega),qaa,qaC];by_cases h4:a * m≤4096
   ·rw[show decide ((4096:Int)<((a * m:Nat):Int))=false from decide_eq_false (by omega),cond_false,zaF (by omega),zpV cs hl n (i+1) (a * m) h4 h3 (by omega),decide_eq_true h4,qb0];rfl
   rw[show decide ((4096:Int)<((a * m:Nat):Int))=true from decide_eq_true (by omega),cond_true,decide_eq_false h4];rfl
  obtain rfl:i=cs.length:=by omega
  rw[zjv,cond_false,qaF];simp[zdH,zeM]
def zcD(cs:List Int):Bool:=decide (cs.length≤12) && zdH 1 cs
theorem ztF(cs:List Int):zcN cs=some (bif zcD cs then(((zeM cs:Nat):Int),0)else(0,20)):=by
 unfold zcN zdL zcD;by_cases hl:cs.length≤12
 ·rw[show decide ((12:Int)<(cs.length:Int))=false from decide_eq_false (by omega),cond_false,zbq];have:=zpV cs hl (cs.length+2) 0 1 (by omega) (qaO _) (by omega);rw[show((1:Nat):Int)=1 from rfl,show((0:Nat):Int)=0 from rfl,qaE,qbD]at this;rw[this,decide_eq_true hl,qa2];cases zdH 1 cs<;>rfl
 rw[show decide ((12:Int)<(cs.length:Int))=true from decide_eq_true (by omega),cond_true,decide_eq_false hl];rfl
theorem zlB(cs:List Int)(hl:cs.length≤12):∀(n i:Nat) (a:Nat),a≤4096→i≤cs.length→cs.length - i<n→zcT cs n ((a:Nat):Int) (i:Int)=some (bif zdH a (cs.drop i)then .go ()else .ret false)
 | 0,_,_,_,_,h=>absurd h (qaw _)
 | n+1,i,a,ha,hi,hn=>by
  unfold zcT;rcases qaQ i cs.length with h3 | h3
  ·rw[zjm h3,cond_true,zbo h3,qaa,qam h3];generalize cs[i]=c;simp only[zdH];by_cases h1:c<1
   ·rw[decide_eq_true h1,cond_true,qaa,cond_true,decide_eq_false (show ¬ 1≤c by omega)];rfl
   rw[decide_eq_false h1,cond_false,decide_eq_true (show 1≤c by omega)];by_cases h2:8<c
   ·rw[decide_eq_true h2,qaa,cond_true,decide_eq_false (show ¬ c≤8 by omega)];rfl
   rw[decide_eq_false h2,qaa,cond_false,decide_eq_true (show c≤8 by omega),qaa];obtain⟨m,rfl⟩:∃ m:Nat,c=(m:Int):=⟨c.toNat,by omega⟩;have hb:a * m≤4096 * 8:=qbW ha (by omega);rw[← qa0,zbW (by omega),qaC];by_cases h4:a * m≤4096
   ·rw[show decide ((4096:Int)<((a * m:Nat):Int))=false from decide_eq_false (by omega),cond_false,zaF (by omega),zlB cs hl n (i+1) (a * m) h4 h3 (by omega),decide_eq_true h4];rfl
   rw[show decide ((4096:Int)<((a * m:Nat):Int))=true from decide_eq_true (by omega),cond_true,decide_eq_false h4];rfl
  obtain rfl:i=cs.length:=by omega
  rw[zjv,cond_false,qaF];simp[zdH]
theorem zoZ(cs:List Int):zdS cs=some (zcD cs):=by
 unfold zdS zcD;by_cases hl:cs.length≤12
 ·rw[show decide ((12:Int)<(cs.length:Int))=false from decide_eq_false (by omega),cond_false,zbq];have:=zlB cs hl (cs.length+2) 0 1 (by omega) (qaO _) (by omega);rw[show((1:Nat):Int)=1 from rfl,show((0:Nat):Int)=0 from rfl,qaE]at this;rw[this,decide_eq_true hl,qa2];cases zdH 1 cs<;>rfl
 rw[show decide ((12:Int)<(cs.length:Int))=true from decide_eq_true (by omega),cond_true,decide_eq_false hl];rfl
theorem zm1(cs:List Int)(hl:cs.length≤12):∀(n i:Nat) (a:Nat),a≤4096→zdH a (cs.drop i)=true→i≤cs.length→cs.length - i<n→zdk cs n ((a:Nat):Int) (i:Int)=some (((a * zeM (cs.drop i):Nat):Int))
 | 0,_,_,_,_,_,h=>absurd h (qaw _)
 | n+1,i,a,ha,hc,hi,hn=>by
  unfold zdk;rcases qaQ i cs.length with h3 | h3
  ·rw[qam h3]at hc ⊢;rw[zjm h3,cond_true,zbo h3,qaa];simp only[zdH,zeM,qag,decide_eq_true_eq]at hc ⊢;obtain⟨⟨⟨h1,h2⟩,h4⟩,h5⟩:=hc;obtain⟨m,hm⟩:∃ m:Nat,cs[i]=(m:Int):=⟨cs[i].toNat,by omega⟩;rw[hm,qaC]at h4 h5 ⊢;rw[← qa0,zbW (by omega),zaF (by omega),zm1 cs hl n (i+1) (a * m) h4 h5 h3 (by omega),qb0]
  obtain rfl:i=cs.length:=by omega
  rw[zjv,cond_false,qaF];simp[zeM]
theorem zhn{cs:List Int}(h:zcD cs=true):zcO cs=some ((zeM cs:Nat):Int):=by
 unfold zcD at h;simp only[qag,decide_eq_true_eq]at h;unfold zcO;rw[zbq];have:=zm1 cs h.1 (cs.length+2) 0 1 (by omega) (by rw[qaE]; exact h.2) (qaO _) (by omega);rw[show((1:Nat):Int)=1 from rfl,show((0:Nat):Int)=0 from rfl,qaE,qbD]at this;rw[this];rfl
def znG:Int→List Int→Bool
 | _,[]=>true
 | l,v :: vs=>decide (l<v) && decide (v≤63) && znG v vs
def zoo:List Int→Bool
 | []=>true
 | w :: ws=>decide (0≤w) && decide (w≤4611686018427387903) && zoo ws
def zmO(x:S_api_Factor):Bool:=zcD x.cards && decide (x.vars.length=x.cards.length) && decide (x.w.length=zeM x.cards) && znG (-1) x.vars && zoo x.w
def zaS:List Nat→List Nat
 | []=>[]
 | _ :: cs=>zad cs :: zaS cs
theorem zfF(cs:List Nat):(zaS cs).length=cs.length:=by induction cs with | nil=>rfl | cons c cs ih=>simp[zaS,ih]
abbrev noT:S_factor_table×Int:=(⟨⟨[],[],[]⟩,[]⟩,30)
theorem zoP(x:S_api_Factor)(hl:x.vars.length≤12):∀(n i:Nat) (l:Int),i≤x.vars.length→x.vars.length - i<n→zb0 x n l (i:Int)=some (bif znG l (x.vars.drop i)then .go ()else .ret noT)
 | 0,_,_,_,h=>absurd h (qaw _)
 | n+1,i,l,hi,hn=>by
  unfold zb0;rcases qaQ i x.vars.length with h3 | h3
  ·rw[zjm h3,cond_true,zbo h3,qaa,qam h3];generalize x.vars[i]=v;simp only[znG];by_cases h1:v≤l
   ·rw[decide_eq_true h1,cond_true,qaa,cond_true,decide_eq_false (show ¬ l<v by omega)];rfl
   rw[decide_eq_false h1,cond_false,qaa,decide_eq_true (show l<v by omega)];by_cases h2:63<v
   ·rw[decide_eq_true h2,cond_true,decide_eq_false (show ¬ v≤63 by omega)];rfl
   rw[decide_eq_false h2,cond_false,decide_eq_true (show v≤63 by omega),zaF (by omega),zoP x hl n (i+1) v h3 (by omega)];rfl
  obtain rfl:i=x.vars.length:=by omega
  rw[zjv,cond_false,qaF];rfl
theorem zoB(x:S_api_Factor)(hl:x.w.length≤4096):∀(n i:Nat),i≤x.w.length→x.w.length - i<n→zb2 x n (i:Int)=some (bif zoo (x.w.drop i)then .go ()else .ret noT)
 | 0,_,_,h=>absurd h (qaw _)
 | n+1,i,hi,hn=>by
  unfold zb2;rcases qaQ i x.w.length with h3 | h3
  ·rw[zjm h3,cond_true,zbo h3,qaa,qam h3];generalize x.w[i]=v;simp only[zoo];by_cases h1:v<0
   ·rw[decide_eq_true h1,cond_true,qaa,cond_true,decide_eq_false (show ¬ 0≤v by omega)];rfl
   rw[decide_eq_false h1,cond_false,qaa,decide_eq_true (show 0≤v by omega)];by_cases h2:4611686018427387903<v
   ·rw[decide_eq_true h2,cond_true,decide_eq_false (show ¬ v≤4611686018427387903 by omega)];rfl
   rw[decide_eq_false h2,cond_false,decide_eq_true (show v≤4611686018427387903 by omega),zaF (by omega),zoB x hl n (i+1) h3 (by omega)];rfl
  obtain rfl:i=x.w.length:=by omega
  rw[zjv,cond_false,qaF];rfl
theorem zc3{ns:List Nat}(h:∀ c∈ns,1≤c):∀ k,zad (ns.drop k)≤zad ns:=by
 induction ns with
 | nil=>intro k; simp
 | cons n ns ih=>
  intro k;cases k with
  | zero=>exact qah _
  | succ k=>
   have h1:=ih (fun c hc=>h c (qal _ hc)) k;have h2:=h n qay;show zad (ns.drop k)≤n * zad ns;exact qau h1 (qcb _ h2)
theorem zoY(a b:List Nat):iL (a ++ b)=iL a ++ iL b:=by simp[iL]
theorem zeb(k:Nat):iL (List.replicate k 0)=List.replicate k 0:=by simp[iL]
theorem zmk(x:S_api_Factor){ns:List Nat}(hx:x.cards=iL ns)(hc:∀ c∈ns,1≤c)(hp:zad ns≤4096)(hl:ns.length≤12):∀(k n:Nat),k≤ns.length→k<n →
  zbE x n ((zad (ns.drop k):Nat):Int) ((k:Int) - 1) (iL (List.replicate k 0 ++ zaS (ns.drop k)))=some (iL (zaS ns))
 | k,0,_,h=>absurd h (qaw _)
 | 0,n+1,_,_=>by
  unfold zbE;rw[show decide ((0:Int)≤((0:Nat):Int) - 1)=false from rfl,cond_false];rfl
 | k+1,n+1,hk,hn=>by
  have ih:=zmk x hx hc hp hl k n (by omega) (by omega);have hk':k<ns.length:=hk;unfold zbE;have e:(((k+1:Nat):Int) - 1)=(k:Int):=by omega
  have hlen:k<(iL (List.replicate (k+1) 0 ++ zaS (ns.drop (k+1)))).length:=by rw[zaG]; simp; omega
  rw[e,show decide ((0:Int)≤(k:Int))=true from decide_eq_true (by omega),cond_true,zbo hlen,qaa,zjO hlen,qaa,hx,zbK hk',qaa];have hd:ns.drop k=ns[k]:: ns.drop (k+1):=qam hk';have h1:(iL (List.replicate (k+1) 0 ++ zaS (ns.drop (k+1)))).set k ((zad (ns.drop (k+1)):Nat):Int)=iL (List.replicate k 0 ++ zaS (ns.drop k)):=by
   rw[hd,zoY,zoY,zeb,zeb,qb2,qaM,List.set_append_right _ _ (by simp)];simp[zaS,iL]
  have h2:((zad (ns.drop (k+1)):Nat):Int)* ((ns[k]:Nat):Int)=((zad (ns.drop k):Nat):Int):=by
   rw[hd,← qa0,qba]; rfl
  have h3:=zc3 hc k;rw[h1,h2,zbW (by omega),zdG (by omega) (by omega)];exact ih
def zqb(xs:List Int):List Nat:=xs.map Int.toNat
theorem zkH(ns:List Nat):zqb (iL ns)=ns:=by
 induction ns with
 | nil=>rfl
 | cons n ns ih=>show(n:Int).toNat :: zqb (iL ns)=n :: ns; rw[ih,qaC]
theorem zf4{cs:List Int}(h:zcD cs=true):∃ ns:List Nat,cs=iL ns∧(∀ c∈ns,1≤c∧c≤8)∧zad ns≤4096∧ns.length≤12:=by
 unfold zcD at h;simp only[qag,decide_eq_true_eq]at h;obtain⟨ns,rfl,h1,h2⟩:=zi4 h.2;exact⟨ns,rfl,h1,by have:=h2 (by omega); omega,by have:=h.1; rw[zaG]at this; exact this⟩
theorem zrn(x:S_api_Factor):zaB x=some (bif zmO x then(⟨x,iL (zaS (zqb x.cards))⟩,0)else noT):=by
 unfold zaB zmO;rw[ztF,qaa];cases hc:zcD x.cards with
 | false=>
  rw[cond_false];rfl
 | true=>
  obtain⟨ns,hx,h1,h2,h3⟩:=zf4 hc;rw[cond_true,show(((((zeM x.cards:Nat):Int),(0:Int)).2 == 0))=true from rfl,cond_true,qa2];by_cases hv:x.vars.length=x.cards.length
  ·rw[show(((x.vars.length:Nat):Int)==((x.cards.length:Nat):Int))=true by rw[hv]; exact beq_self_eq_true _,cond_true,qaa,decide_eq_true hv,qa2];by_cases hw:x.w.length=zeM x.cards
   ·have hw':x.w.length≤4096:=by rw[hw,hx,zdW]; exact h2
    have hl:x.vars.length≤12:=by rw[hv,hx,zaG]; exact h3
    rw[show(!(((x.w.length:Nat):Int)==((zeM x.cards:Nat):Int)))=false by rw[hw,beq_self_eq_true]; rfl,cond_false,decide_eq_true hw,qa2,zbq,zbq];have e1:=zoP x hl (x.vars.length+2) 0 (-1) (qaO _) (by omega);have e2:=zoB x hw' (x.w.length+2) 0 (qaO _) (by omega);rw[show((0:Nat):Int)=0 from rfl,qaE]at e1 e2;rw[e1,qaa];cases znG (-1) x.vars with
    | false=>rfl
    | true=>
     rw[cond_true,qa2];simp only;rw[e2,qaa];cases zoo x.w with
     | false=>rfl
     | true=>
      rw[cond_true];simp only;have hlen:x.cards.length=ns.length:=by rw[hx,zaG]
      have e3:=zmk x hx (fun c hc=>(h1 c hc).1) h2 h3 ns.length (ns.length+1+1) (qah _) (by omega);rw[qaF]at e3;rw[zdj (by omega),qaa,qaC,hlen,zdG (by omega) (by omega),show((ns.length:Int) - 1 - 0+2).toNat=ns.length+1 by omega];have e4:=zmk x hx (fun c hc=>(h1 c hc).1) h2 h3 ns.length (ns.length+1) (qah _) (by omega);rw[qaF]at e4;rw[show iL (List.replicate ns.length 0 ++ zaS [])=List.replicate ns.length 0 by simp[zaS,iL],show((zad []:Nat):Int)=1 from rfl]at e4;rw[e4,qaa,cond_true,hx,zkH]
   rw[show(!(((x.w.length:Nat):Int)==((zeM x.cards:Nat):Int)))=true by rw[qbu]; exact beq_false_of_ne (by omega),cond_true,decide_eq_false hw];rfl
  rw[show(((x.vars.length:Nat):Int)==((x.cards.length:Nat):Int))=false from beq_false_of_ne (by omega),cond_false,qaa,cond_true,decide_eq_false hv];rfl
theorem zmQ(x:S_api_Factor)(hl:x.vars.length≤12):∀(n i:Nat) (l:Int),((i=0∧l = -1)∨∃ h:i - 1<x.vars.length,0<i∧l=x.vars[i - 1]∧0≤l)→i≤x.vars.length→x.vars.length - i<n→zcd x n (i:Int)=some (bif znG l (x.vars.drop i)then .go ()else .ret false)
 | 0,_,_,_,_,h=>absurd h (qaw _)
 | n+1,i,l,hil,hi,hn=>by
  unfold zcd;rcases qaQ i x.vars.length with h3 | h3
  ·obtain⟨v,hv⟩:∃ v,x.vars[i]=v:=⟨_,rfl⟩;rw[zjm h3,cond_true,zbo h3,qaa,qam h3,hv];simp only[znG];have hl0:-1≤l:=by rcases hil with⟨_,h⟩| ⟨_,_,_,h⟩<;> omega
   by_cases h1:v<0
   ·rw[decide_eq_true h1,cond_true,qaa,cond_true,decide_eq_false (show ¬ l<v by omega)];rfl
   rw[decide_eq_false h1,cond_false];by_cases h2:63<v
   ·rw[decide_eq_true h2,cond_true,qaa,cond_true,decide_eq_false (show ¬ v≤63 by omega),Bool.and_false];rfl
   rw[decide_eq_false h2,cond_false,decide_eq_true (show v≤63 by omega),qb8];have fin:∀ b:Bool,b=decide (v≤l)→(bif b then some (Out.ret false)else zcd x n (w64 ((i:Int)+1)))=some (bif decide (l<v) && znG v (x.vars.drop (i+1))then .go ()else .ret false):=by
    intro b hb;subst hb;by_cases h4:v≤l
    ·rw[decide_eq_true h4,cond_true,decide_eq_false (show ¬ l<v by omega)];rfl
    rw[decide_eq_false h4,cond_false,decide_eq_true (show l<v by omega),zaF (by omega),qa2];exact zmQ x hl n (i+1) v (.inr ⟨by simpa using h3,by omega,by simp[hv],by omega⟩) h3 (by omega)
   rcases hil with⟨rfl,rfl⟩| ⟨h5,h6,h7,h8⟩
   ·rw[show decide ((0:Int)<((0:Nat):Int))=false from rfl,cond_false,qaa];exact fin false (decide_eq_false (by omega)).symm
   rw[show decide ((0:Int)<(i:Int))=true from decide_eq_true (by omega),cond_true,zdG (by omega) (by omega),show((i:Int) - 1)=((i - 1:Nat):Int) by omega,zbo h5,qaa,qaa,← h7];exact fin _ rfl
  obtain rfl:i=x.vars.length:=by omega
  rw[zjv,cond_false,qaF];rfl
theorem zns(x:S_api_Factor)(hl:x.w.length≤4096):∀(n i:Nat),i≤x.w.length→x.w.length - i<n→zcH x n (i:Int)=some (bif zoo (x.w.drop i)then .go ()else .ret false)
 | 0,_,_,h=>absurd h (qaw _)
 | n+1,i,hi,hn=>by
  unfold zcH;rcases qaQ i x.w.length with h3 | h3
  ·rw[zjm h3,cond_true,zbo h3,qaa,qam h3];generalize x.w[i]=v;simp only[zoo];by_cases h1:v<0
   ·rw[decide_eq_true h1,cond_true,qaa,cond_true,decide_eq_false (show ¬ 0≤v by omega)];rfl
   rw[decide_eq_false h1,cond_false,qaa,decide_eq_true (show 0≤v by omega)];by_cases h2:4611686018427387903<v
   ·rw[decide_eq_true h2,cond_true,decide_eq_false (show ¬ v≤4611686018427387903 by omega)];rfl
   rw[decide_eq_false h2,cond_false,decide_eq_true (show v≤4611686018427387903 by omega),zaF (by omega),zns x hl n (i+1) h3 (by omega)];rfl
  obtain rfl:i=x.w.length:=by omega
  rw[zjv,cond_false,qaF];rfl
theorem zhv(x:S_api_Factor):zd1 x=some (zmO x):=by
 unfold zd1 zmO;rw[zoZ,qaa];cases hc:zcD x.cards with
 | false=>rw[cond_false]; rfl
 | true=>
  obtain⟨ns,hx,h1,h2,h3⟩:=zf4 hc;rw[cond_true,qa2];by_cases hv:x.vars.length=x.cards.length
  ·rw[show(((x.vars.length:Nat):Int)==((x.cards.length:Nat):Int))=true by rw[hv]; exact beq_self_eq_true _,cond_true,zhn hc,qaa,qaa,decide_eq_true hv,qa2];by_cases hw:x.w.length=zeM x.cards
   ·have hw':x.w.length≤4096:=by rw[hw,hx,zdW]; exact h2
    have hl:x.vars.length≤12:=by rw[hv,hx,zaG]; exact h3
    rw[show(!(((x.w.length:Nat):Int)==((zeM x.cards:Nat):Int)))=false by rw[hw,beq_self_eq_true]; rfl,cond_false,decide_eq_true hw,qa2,zbq,zbq];have e1:=zmQ x hl (x.vars.length+2) 0 (-1) (.inl ⟨rfl,rfl⟩) (qaO _) (by omega);have e2:=zns x hw' (x.w.length+2) 0 (qaO _) (by omega);rw[show((0:Nat):Int)=0 from rfl,qaE]at e1 e2;rw[e1,qaa];cases znG (-1) x.vars with
    | false=>rfl
    | true=>
     rw[cond_true,qa2];simp only;rw[e2,qaa];cases zoo x.w<;>rfl
   rw[show(!(((x.w.length:Nat):Int)==((zeM x.cards:Nat):Int)))=true by rw[qbu]; exact beq_false_of_ne (by omega),cond_true,decide_eq_false hw];rfl
  rw[show(((x.vars.length:Nat):Int)==((x.cards.length:Nat):Int))=false from beq_false_of_ne (by omega),cond_false,qaa,cond_true,decide_eq_false hv];rfl
structure Fc where
 vs:List Nat
 cs:List Nat
 ws:List Nat
def Fc.D(f:Fc):S_api_Factor:=⟨iL f.vs,iL f.cs,iL f.ws⟩
structure FcOk (f:Fc):Prop where
 len:f.vs.length=f.cs.length
 le:f.cs.length≤12
 card:∀ c∈f.cs,1≤c∧c≤8
 prod:zad f.cs≤4096
 size:f.ws.length=zad f.cs
 inc:f.vs.Pairwise (· < ·)
 var:∀ v∈f.vs,v<64
 num:∀ w∈f.ws,w≤zf6
theorem zny:∀ {vs:List Int} {l:Int},-1≤l→znG l vs=true→∃ ns:List Nat,vs=iL ns∧ns.Pairwise (· < ·)∧∀ v∈ns,v<64∧l<(v:Int)
 | [],l,_,_=>⟨[],rfl,.nil,by simp⟩
 | v :: vs,l,hl,h=>by
  simp only[znG,qag,decide_eq_true_eq]at h;obtain⟨⟨h1,h2⟩,h3⟩:=h;obtain⟨ns,rfl,g1,g2⟩:=zny (by omega) h3;refine⟨v.toNat :: ns,?_,qa9.2 ⟨fun u hu=>?_,g1⟩,fun u hu=>?_⟩
  ·simp[iL]; omega
  ·have:=(g2 u hu).2; omega
  rcases qaJ.1 hu with rfl | hu
  ·omega
  have:=g2 u hu; omega
theorem zpi:∀ {ns:List Nat} {l:Int},ns.Pairwise (· < ·)→(∀ v∈ns,v<64∧l<(v:Int))→znG l (iL ns)=true
 | [],_,_,_=>rfl
 | n :: ns,l,h1,h2=>by
  have h3:=h2 n qay;obtain⟨h4,h5⟩:=qa9.1 h1;show(decide (l<(n:Int)) && decide ((n:Int)≤63) && znG (n:Int) (iL ns))=true;rw[decide_eq_true h3.2,decide_eq_true (by omega),zpi h5 fun v hv=>⟨(h2 v (qal _ hv)).1,by have:=h4 v hv; omega⟩];rfl
theorem zne:∀ {ws:List Int},zoo ws=true→∃ ns:List Nat,ws=iL ns∧∀ w∈ns,w≤zf6
 | [],_=>⟨[],rfl,by simp⟩
 | w :: ws,h=>by
  simp only[zoo,qag,decide_eq_true_eq]at h;obtain⟨⟨h1,h2⟩,h3⟩:=h;obtain⟨ns,rfl,g⟩:=zne h3;refine⟨w.toNat :: ns,by simp[iL]; omega,fun u hu=>?_⟩;rcases qaJ.1 hu with rfl | hu
  ·unfold zf6; omega
  exact g u hu
theorem zqp:∀ {ns:List Nat},(∀ w∈ns,w≤zf6)→zoo (iL ns)=true
 | [],_=>rfl
 | n :: ns,h=>by
  have h1:n≤4611686018427387903:=h n qay;show(decide (0≤(n:Int)) && decide ((n:Int)≤4611686018427387903) && zoo (iL ns))=true;rw[decide_eq_true (by omega),decide_eq_true (by omega),zqp fun w hw=>h w (qal _ hw)];rfl
theorem zqC{x:S_api_Factor}(h:zmO x=true):∃ f:Fc,FcOk f∧x=f.D:=by
 unfold zmO at h;simp only[qag,decide_eq_true_eq]at h;obtain⟨⟨⟨⟨h1,h2⟩,h3⟩,h4⟩,h5⟩:=h;obtain⟨cs,e1,a1,a2,a3⟩:=zf4 h1;obtain⟨vs,e2,b1,b2⟩:=zny (by omega) h4;obtain⟨ws,e3,c1⟩:=zne h5;obtain⟨xv,xc,xw⟩:=x;simp only at e1 e2 e3 h2 h3;subst e1 e2 e3;rw[zaG,zaG]at h2;rw[zaG,zdW]at h3;exact⟨⟨vs,cs,ws⟩,⟨h2,a3,a1,a2,h3,b1,fun v hv=>(b2 v hv).1,c1⟩,rfl⟩
theorem zpg{f:Fc}(h:FcOk f):zmO f.D=true:=by
 unfold zmO Fc.D zcD;simp only[zaG];rw[decide_eq_true h.le,zhN h.card (by have:=h.prod; omega),decide_eq_true h.len,decide_eq_true (by rw[zdW]; exact h.size),zpi h.inc fun v hv=>⟨h.var v hv,by omega⟩,zqp h.num];rfl
def Fc.T(f:Fc):S_factor_table:=⟨f.D,iL (zaS f.cs)⟩
theorem zfU{f:Fc}(h:FcOk f):zaB f.D=some (f.T,0):=by
 rw[zrn,zpg h,cond_true,show f.D.cards=iL f.cs from rfl,zkH];rfl
theorem zmK{x:S_api_Factor}(h:zmO x=false):zaB x=some noT:=by rw[zrn,h,cond_false]
def zgf:List Int→Int→Option Nat
 | [],_=>none
 | x :: xs,v=>bif x == v then some 0 else(zgf xs v).map (· + 1)
def ixZ:Option Nat→Int
 | none=>-1
 | some k=>(k:Int)
theorem zlC:∀ {xs:List Int} {v:Int} {k:Nat},zgf xs v=some k→∃ h:k<xs.length,xs[k]=v
 | x :: xs,v,k,h=>by
  unfold zgf at h;cases hb:(x == v)with
  | true=>
   rw[hb,cond_true]at h;cases h;exact⟨by simp,by simpa using hb⟩
  | false=>
   rw[hb,cond_false]at h;cases hp:zgf xs v with
   | none=>rw[hp]at h; cases h
   | some j=>
    rw[hp]at h;cases h;obtain⟨g1,g2⟩:=zlC hp;exact⟨by simp; omega,by simpa using g2⟩
theorem zlr:∀ {xs:List Int} {v:Int},zgf xs v=none→v ∉ xs
 | [],v,_=>by simp
 | x :: xs,v,h=>by
  unfold zgf at h;cases hb:(x == v)with
  | true=>rw[hb,cond_true]at h; cases h
  | false=>
   rw[hb,cond_false]at h;have h1:zgf xs v=none:=by
    cases hp:zgf xs v with
    | none=>rfl
    | some j=>rw[hp]at h; cases h
   have h2:x≠v:=by simpa using hb
   intro hm;rcases qaJ.1 hm with rfl | hm
   ·exact h2 rfl
   exact zlr h1 hm
theorem zoO(xs:List Int)(v:Int)(hl:xs.length<4611686018427387904):∀(n i:Nat),i≤xs.length→xs.length - i<n→zaT xs v n (i:Int)=some (match zgf (xs.drop i) v with | none=>.go ()| some k=>.ret ((i+k:Nat):Int))
 | 0,_,_,h=>absurd h (qaw _)
 | n+1,i,hi,hn=>by
  unfold zaT;rcases qaQ i xs.length with h3 | h3
  ·rw[zjm h3,cond_true,zbo h3,qaa,qam h3];generalize xs[i]=x;unfold zgf;by_cases h:v=x
   ·subst h;rw[beq_self_eq_true,cond_true,cond_true];rfl
   rw[show(v == x)=false from beq_false_of_ne h,show(x == v)=false from beq_false_of_ne (fun e=>h e.symm),cond_false,cond_false,zaF (by omega),zoO xs v hl n (i+1) h3 (by omega)];cases zgf (xs.drop (i+1)) v with
   | none=>rfl
   | some k=>
    simp only[qaK];rw[show i+1+k=i+(k+1) by omega]
  obtain rfl:i=xs.length:=by omega
  rw[zjv,cond_false,qaF];rfl
theorem zsv{xs:List Int}(hl:xs.length<4611686018427387904)(v:Int):zbd xs v=some (ixZ (zgf xs v)):=by
 unfold zbd;have h:=zoO xs v hl (xs.length+2) 0 (qaO _) (by omega);rw[show((0:Nat):Int)=0 from rfl,qaE]at h;rw[zbq,h,qaa];cases zgf xs v with
 | none=>rfl
 | some k=>simp only[qaU]; rfl
theorem zpH(x:S_api_Factor)(v:Int)(hl:x.vars.length<4611686018427387904):∀(n i:Nat),i≤x.vars.length→x.vars.length - i<n→zcI x v n (i:Int)=some (match zgf (x.vars.drop i) v with | none=>.go ()| some k=>.ret ((i+k:Nat):Int))
 | 0,_,_,h=>absurd h (qaw _)
 | n+1,i,hi,hn=>by
  unfold zcI;rcases qaQ i x.vars.length with h3 | h3
  ·rw[zjm h3,cond_true,zbo h3,qaa,qam h3];generalize x.vars[i]=y;unfold zgf;cases hb:(y == v)with
   | true=>rw[cond_true,cond_true]; rfl
   | false=>
    rw[cond_false,cond_false,zaF (by omega),zpH x v hl n (i+1) h3 (by omega)];cases zgf (x.vars.drop (i+1)) v with
    | none=>rfl
    | some k=>
     simp only[qaK];rw[show i+1+k=i+(k+1) by omega]
  obtain rfl:i=x.vars.length:=by omega
  rw[zjv,cond_false,qaF];rfl
theorem zsR{x:S_api_Factor}(hl:x.vars.length<4611686018427387904)(v:Int):zbw x v=some (ixZ (zgf x.vars v)):=by
 unfold zbw;have h:=zpH x v hl (x.vars.length+2) 0 (qaO _) (by omega);rw[show((0:Nat):Int)=0 from rfl,qaE]at h;rw[zbq,h,qaa];cases zgf x.vars v with
 | none=>rfl
 | some k=>simp only[qaU]; rfl
theorem FcOk.vl{f:Fc}(h:FcOk f):(iL f.vs).length<4611686018427387904:=by rw[zaG,h.len]; have:=h.le; omega
theorem zeQ{f:Fc}(h:FcOk f)(v:Int):zaj f.T v=some (ixZ (zgf (iL f.vs) v)):=by
 unfold zaj;rw[show f.T.factor.vars=iL f.vs from rfl,zsv h.vl,qaa]
theorem znf{f:Fc}(h:FcOk f)(v:Int):zbw f.D v=some (ixZ (zgf (iL f.vs) v)):=zsR (x:=f.D) h.vl v
theorem zud(o:Option Nat):decide ((0:Int)≤ixZ o)=o.isSome:=by
 cases o with
 | none=>rfl
 | some k=>exact decide_eq_true (qbK k)
def pos:List Nat→Nat→Option Nat
 | [],_=>none
 | x :: xs,v=>bif x == v then some 0 else(pos xs v).map (· + 1)
theorem zbV:∀(xs:List Nat) (v:Nat),zgf (iL xs) (v:Int)=pos xs v
 | [],v=>rfl
 | x :: xs,v=>by
  show(bif ((x:Int)==(v:Int))then some 0 else(zgf (iL xs) (v:Int)).map (· + 1))=pos (x :: xs) v;rw[zbV xs v];show _=(bif x == v then some 0 else(pos xs v).map (· + 1));cases hb:(x == v)with
  | true=>
   have:x=v:=by simpa using hb
   subst this;rw[beq_self_eq_true]
  | false=>
   have h1:x≠v:=by simpa using hb
   have h2:((x:Int)==(v:Int))=false:=beq_false_of_ne (by omega);rw[h2]
theorem znw:∀(xs:List Nat) {v:Int},v<0→zgf (iL xs) v=none
 | [],v,_=>rfl
 | x :: xs,v,h=>by
  show(bif ((x:Int)== v)then some 0 else(zgf (iL xs) v).map (· + 1))=none;rw[show((x:Int)== v)=false from beq_false_of_ne (by omega),cond_false,znw xs h];rfl
theorem zeP{xs:List Nat}{v k:Nat}(h:pos xs v=some k):∃ hk:k<xs.length,xs[k]=v:=by
 rw[← zbV]at h;obtain⟨h1,h2⟩:=zlC h;rw[zaG]at h1;refine⟨h1,?_⟩;rw[zrP h1]at h2;omega
theorem zrf{xs:List Nat}{v:Nat}(h:pos xs v=none):v ∉ xs:=by
 rw[← zbV]at h;have:=zlr h;intro hm;exact this (qaW.2 ⟨v,hm,rfl⟩)
theorem zfZ{xs:List Nat}{v:Nat}(h:v∈xs):∃ k,pos xs v=some k:=by
 cases hp:pos xs v with
 | none=>exact absurd h (zrf hp)
 | some k=>exact⟨k,rfl⟩
theorem zc2{xs:List Nat}{i:Nat}(h:i<xs.length):za4 (iL xs) (i:Int)=some ((xs.getD i 0:Nat):Int):=by
 rw[zbK h]; simp[List.getD,h]
theorem zhB(a b:Nat):((a:Int)==(b:Int))=(a == b):=by
 rw[Bool.eq_iff_iff,beq_iff_eq,beq_iff_eq];exact Int.ofNat_inj
def dig:List Nat→Nat→List Nat
 | [],_=>[]
 | _ :: cs,i=>i / zad cs :: dig cs (i % zad cs)
theorem zhs:∀(cs:List Nat) (i:Nat),(dig cs i).length=cs.length
 | [],_=>rfl
 | _ :: cs,i=>by simp[dig,zhs cs]
def dot:List Nat→List Nat→Nat
 | x :: xs,s :: ss=>x * s+dot xs ss
 | _,_=>0
theorem zjX:∀ {xs ss:List Nat} (ys ts:List Nat),xs.length=ss.length→dot (xs ++ ys) (ss ++ ts)=dot xs ss+dot ys ts
 | [],[],ys,ts,_=>by simp[dot]
 | x :: xs,s :: ss,ys,ts,h=>by
  simp only[qbe,dot];rw[zjX ys ts (by simpa using h)]; omega
 | [],_ :: _,_,_,h=>by simp at h
 | _ :: _,[],_,_,h=>by simp at h
theorem zl8(x s:Nat):dot [x] [s]=x * s:=by simp[dot]
def zcU:List Nat→List Nat→Prop
 | [],[]=>True
 | c :: cs,x :: xs=>x<c∧c≤8∧zcU cs xs
 | _,_=>False
theorem zcU.len:∀ {cs xs:List Nat},zcU cs xs→xs.length=cs.length
 | [],[],_=>rfl
 | c :: cs,x :: xs,h=>by simp[h.2.2.len]
theorem zcU.snoc:∀ {cs xs:List Nat} {c x:Nat},zcU (cs ++ [c]) (xs ++ [x])→xs.length=cs.length→zcU cs xs∧x<c∧c≤8
 | [],[],c,x,h,_=>⟨qcj,h.1,h.2.1⟩
 | c :: cs,x :: xs,_,_,h,hl=>by
  obtain⟨h1,h2,h3⟩:=h;obtain⟨g1,g2⟩:=h3.snoc (by simpa using hl);exact⟨⟨h1,h2,g1⟩,g2⟩
theorem zbs{cs:List Nat}(h:∀ c∈cs,1≤c∧c≤8):0<zad cs:=zlw fun c hc=>(h c hc).1
theorem ze9:∀ {cs:List Nat} {i:Nat},(∀ c∈cs,1≤c∧c≤8)→i<zad cs→zcU cs (dig cs i)
 | [],_,_,_=>trivial
 | c :: cs,i,h,hi=>by
  have hc:=h c qay;have hp:=zbs fun d hd=>h d (qal c hd)
  refine⟨?_,hc.2,ze9 (fun d hd=>h d (qal c hd)) (qbv _ hp)⟩;have h1:i<c * zad cs:=hi;exact qb3 (by rw[qba]; exact h1)
theorem zo7:∀ {cs xs ss:List Nat},zcU cs xs→(∀ s∈ss,s≤4096)→dot xs ss≤cs.length * 32768
 | [],[],_,_,_=>by simp[dot]
 | c :: cs,x :: xs,[],_,_=>by simp[dot]
 | c :: cs,x :: xs,s :: ss,h,hs=>by
  have h1:=zo7 h.2.2 fun t ht=>hs t (qal _ ht)
  have h2:=hs s qay;have h3:x * s≤8 * 4096:=qbW (by have:=h.1; have:=h.2.1; omega) h2;simp only[dot,qa3];omega
def nxt:List Nat→List Nat→Option (List Nat)
 | c :: cs,v :: vs=>match nxt cs vs with
  | some vs'=>some (v :: vs')
  | none=>if v+1<c then some ((v+1):: List.replicate vs.length 0)else none
 | _,_=>none
theorem zf5:∀ {cs vs:List Nat} {c v:Nat},vs.length=cs.length→v+1<c→nxt (cs ++ [c]) (vs ++ [v])=some (vs ++ [v+1])
 | [],[],c,v,_,h=>by simp[nxt,h]
 | d :: cs,u :: vs,c,v,hl,h=>by
  simp only[qbe,nxt,zf5 (show vs.length=cs.length by simpa using hl) h]
theorem zff:∀ {cs vs:List Nat} {c v:Nat},vs.length=cs.length→¬ v+1<c→nxt (cs ++ [c]) (vs ++ [v])=(nxt cs vs).map (· ++ [0])
 | [],[],c,v,_,h=>by simp[nxt,h]
 | d :: cs,u :: vs,c,v,hl,h=>by
  simp only[qbe,nxt,zff (show vs.length=cs.length by simpa using hl) h];cases hn:nxt cs vs with
  | some vs'=>rfl
  | none=>
   simp only[qcg];by_cases hu:u+1<d
   ·rw[if_pos hu,if_pos hu];simp[qb2]
   rw[if_neg hu,if_neg hu]; rfl
theorem zhm:∀(cs:List Nat),dig cs 0=List.replicate cs.length 0
 | []=>rfl
 | c :: cs=>by simp[dig,zhm cs,qaX]
theorem zmw:∀ {cs:List Nat} {i:Nat},(∀ c∈cs,1≤c∧c≤8)→i<zad cs→nxt cs (dig cs i)=if i+1<zad cs then some (dig cs (i+1))else none
 | [],i,_,hi=>by
  have:i=0:=by simpa [zad]using hi
  subst this;simp[nxt,zad]
 | c :: cs,i,h,hi=>by
  have hp:=zbs fun d hd=>h d (qal c hd)
  have hm:=qbv i hp;have ih:=zmw (fun d hd=>h d (qal c hd)) hm;have hi':i<c * zad cs:=hi;simp only[dig,nxt,ih];have hdm:=qbH i (zad cs);generalize hq:i / zad cs=q at *;generalize hr:i % zad cs=r at *;have hprod:zad (c :: cs)=c * zad cs:=rfl;by_cases h1:r+1<zad cs
  ·rw[if_pos h1];have e1:(i+1) / zad cs=q:=by
    rw[← hdm,qbb,Nat.mul_add_div hp,Nat.div_eq_of_lt h1,qbk]
   have e2:(i+1) % zad cs=r+1:=by
    rw[← hdm,qbb,Nat.mul_add_mod,qbo h1]
   have hqc:q<c:=by rw[← hq]; exact qb3 (by rw[qba]; exact hi')
   have h2:i+1<zad (c :: cs):=by
    rw[hprod];have:(q+1)* zad cs≤c * zad cs:=qap _ hqc;rw[qaL,qbD,qba q]at this;omega
   rw[if_pos h2,e1,e2]
  rw[if_neg h1];have hr1:r+1=zad cs:=by omega
  have hi1:i+1=zad cs * (q+1):=by rw[Nat.mul_add,Nat.mul_one]; omega
  simp only;have h4:(q+1<c)↔(i+1<zad (c :: cs)):=by
   rw[hprod,hi1,qba c];exact(Nat.mul_lt_mul_left hp).symm
  by_cases h5:q+1<c
  ·rw[if_pos h5,if_pos (h4.1 h5),hi1,Nat.mul_div_cancel_left _ hp,Nat.mul_mod_right,zhm,zhs]
  rw[if_neg h5,if_neg (fun h=>h5 (h4.2 h))]
theorem zcy{xs ys:List Nat}{x:Nat}{k:Nat}(h:xs.length=k):za4 (iL (xs ++ x :: ys)) (k:Int)=some (x:Int):=by
 subst h;rw[zbK (by simp)];simp
theorem zdJ{xs ys:List Nat}{x y:Nat}{k:Nat}(h:xs.length=k):zfH (iL (xs ++ x :: ys)) (k:Int) (y:Int)=some (iL (xs ++ y :: ys)):=by
 subst h;rw[zjO (by rw[zaG]; simp)];simp[iL]
theorem zhy{xs:List Nat}{k:Nat}(h:xs.length=k+1):∃ ys y,xs=ys ++ [y]∧ys.length=k:=by
 have hne:xs≠[]:=by rintro rfl; simp at h
 exact⟨xs.dropLast,xs.getLast hne,(List.dropLast_concat_getLast hne).symm,by simp[h]⟩
theorem znC:∀(k:Nat) (xs cx sx cy sy zs:List Nat) (e:Nat),xs.length=k→cx.length=k→sx.length=k→zcU cx xs→(∀ s∈sx,s≤4096)→k≤12→e≤1000000 →
  ∃ r,ziD (iL (cx ++ cy)) (iL (sx ++ sy)) k (iL (xs ++ zs)) ((dot xs sx+e:Nat):Int)=some r∧match nxt cx xs with
   | none=>r.2.2 = -1
   | some xs'=>∃(j:Nat) (v st:Int),r.2.2=(j:Int)∧za4 r.1 (j:Int)=some v∧zfH r.1 (j:Int) (w64 (v+1))=some (iL (xs' ++ zs))∧za4 (iL (sx ++ sy)) (j:Int)=some st∧w64 (r.2.1+st)=((dot xs' sx+e:Nat):Int)
 | 0,xs,cx,sx,cy,sy,zs,e,hx,hc,hs,_,_,_,_=>by
  obtain rfl:xs=[]:=qaz.1 hx;obtain rfl:cx=[]:=qaz.1 hc;exact⟨_,rfl,rfl⟩
 | k+1,xs,cx,sx,cy,sy,zs,e,hx,hc,hs,hb,hsm,hk,he=>by
  obtain⟨xs,x,rfl,lx⟩:=zhy hx;obtain⟨cx,c,rfl,lc⟩:=zhy hc;obtain⟨sx,s,rfl,ls⟩:=zhy hs;obtain⟨hb1,hb2,hb3⟩:=hb.snoc (lx.trans lc.symm);have hd:=zo7 hb1 fun t ht=>hsm t (qcf _ ht)
  have hss:s≤4096:=hsm s (by simp);have hxs:x * s≤8 * 4096:=qbW (by omega) hss;have hlen:cx.length * 32768≤12 * 32768:=qap _ (by omega);simp only[qaM,qaD];unfold ziD;rw[zcy lx,qaa,zcy lc,qaa,zdG (by omega) (by omega)];rw[zjX [x] [s] (lx.trans ls.symm),zl8];by_cases h1:x+1<c
  ·rw[show((x:Int)==(c:Int) - 1)=false from beq_false_of_ne (by omega),cond_false,zf5 (lx.trans lc.symm) h1];refine⟨_,rfl,k,(x:Int),(s:Int),rfl,zcy lx,?_,zcy ls,?_⟩
   ·rw[zaF (by omega),zdJ lx]; simp
   rw[zjX [x+1] [s] (lx.trans ls.symm),zl8,← Int.natCast_add,zbW (by omega),qaL];congr 1; omega
  rw[show((x:Int)==(c:Int) - 1)=true by rw[show(x:Int)=(c:Int) - 1 by omega]; exact beq_self_eq_true _,cond_true,zcy ls,qaa,show(0:Int)=((0:Nat):Int)from rfl,zdJ lx,qaa,← qa0,
   zbW (by omega),show(((dot xs sx+x * s+e:Nat):Int) - ((x * s:Nat):Int))=((dot xs sx+e:Nat):Int) by omega,zbW (by omega),zff (lx.trans lc.symm) h1]
  obtain⟨r,h2,h3⟩:=znC k xs cx sx (c :: cy) (s :: sy) (0 :: zs) e lx lc ls hb1 (fun t ht=>hsm t (qcf _ ht)) (by omega) he;refine⟨r,h2,?_⟩;cases hn:nxt cx xs with
  | none=>rw[hn]at h3; exact h3
  | some xs'=>
   rw[hn]at h3;obtain⟨j,v,st,g1,g2,g3,g4,g5⟩:=h3;have hl':xs'.length=sx.length:=by
    have:∀ {cs vs ws:List Nat},nxt cs vs=some ws→vs.length=cs.length→ws.length=vs.length:=by
     intro cs;induction cs with
     | nil=>intro vs ws h _; simp[nxt]at h
     | cons d cs ih=>
      intro vs ws h hl;cases vs with
      | nil=>simp[nxt]at h
      | cons u vs=>
       simp only[nxt]at h;cases hq:nxt cs vs with
       | some vs'=>
        rw[hq]at h;cases h;simp[ih hq (by simpa using hl)]
       | none=>
        rw[hq]at h;simp only at h;split at h
        ·cases h; simp
        cases h
    rw[this hn (lx.trans lc.symm),lx,ls]
   refine⟨j,v,st,g1,g2,by rw[g3]; simp,g4,?_⟩;rw[g5,zjX [0] [s] hl',zl8,qbg,qbk]
def zjY(cs ss:List Nat)(i m:Nat):List (Int×Int×List Int):=(List.range' i m).map fun j:Nat=>((j:Int),((dot (dig cs j) ss:Nat):Int),iL (dig cs j))
theorem ztL{cs ss:List Nat}(hc:∀ c∈cs,1≤c∧c≤8)(hl:cs.length≤12)(hp:zad cs≤4096)(hs:ss.length=cs.length)(hsm:∀ s∈ss,s≤4096):∀(m i n:Nat),i+(m+1)=zad cs→m<n →
  ztn (iL cs) (iL ss) n (iL (dig cs i)) (i:Int) ((dot (dig cs i) ss:Nat):Int)=some (zjY cs ss i (m+1))
 | m,i,0,_,h=>absurd h (qaw _)
 | m,i,n+1,hi,hn=>by
  have hb:=ze9 hc (show i<zad cs by omega);obtain⟨r,h1,h2⟩:=znC cs.length (dig cs i) cs ss [] [] [] 0 (zhs _ _) rfl hs hb hsm hl (by omega);simp only[qa1,qbk]at h1 h2;unfold ztn;rw[zaG,h1,qaa];rw[zmw hc (show i<zad cs by omega)]at h2;cases m with
  | zero=>
   rw[if_neg (by omega)]at h2;simp only at h2;rw[h2];rfl
  | succ m=>
   rw[if_pos (by omega)]at h2;simp only at h2;obtain⟨j,v,st,g1,g2,g3,g4,g5⟩:=h2;rw[g1,show decide ((j:Int)<0)=false from decide_eq_false (by omega),cond_false,g2,qaa,g3,qaa,g4,qaa,g5,zaF (by omega),ztL hc hl hp hs hsm m (i+1) n (by omega) (by omega)];rfl
theorem zp9(cs:List Nat):∀ a:Nat,(iL cs).foldl (· * ·) (a:Int)=((a * zad cs:Nat):Int):=by
 induction cs with
 | nil=>intro a; simp[iL,zad]
 | cons c cs ih=>
  intro a;show(iL cs).foldl (· * ·) ((a:Int)* (c:Int))=_;rw[← qa0,ih,qb0];rfl
theorem zpy{cs ss:List Nat}(hc:∀ c∈cs,1≤c∧c≤8)(hl:cs.length≤12)(hp:zad cs≤4096)(hs:ss.length=cs.length)(hsm:∀ s∈ss,s≤4096):zqY (iL cs) (iL ss)=some (zjY cs ss 0 (zad cs)):=by
 have hpos:=zbs hc;unfold zqY znB;rw[if_pos (by rw[zaG]; omega),qaa,zaG,zdj (by omega),qaa];have h:=zp9 cs 1;rw[show((1:Nat):Int)=1 from rfl]at h;rw[h,qbD,qaC];obtain⟨m,hm⟩:∃ m,zad cs=m+1:=⟨zad cs - 1,by omega⟩;have e:=ztL hc hl hp hs hsm m 0 (m+1) (by omega) (by omega);have hz:∀(n:Nat) (ss:List Nat),dot (List.replicate n 0) ss=0:=by
  intro n;induction n with
  | zero=>intro ss; simp[dot]
  | succ n ih=>
   intro ss;cases ss with
   | nil=>simp[qaX,dot]
   | cons s ss=>simp[qaX,dot,ih]
 rw[zhm,hz,zeb]at e;rw[hm];exact e
theorem ztD(k:Nat):decide ((0:Int)≤(k:Int))=true:=decide_eq_true (qbK k)
theorem pred_succ(k:Nat):((k+1:Nat):Int) - 1=(k:Int):=by omega
theorem zrE:∀(k n:Nat) (xs cx cy zs:List Nat),xs.length=k→cx.length=k→zcU cx xs→k<n→k≤12 →
  zdh (iL (cx ++ cy)) n ((k:Int) - 1) (iL (xs ++ zs))=some (match nxt cx xs with | some xs'=>.ret (iL (xs' ++ zs),true)| none=>.go (iL (List.replicate k 0 ++ zs)))
 | k,0,_,_,_,_,_,_,_,h,_=>absurd h (qaw _)
 | 0,n+1,xs,cx,cy,zs,hx,hc,_,_,_=>by
  obtain rfl:xs=[]:=qaz.1 hx;obtain rfl:cx=[]:=qaz.1 hc;rfl
 | k+1,n+1,xs,cx,cy,zs,hx,hc,hb,hn,hk=>by
  obtain⟨xs,x,rfl,lx⟩:=zhy hx;obtain⟨cx,c,rfl,lc⟩:=zhy hc;obtain⟨hb1,hb2,hb3⟩:=hb.snoc (lx.trans lc.symm);simp only[qaM,qaD];unfold zdh;rw[pred_succ,ztD,cond_true,zcy lx,qaa,zaF (by omega),zdJ lx,qaa,zcy lc,qaa,zrv];by_cases h1:x+1<c
  ·rw[decide_eq_true h1,cond_true,zf5 (lx.trans lc.symm) h1];simp
  rw[decide_eq_false h1,cond_false,show(0:Int)=((0:Nat):Int)from rfl,zdJ lx,qaa,zdG (by omega) (by omega),zrE k n xs cx (c :: cy) (0 :: zs) lx lc hb1 (by omega) (by omega),zff (lx.trans lc.symm) h1];cases nxt cx xs with
  | none=>simp[qb2]
  | some xs'=>simp
theorem zuf{cs xs:List Nat}(hb:zcU cs xs)(hl:cs.length≤12):zew (iL cs) (iL xs)=some (match nxt cs xs with | some xs'=>(iL xs',true)| none=>(iL (List.replicate cs.length 0),false)):=by
 have hlen:=hb.len;unfold zew;rw[zjE (by rw[zaG]; omega),qaa,zaG,zdG (by omega) (by omega)];have h:=zrE cs.length (cs.length+1) xs cs [] [] hlen rfl hb (by omega) hl;simp only[qa1]at h;rw[hlen,show((cs.length:Int) - 1 - 0+2).toNat=cs.length+1 by omega,h,qaa];cases nxt cs xs<;>rfl
theorem zue{cs:List Nat}(hc:∀ c∈cs,1≤c∧c≤8)(hl:cs.length≤12)(hp:zad cs≤4096):∀(m i n:Nat) (acc:List (List Int)),i+(m+1)=zad cs→acc.length≤i→m+1<n →
  zdc (iL cs) n (iL (dig cs i)) true acc=some (acc ++ (List.range' i (m+1)).map fun j:Nat=>iL (dig cs j))
 | m,i,0,_,_,_,h=>absurd h (qaw _)
 | m,i,n+1,acc,hi,ha,hn=>by
  have hb:=ze9 hc (show i<zad cs by omega);unfold zdc;rw[cond_true,zqe (by simp; omega),qaa,zuf hb hl,qaa,zmw hc (show i<zad cs by omega)];cases m with
  | zero=>
   rw[if_neg (by omega)];obtain⟨n,rfl⟩:∃ k,n=k+1:=⟨n - 1,by omega⟩;simp only;unfold zdc;rw[cond_false];rfl
  | succ m=>
   rw[if_pos (by omega)];simp only;rw[zue hc hl hp m (i+1) n _ (by omega) (by simp; omega) (by omega),qaM];rfl
def zrW(cs:List Nat):List (List Int):=(List.range' 0 (zad cs)).map fun j:Nat=>iL (dig cs j)
theorem zj1(cs:List Nat):(zrW cs).length=zad cs:=by simp[zrW]
theorem zrj{cs:List Nat}{i:Nat}(h:i<zad cs):za4 (zrW cs) (i:Int)=some (iL (dig cs i)):=by
 rw[zng,zrW,qa7,List.getElem?_range' h];simp
theorem zu1{cs:List Nat}(hc:∀ c∈cs,1≤c∧c≤8)(hl:cs.length≤12)(hp:zad cs≤4096):zfr 5000 (iL cs)=some (zrW cs):=by
 have hpos:=zbs hc;obtain⟨m,hm⟩:∃ m,zad cs=m+1:=⟨zad cs - 1,by omega⟩;unfold zfr zrW;have e:=zue hc hl hp m 0 5000 [] (by omega) (qah _) (by omega);rw[zhm,zeb]at e;rw[zaG,zdj (by omega),qaa,e,qaa,hm];rfl
theorem zjL{cs:List Nat}(hc:∀ c∈cs,1≤c)(hp:zad cs≤4096):∀ s∈zaS cs,s≤4096:=by
 induction cs with
 | nil=>intro s hs; cases hs
 | cons c cs ih=>
  have h1:=hc c qay;have h2:zad cs≤4096:=qau (qcb (zad cs) h1) hp;intro s hs;rcases qaJ.1 hs with rfl | hs
  ·exact h2
  exact ih (fun d hd=>hc d (qal _ hd)) h2 s hs
theorem zcU.drop:∀ {cs xs:List Nat} (k:Nat),zcU cs xs→zcU (cs.drop k) (xs.drop k)
 | cs,xs,0,h=>h
 | [],[],k+1,_=>trivial
 | c :: cs,x :: xs,k+1,h=>h.2.2.drop k
theorem znd{cs ds:List Nat}(hb:zcU cs ds)(hc:∀ c∈cs,1≤c)(hp:zad cs≤4096)(hl:cs.length≤12):∀(k n:Nat),k≤cs.length→k<n →
  zch (iL ds) (iL cs) n ((dot (ds.drop k) (zaS (cs.drop k)):Nat):Int) ((zad (cs.drop k):Nat):Int) ((k:Int) - 1)=some ((dot ds (zaS cs):Nat):Int)
 | k,0,_,h=>absurd h (qaw _)
 | 0,n+1,_,_=>by
  unfold zch;rw[show decide ((0:Int)≤((0:Nat):Int) - 1)=false from rfl,cond_false];rfl
 | k+1,n+1,hk,hn=>by
  have hlen:=hb.len;have hk1:k<cs.length:=hk;have hk2:k<ds.length:=by omega
  have e1:ds.drop k=ds[k]:: ds.drop (k+1):=qam hk2;have e2:cs.drop k=cs[k]:: cs.drop (k+1):=qam hk1;have h1:=zc3 hc k;have h2:=zc3 hc (k+1);have h3:=zo7 (hb.drop k) (zjL (cs:=cs.drop k) (fun c h=>hc c (qbO h)) (by omega));have h4:(cs.drop k).length * 32768≤12 * 32768:=qap _ (by simp; omega);have h5:dot (ds.drop k) (zaS (cs.drop k))=ds[k] * zad (cs.drop (k+1))+dot (ds.drop (k+1)) (zaS (cs.drop (k+1))):=by rw[e1,e2]; rfl
  have h6:zad (cs.drop k)=cs[k] * zad (cs.drop (k+1)):=by rw[e2]; rfl
  unfold zch
  rw[pred_succ,ztD,cond_true,zbK hk2,qaa,zbK hk1,qaa,← qa0,zbW (by omega),← Int.natCast_add,zbW (by omega),← qa0,zbW (by rw[qba]; omega),zdG (by omega) (by omega),
   show dot (ds.drop (k+1)) (zaS (cs.drop (k+1)))+ds[k] * zad (cs.drop (k+1))=dot (ds.drop k) (zaS (cs.drop k)) by omega,show zad (cs.drop (k+1))* cs[k]=zad (cs.drop k) by rw[h6,qba]]
  exact znd hb hc hp hl k n (by omega) (by omega)
theorem zsw{cs ds:List Nat}(hb:zcU cs ds)(hc:∀ c∈cs,1≤c)(hp:zad cs≤4096)(hl:cs.length≤12):zda (iL cs) (iL ds)=some ((dot ds (zaS cs):Nat):Int):=by
 have hlen:=hb.len;unfold zda;have h:=znd hb hc hp hl cs.length (cs.length+1) (qah _) (by omega);rw[qaF,qbh (by omega)]at h;rw[show((zad []:Nat):Int)=1 from rfl,show((dot [] (zaS []):Nat):Int)=0 from rfl]at h;rw[zaG,zdG (by omega) (by omega),show((cs.length:Int) - 1 - 0+2).toNat=cs.length+1 by omega,h];rfl
theorem zrD:∀ {cs ds:List Nat},zcU cs ds→dot ds (zaS cs)<zad cs
 | [],[],_=>by simp[dot,zad]
 | c :: cs,d :: ds,h=>by
  have h1:=zrD h.2.2;show d * zad cs+dot ds (zaS cs)<c * zad cs;have h2:(d+1)* zad cs≤c * zad cs:=qap _ h.1;rw[qaL,qbD]at h2;omega
theorem zoM:∀ {cs:List Nat} {i:Nat},(∀ c∈cs,1≤c∧c≤8)→i<zad cs→dot (dig cs i) (zaS cs)=i
 | [],i,_,h=>by
  have:i=0:=by simpa [zad]using h
  subst this; rfl
 | c :: cs,i,hc,h=>by
  have hp:=zbs fun d hd=>hc d (qal c hd)
  show i / zad cs * zad cs+dot (dig cs (i % zad cs)) (zaS cs)=i;rw[zoM (fun d hd=>hc d (qal c hd)) (qbv _ hp),qba];exact qbH i (zad cs)
def stp:List Nat→List Nat→Nat→Nat
 | v :: vs,_ :: cs,u=>bif v == u then zad cs else stp vs cs u
 | _,_,_=>0
def at_:List Nat→List Nat→Nat→Nat
 | v :: vs,d :: ds,u=>bif v == u then d else at_ vs ds u
 | _,_,_=>0
theorem zjq:∀ {vs cs:List Nat} {u:Nat},vs.length=cs.length→stp vs cs u=(match pos vs u with | none=>0 | some k=>(zaS cs).getD k 0)
 | [],_,u,_=>by simp[stp,pos]
 | v :: vs,[],_,h=>by simp at h
 | v :: vs,c :: cs,u,h=>by
  have ih:=zjq (u:=u) (show vs.length=cs.length by simpa using h);unfold stp pos;cases hb:(v == u)with
  | true=>rfl
  | false=>
   rw[cond_false,cond_false,ih];cases pos vs u with
   | none=>rfl
   | some k=>simp[zaS]
theorem zqg{f:Fc}(hf:FcOk f){vs:List Nat}(hl:vs.length≤100):∀(n i:Nat),i≤vs.length→vs.length - i<n →
  za6 (iL vs) f.T n (i:Int) (iL ((vs.map (stp f.vs f.cs)).take i ++ List.replicate (vs.length - i) 0))=some (iL (vs.map (stp f.vs f.cs)))
 | 0,_,_,h=>absurd h (qaw _)
 | n+1,i,hi,hn=>by
  unfold za6;rw[zaG];rcases qaQ i vs.length with h3 | h3
  ·have ih:=zqg hf hl n (i+1) h3 (by omega);have ht:((vs.map (stp f.vs f.cs)).take i).length=i:=by simp; omega
   have e:List.replicate (vs.length - i) 0=0 :: List.replicate (vs.length - (i+1)) 0:=by
    rw[show vs.length - i=(vs.length - (i+1))+1 by omega,qaX]
   have e2:(vs.map (stp f.vs f.cs)).take (i+1)=(vs.map (stp f.vs f.cs)).take i ++ [stp f.vs f.cs vs[i]]:=by
    rw[qbM (by simpa using h3)]; simp
   rw[e2,qaM,qaD]at ih;rw[zjm h3,cond_true,zbK h3,qaa,zeQ hf,qaa,zbV,zud,e];rw[zjq hf.len]at ih;cases hp:pos f.vs vs[i]with
   | none=>
    rw[hp]at ih;rw[Option.isSome_none,cond_false,qaa,zaF (by omega)];exact ih
   | some k=>
    rw[hp]at ih;obtain⟨hk,_⟩:=zeP hp;rw[Option.isSome_some,cond_true,show ixZ (some k)=(k:Int)from rfl,show f.T.steps=iL (zaS f.cs)from rfl,zc2 (by rw[zfF,← hf.len]; exact hk),qaa,zcy ht,qaa,zdJ ht,qaa,qaa,zaF (by omega)];exact ih
  obtain rfl:i=vs.length:=by omega
  rw[zjv,cond_false,Nat.sub_self,qbG,qa1,qaG (by simp)]
theorem zsS{f:Fc}(hf:FcOk f){vs:List Nat}(hl:vs.length≤100):zaL f.T (iL vs)=some (iL (vs.map (stp f.vs f.cs))):=by
 unfold zaL;have h:=zqg hf hl (vs.length+2) 0 (qaO _) (by omega);rw[qbE,qaT,qci,zeb,show((0:Nat):Int)=0 from rfl]at h;rw[zaG,zdj (by omega),qaa,zbq,h];rfl
theorem zpF(g h:Nat→Nat):∀(ds vs:List Nat),dot ds (vs.map fun v=>g v+h v)=dot ds (vs.map g)+dot ds (vs.map h)
 | [],_=>by simp[dot]
 | d :: ds,[]=>by simp[dot]
 | d :: ds,v :: vs=>by
  simp only[qax,dot,zpF g h ds vs,Nat.mul_add];omega
theorem zkj:∀(ds vs:List Nat) (g:Nat→Nat),(∀ v∈vs,g v=0)→dot ds (vs.map g)=0
 | [],_,_,_=>by simp[dot]
 | d :: ds,[],_,_=>by simp[dot]
 | d :: ds,v :: vs,g,h=>by
  simp only[qax,dot,h v qay,Nat.mul_zero,zkj ds vs g fun u hu=>h u (qal _ hu)]
theorem zpe{u p:Nat}:∀ {vs ds:List Nat},vs.Nodup→dot ds (vs.map fun v=>bif u == v then p else 0)=at_ vs ds u * p
 | [],ds,_=>by cases ds<;>simp[dot,at_]
 | v :: vs,[],_=>by simp[dot,at_]
 | v :: vs,d :: ds,h=>by
  obtain⟨h1,h2⟩:=qbs.1 h;simp only[qax,dot,at_];by_cases hb:u=v
  ·subst hb;rw[beq_self_eq_true,cond_true,cond_true,zkj ds vs _ (fun w hw=>by rw[show(u == w)=false from beq_false_of_ne (fun e=>h1 (e ▸ hw))]; rfl),qbk]
  rw[show(u == v)=false from beq_false_of_ne hb,show(v == u)=false from beq_false_of_ne (fun e=>hb e.symm),cond_false,cond_false,zpe h2,Nat.mul_zero,qaU]
theorem zo4:∀ {us cs:List Nat} {u:Nat},u ∉ us→stp us cs u=0
 | [],_,_,_=>by simp[stp]
 | v :: us,[],_,_=>by simp[stp]
 | v :: us,c :: cs,u,h=>by
  unfold stp;rw[show(v == u)=false from beq_false_of_ne (fun e=>h (by rw[e]; exact qay)),cond_false,zo4 fun hm=>h (qal _ hm)]
theorem zpU{vs ds:List Nat}(hv:vs.Nodup):∀ {us cs:List Nat},us.length=cs.length→us.Nodup→dot ds (vs.map (stp us cs))=dot (us.map (at_ vs ds)) (zaS cs)
 | [],cs,_,_=>by
  rw[zkj ds vs _ fun v _=>by simp[stp]];simp[dot]
 | u :: us,[],h,_=>by simp at h
 | u :: us,c :: cs,h,hn=>by
  obtain⟨h1,h2⟩:=qbs.1 hn;have e:vs.map (stp (u :: us) (c :: cs))=vs.map fun v=>(bif u == v then zad cs else 0)+stp us cs v:=by
   refine List.map_congr_left fun v _=>?_
   rw[show stp (u :: us) (c :: cs) v=bif u == v then zad cs else stp us cs v from rfl];cases hb:(u == v)with
   | true=>
    have:u=v:=by simpa using hb
    subst this;rw[cond_true,cond_true,zo4 h1]; rfl
   | false=>
    rw[cond_false,cond_false,qaU]
  rw[e,zpF,zpe hv,zpU hv (by simpa using h) h2];rfl
theorem zce{vs:List Nat}(h:vs.Pairwise (· < ·)):vs.Nodup:=h.imp fun h=>Nat.ne_of_lt h
def Sub(vs ws:List Nat):List Nat→List Nat→Prop
 | [],[]=>True
 | u :: us,c :: cs=>(u∈vs∧at_ vs ws u=c)∧Sub vs ws us cs
 | _,_=>False
theorem znD:∀ {vs ws ds:List Nat} {u:Nat},vs.length=ws.length→zcU ws ds→u∈vs→at_ vs ds u<at_ vs ws u∧at_ vs ws u≤8
 | v :: vs,w :: ws,d :: ds,u,hl,hb,hm=>by
  unfold at_;by_cases h:v=u
  ·subst h;rw[beq_self_eq_true,cond_true,cond_true];exact⟨hb.1,hb.2.1⟩
  ·rw[show(v == u)=false from beq_false_of_ne h,cond_false,cond_false];rcases qaJ.1 hm with e | hm
   ·exact absurd e.symm h
   ·exact znD (by simpa using hl) hb.2.2 hm
 | [],_,_,_,_,_,hm=>by cases hm
 | v :: vs,[],_,_,hl,_,_=>by simp at hl
 | v :: vs,w :: ws,[],_,_,hb,_=>hb.elim
theorem Sub.below{vs ws ds:List Nat}(hl:vs.length=ws.length)(hb:zcU ws ds):∀ {us cs:List Nat},Sub vs ws us cs→zcU cs (us.map (at_ vs ds))
 | [],[],_=>trivial
 | u :: us,c :: cs,⟨⟨h1,h2⟩,h3⟩=>by
  have:=znD hl hb h1;rw[h2]at this;exact⟨this.1,this.2,Sub.below hl hb h3⟩
 | [],_ :: _,h=>h.elim
 | _ :: _,[],h=>h.elim
def Fc.at(f:Fc)(vs ds:List Nat):Nat:=f.ws.getD (dot (f.vs.map (at_ vs ds)) (zaS f.cs)) 0
theorem zgT(u d:Nat)(us ds:List Nat)(v:Nat):at_ (u :: us) (d :: ds) v=bif u == v then d else at_ us ds v:=rfl
theorem zp5:∀ {vs ds:List Nat} {v k:Nat},pos vs v=some k→at_ vs ds v=ds.getD k 0
 | [],_,_,_,h=>by cases h
 | u :: us,[],v,k,_=>by simp[at_]
 | u :: us,d :: ds,v,k,h=>by
  rw[zgT];rw[show pos (u :: us) v=bif u == v then some 0 else(pos us v).map (· + 1)from rfl]at h;cases hb:(u == v)with
  | true=>rw[hb,cond_true]at h; cases h; rw[cond_true]; rfl
  | false=>
   rw[hb,cond_false]at h;cases hp:pos us v with
   | none=>rw[hp]at h; cases h
   | some j=>rw[hp]at h; cases h; rw[cond_false,zp5 hp]; rfl
theorem zlJ{xs:List Nat}{v:Nat}(h:xs.length≤100000):zeZ 8 (iL xs) [(v:Int)]=some (iL (xs ++ [v])):=by
 rw[zqe (by rw[zaG]; simp; omega),zoY]; rfl
theorem zi3{f:Fc}(hf:FcOk f){v k:Nat}(hp:pos f.vs v=some k):za4 f.D.cards (ixZ (some k))=some ((at_ f.vs f.cs v:Nat):Int):=by
 obtain⟨hk,_⟩:=zeP hp;show za4 (iL f.cs) (k:Int)=_;rw[zc2 (by rw[← hf.len]; exact hk),zp5 hp]
theorem zqm:∀ {a b:List Nat},a.Pairwise (· < ·)→b.Pairwise (· < ·)→(∀ x,x∈a↔x∈b)→a=b
 | [],[],_,_,_=>rfl
 | [],b :: bs,_,_,h=>by have:=(h b).2 qay; simp at this
 | a :: xs,[],_,_,h=>by have:=(h a).1 qay; simp at this
 | a :: xs,b :: bs,ha,hb,h=>by
  obtain⟨ha1,ha2⟩:=qa9.1 ha;obtain⟨hb1,hb2⟩:=qa9.1 hb;have e:a=b:=by
   rcases qaJ.1 ((h a).1 qay)with h1 | h1
   ·exact h1
   rcases qaJ.1 ((h b).2 qay)with h2 | h2
   ·exact h2.symm
   have:=hb1 a h1; have:=ha1 b h2; omega
  subst e;refine congrArg (a :: ·) (zqm ha2 hb2 fun x=>⟨fun hx=>?_,fun hx=>?_⟩)
  ·rcases qaJ.1 ((h x).1 (qal _ hx))with rfl | h1
   ·have:=ha1 x hx; omega
   exact h1
  rcases qaJ.1 ((h x).2 (qal _ hx))with rfl | h1
  ·have:=hb1 x hx; omega
  exact h1
section
variable {s:List Int}
end
abbrev noF:S_api_Factor:=⟨[],[],[]⟩
structure Dom (u c:List Nat):Prop where
 len:u.length=c.length
 nodup:u.Nodup
 card:∀ x∈c,1≤x∧x≤8
 le:c.length≤12
 prod:zad c≤4096
theorem zg1(c ss:List Nat)(i m:Nat):zjY c ss i (m+1)=((i:Int),((dot (dig c i) ss:Nat):Int),iL (dig c i)):: zjY c ss (i+1) m:=by
 unfold zjY;rw[qbU,qax]
theorem zrL{h:Nat→Nat}{v:Nat}:∀ {us:List Nat},v∈us→at_ us (us.map h) v=h v
 | [],hm=>by simp at hm
 | u :: us,hm=>by
  rw[qax,zgT];cases hb:(u == v)with
  | true=>rw[cond_true]; rw[beq_iff_eq]at hb; rw[hb]
  | false=>
   rw[cond_false];rcases qaJ.1 hm with e | e
   ·rw[e]at hb; simp at hb
   exact zrL e
theorem zrB:∀ {vs ds:List Nat} {i:Nat} (hn:vs.Nodup) (h:i<vs.length),at_ vs ds vs[i]=ds.getD i 0
 | v :: vs,[],i,_,_=>by simp[at_]
 | v :: vs,d :: ds,0,_,_=>by rw[zgT]; simp
 | v :: vs,d :: ds,i+1,hn,h=>by
  obtain⟨h1,h2⟩:=qbs.1 hn;have hi:i<vs.length:=by simpa using h
  rw[zgT,show(v :: vs)[i+1]=vs[i]from rfl,show(v == vs[i])=false from beq_false_of_ne (fun e=>h1 (e ▸ qa4 hi)),cond_false,zrB h2 hi];rfl
theorem zrQ{vs ds:List Nat}(hn:vs.Nodup)(hl:vs.length=ds.length):vs.map (at_ vs ds)=ds:=by
 refine List.ext_getElem (by simpa using hl) fun i h1 h2=>?_
 rw[List.getElem_map,zrB hn (by simpa using h1),qaY,qaf h2];rfl
theorem zrx{vs ws:List Nat}:∀ {us cs:List Nat},us.length=cs.length→us.Nodup→(∀ u∈us,u∈vs∧at_ vs ws u=at_ us cs u)→Sub vs ws us cs
 | [],[],_,_,_=>trivial
 | [],c :: cs,h,_,_=>by simp at h
 | u :: us,[],h,_,_=>by simp at h
 | u :: us,c :: cs,hl,hn,h=>by
  obtain⟨h1,h2⟩:=qbs.1 hn;refine⟨⟨(h u qay).1,?_⟩,zrx (by simpa using hl) h2 fun x hx=>⟨(h x (qal _ hx)).1,?_⟩⟩
  ·rw[(h u qay).2,zgT,beq_self_eq_true,cond_true]
  rw[(h x (qal _ hx)).2,zgT,show(u == x)=false from beq_false_of_ne (fun e=>h1 (e ▸ hx)),cond_false]
theorem zhI(a b:List Int):zba a b=some (a,b):=by rfl
end Go.Dc
