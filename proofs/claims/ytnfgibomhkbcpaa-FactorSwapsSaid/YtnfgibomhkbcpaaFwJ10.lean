/-
 Plain laws: numbers and sets of bits. Conditions: none.
-/
import Derived.Test.YtnfgibomhkbcpaaFwJ6
set_option linter.unusedSimpArgs false
set_option linter.unusedVariables false
namespace Go.Dc
open Go Go.Mx Go.Lx
theorem zcW{n:Nat}(h:n<9223372036854775808):w64 (n:Int)=(n:Int):=wrap64 (by omega) (by omega)
theorem zei{n:Int}(h1:-9223372036854775808≤n)(h2:n<9223372036854775808):w64 n=n:=wrap64 h1 h2
theorem zbr{n:Nat}(h:n+1<9223372036854775808):w64 ((n:Int)+1)=((n+1:Nat):Int):=by
 rw[zei (by omega) (by omega)]; omega
theorem zte(n:Nat):IntKind.u64.wrap (n:Int)=((n % 18446744073709551616:Nat):Int):=by
 simp only[IntKind.wrap,IntKind.bits,IntKind.signed]; simp
theorem zpg{n:Nat}(h:n<18446744073709551616):IntKind.u64.wrap (n:Int)=(n:Int):=by
 rw[zte,qbq h]
theorem ztF(a v:Nat):((a >>> v) &&& 1)=(a.testBit v).toNat:=by
 rw[Nat.and_one_is_mod,Nat.testBit_eq_decide_div_mod_eq,qb0];have h:=Nat.mod_two_eq_zero_or_one (a / 2 ^ v);rcases h with h | h<;>simp[h]
variable {α:Type}
theorem zpU{xs:List α}{i:Nat}:zbl xs (i:Int)=xs[i]?:=by
 unfold zbl;rw[if_pos (qb8 i),qaE]
theorem zbQ{xs:List α}{i:Nat}(h:i<xs.length):zbl xs (i:Int)=some (xs[i]'h):=by
 rw[zpU,qaf h]
theorem zi6{xs:List α}{i:Nat}{v:α}(h:i<xs.length):zgj xs (i:Int) v=some (xs.set i v):=by
 unfold zgj;rw[if_pos (by omega),qaE]
theorem zrp{b:Nat}{xs ys:List α}(h:(xs.length+ys.length)* b≤70368744177664):zgv b xs ys=some (xs ++ ys):=by
 unfold zgv;rw[if_pos (by simp only[zap]; omega)]
theorem zep{b n:Nat}{z:α}(h:n * b≤70368744177664):zd7 b (n:Int) z=some (List.replicate n z):=by
 have h2:(n:Int)* (b:Int)≤zap:=by
  rw[← qa7]; simp only[zap]; omega
 unfold zd7;rw[if_pos ⟨qb8 n,h2⟩,qaE]
theorem zl5{b:Nat}{xs:List α}(h:xs.length * b≤70368744177664):zcP b xs=some xs:=by
 unfold zcP;rw[if_pos (by simp only[zap]; omega)]
theorem zqn{i n:Nat}:decide ((i:Int)<(n:Int))=decide (i<n):=by simp
theorem zda(n:Nat):((n:Int) - 0+2).toNat=n+2:=by omega
def iL(xs:List Nat):List Int:=xs.map (fun x:Nat=>(x:Int))
theorem zbf(xs:List Nat):(iL xs).length=xs.length:=by simp[iL]
theorem zp0{xs:List Nat}{i:Nat}(h:i<xs.length):(iL xs)[i]'(by rw[zbf]; exact h)=((xs[i]:Nat):Int):=by simp[iL]
theorem zds{xs:List Nat}{i:Nat}(h:i<xs.length):zbl (iL xs) (i:Int)=some ((xs[i]:Nat):Int):=by
 rw[zbQ (by rw[zbf]; exact h),zp0 h]
def zai(xs:List Nat):Nat:=xs.foldr (· * ·) 1
theorem zjy{xs:List Nat}(h:∀ x∈xs,1≤x):1≤zai xs:=by
 induction xs with
 | nil=>exact qai 1
 | cons x xs ih=>exact qbB (h x qaw) (ih fun y hy=>h y (qal _ hy))
theorem zpO{i n:Nat}(h:i<n):decide ((i:Int)<(n:Int))=true:=decide_eq_true (by omega)
theorem zpn(n:Nat):decide ((n:Int)<(n:Int))=false:=decide_eq_false (by omega)
abbrev ze2:Nat:=4611686018427387903
def zeb:Nat→List Int→Bool
 | _,[]=>true
 | a,c :: cs=>decide (1≤c) && decide (c≤8) && decide (a * c.toNat≤4096) && zeb (a * c.toNat) cs
theorem zib:∀ {cs:List Int} {a:Nat},zeb a cs=true→∃ ns:List Nat,cs=iL ns∧(∀ c∈ns,1≤c∧c≤8)∧(a≤4096→a * zai ns≤4096)
 | [],a,_=>⟨[],rfl,by simp,fun h=>by simpa [zai]using h⟩
 | c :: cs,a,h=>by
  simp only[zeb,qag,decide_eq_true_eq]at h;obtain⟨⟨⟨h1,h2⟩,h3⟩,h4⟩:=h;obtain⟨ns,e,g1,g2⟩:=zib h4;refine⟨c.toNat :: ns,?_,?_,fun _=>?_⟩
  ·rw[e]; simp[iL]; omega
  ·intro d hd;rcases qaM.1 hd with rfl | hd
   ·omega
   exact g1 d hd
  have:=g2 h3;show a * (c.toNat * zai ns)≤4096;rw[← qbW]; exact this
theorem zhg:∀ {ns:List Nat} {a:Nat},(∀ c∈ns,1≤c∧c≤8)→a * zai ns≤4096→zeb a (iL ns)=true
 | [],a,_,_=>rfl
 | n :: ns,a,h,hp=>by
  have h1:=h n qaw;have hp':a * n * zai ns≤4096:=by rw[qbW]; exact hp
  have hpos:1≤zai ns:=zjy fun x hx=>(h x (qal _ hx)).1
  have hle:a * n≤4096:=qap (qbm _ hpos) hp';show(decide ((1:Int)≤(n:Int)) && decide ((n:Int)≤8) && decide (a * (n:Int).toNat≤4096) && zeb (a * (n:Int).toNat) (iL ns))=true;rw[qaE,zhg (fun c hc=>h c (qal _ hc)) hp',decide_eq_true (by omega),decide_eq_true (by omega),decide_eq_true hle];rfl
def zeS:List Int→Nat
 | []=>1
 | c :: cs=>c.toNat * zeS cs
theorem zfP(ns:List Nat):zeS (iL ns)=zai ns:=by
 induction ns with
 | nil=>rfl
 | cons n ns ih=>show(n:Int).toNat * zeS (iL ns)=n * zai ns; rw[ih,qaE]
theorem zok(cs:List Int)(hl:cs.length≤12):∀(n i:Nat) (a:Nat),a≤4096→i≤cs.length→cs.length - i<n→zbS cs n ((a:Nat):Int) (i:Int)=some (bif zeb a (cs.drop i)then(((a * zeS (cs.drop i):Nat):Int),true)else(0,false))
 | 0,_,_,_,_,h=>absurd h (qaR _)
 | n+1,i,a,ha,hi,hn=>by
  unfold zbS;rcases qaY i cs.length with h3 | h3
  ·rw[zpO h3,cond_true,zbQ h3,qad,qaq h3];generalize cs[i]=c;simp only[zeb,zeS];by_cases h1:c<1
   ·rw[decide_eq_true h1,cond_true,qad,cond_true,decide_eq_false (show ¬ 1≤c by omega)];rfl
   rw[decide_eq_false h1,cond_false,decide_eq_true (show 1≤c by omega)];by_cases h2:8<c
   ·rw[decide_eq_true h2,cond_true,qad,cond_true,decide_eq_false (show ¬ c≤8 by omega)];rfl
   rw[decide_eq_false h2,cond_false,decide_eq_true (show c≤8 by omega)];obtain⟨m,rfl⟩:∃ m:Nat,c=(m:Int):=⟨c.toNat,by omega⟩;have hb:a * m≤4096 * 8:=qbB ha (by omega);rw[← qa7,zcW (by omega),qad,qaE];by_cases h4:a * m≤4096
   ·rw[show decide ((4096:Int)<((a * m:Nat):Int))=false from decide_eq_false (by omega),cond_false,zbr (by omega),zok cs hl n (i+1) (a * m) h4 h3 (by omega),decide_eq_true h4,qbW];rfl
   rw[show decide ((4096:Int)<((a * m:Nat):Int))=true from decide_eq_true (by omega),cond_true,decide_eq_false h4];rfl
  obtain rfl:i=cs.length:=by omega
  rw[zpn,cond_false,qaT];simp[zeb,zeS]
def zcq(cs:List Int):Bool:=decide (cs.length≤12) && zeb 1 cs
theorem zsm(cs:List Int):zcy cs=some (bif zcq cs then(((zeS cs:Nat):Int),0)else(0,20)):=by
 unfold zcy zdc zcq;by_cases hl:cs.length≤12
 ·rw[show decide ((12:Int)<(cs.length:Int))=false from decide_eq_false (by omega),cond_false,zda];have:=zok cs hl (cs.length+2) 0 1 (by omega) (qaQ _) (by omega);rw[show((1:Nat):Int)=1 from rfl,show((0:Nat):Int)=0 from rfl,qaN,qbJ]at this;rw[this,decide_eq_true hl,qbn];cases zeb 1 cs<;>rfl
 rw[show decide ((12:Int)<(cs.length:Int))=true from decide_eq_true (by omega),cond_true,decide_eq_false hl];rfl
theorem zlH(cs:List Int)(hl:cs.length≤12):∀(n i:Nat) (a:Nat),a≤4096→zeb a (cs.drop i)=true→i≤cs.length→cs.length - i<n→zcU cs n ((a:Nat):Int) (i:Int)=some (((a * zeS (cs.drop i):Nat):Int))
 | 0,_,_,_,_,_,h=>absurd h (qaR _)
 | n+1,i,a,ha,hc,hi,hn=>by
  unfold zcU;rcases qaY i cs.length with h3 | h3
  ·rw[qaq h3]at hc ⊢;rw[zpO h3,cond_true,zbQ h3,qad];simp only[zeb,zeS,qag,decide_eq_true_eq]at hc ⊢;obtain⟨⟨⟨h1,h2⟩,h4⟩,h5⟩:=hc;obtain⟨m,hm⟩:∃ m:Nat,cs[i]=(m:Int):=⟨cs[i].toNat,by omega⟩;rw[hm,qaE]at h4 h5 ⊢;rw[← qa7,zcW (by omega),zbr (by omega),zlH cs hl n (i+1) (a * m) h4 h5 h3 (by omega),qbW]
  obtain rfl:i=cs.length:=by omega
  rw[zpn,cond_false,qaT];simp[zeS]
theorem zl7{cs:List Int}(h:zcq cs=true):zdK cs=some ((zeS cs:Nat):Int):=by
 unfold zcq at h;simp only[qag,decide_eq_true_eq]at h;unfold zdK;rw[zda];have:=zlH cs h.1 (cs.length+2) 0 1 (by omega) (by rw[qaN]; exact h.2) (qaQ _) (by omega);rw[show((1:Nat):Int)=1 from rfl,show((0:Nat):Int)=0 from rfl,qaN,qbJ]at this;rw[this];rfl
def zrk:Int→List Int→Bool
 | _,[]=>true
 | l,v :: vs=>decide (l<v) && decide (v≤63) && zrk v vs
def zqO:List Int→Bool
 | []=>true
 | w :: ws=>decide (0≤w) && decide (w≤4611686018427387903) && zqO ws
def zsL(x:S_api_Factor):Bool:=zcq x.zae && decide (x.vars.length=x.zae.length) && decide (x.w.length=zeS x.zae) && zrk (-1) x.vars && zqO x.w
def zbK:List Nat→List Nat
 | []=>[]
 | _ :: cs=>zai cs :: zbK cs
abbrev noT:S_factor_table×Int:=(⟨⟨[],[],[]⟩,[]⟩,30)
theorem zoa(x:S_api_Factor)(hl:x.vars.length≤12):∀(n i:Nat) (l:Int),i≤x.vars.length→x.vars.length - i<n→zbW x n l (i:Int)=some (bif zrk l (x.vars.drop i)then .go ()else .ret noT)
 | 0,_,_,_,h=>absurd h (qaR _)
 | n+1,i,l,hi,hn=>by
  unfold zbW;rcases qaY i x.vars.length with h3 | h3
  ·rw[zpO h3,cond_true,zbQ h3,qad,qaq h3];generalize x.vars[i]=v;simp only[zrk];by_cases h1:v≤l
   ·rw[decide_eq_true h1,cond_true,qad,cond_true,decide_eq_false (show ¬ l<v by omega)];rfl
   rw[decide_eq_false h1,cond_false,qad,decide_eq_true (show l<v by omega)];by_cases h2:63<v
   ·rw[decide_eq_true h2,cond_true,decide_eq_false (show ¬ v≤63 by omega)];rfl
   rw[decide_eq_false h2,cond_false,decide_eq_true (show v≤63 by omega),zbr (by omega),zoa x hl n (i+1) v h3 (by omega)];rfl
  obtain rfl:i=x.vars.length:=by omega
  rw[zpn,cond_false,qaT];rfl
theorem zoM(x:S_api_Factor)(hl:x.w.length≤4096):∀(n i:Nat),i≤x.w.length→x.w.length - i<n→zbV x n (i:Int)=some (bif zqO (x.w.drop i)then .go ()else .ret noT)
 | 0,_,_,h=>absurd h (qaR _)
 | n+1,i,hi,hn=>by
  unfold zbV;rcases qaY i x.w.length with h3 | h3
  ·rw[zpO h3,cond_true,zbQ h3,qad,qaq h3];generalize x.w[i]=v;simp only[zqO];by_cases h1:v<0
   ·rw[decide_eq_true h1,cond_true,qad,cond_true,decide_eq_false (show ¬ 0≤v by omega)];rfl
   rw[decide_eq_false h1,cond_false,qad,decide_eq_true (show 0≤v by omega)];by_cases h2:4611686018427387903<v
   ·rw[decide_eq_true h2,cond_true,decide_eq_false (show ¬ v≤4611686018427387903 by omega)];rfl
   rw[decide_eq_false h2,cond_false,decide_eq_true (show v≤4611686018427387903 by omega),zbr (by omega),zoM x hl n (i+1) h3 (by omega)];rfl
  obtain rfl:i=x.w.length:=by omega
  rw[zpn,cond_false,qaT];rfl
theorem zdX{ns:List Nat}(h:∀ c∈ns,1≤c):∀ k,zai (ns.drop k)≤zai ns:=by
 induction ns with
 | nil=>intro k; simp
 | cons n ns ih=>
  intro k;cases k with
  | zero=>exact qai _
  | succ k=>
   have h1:=ih (fun c hc=>h c (qal _ hc)) k;have h2:=h n qaw;show zai (ns.drop k)≤n * zai ns;exact qap h1 (qb9 _ h2)
theorem zoD(a b:List Nat):iL (a ++ b)=iL a ++ iL b:=by simp[iL]
theorem zfv(k:Nat):iL (List.replicate k 0)=List.replicate k 0:=by simp[iL]
theorem zkN(x:S_api_Factor){ns:List Nat}(hx:x.zae=iL ns)(hc:∀ c∈ns,1≤c)(hp:zai ns≤4096)(hl:ns.length≤12):∀(k n:Nat),k≤ns.length→k<n →
  zbx x n ((zai (ns.drop k):Nat):Int) ((k:Int) - 1) (iL (List.replicate k 0 ++ zbK (ns.drop k)))=some (iL (zbK ns))
 | k,0,_,h=>absurd h (qaR _)
 | 0,n+1,_,_=>by
  unfold zbx;rw[show decide ((0:Int)≤((0:Nat):Int) - 1)=false from rfl,cond_false];rfl
 | k+1,n+1,hk,hn=>by
  have ih:=zkN x hx hc hp hl k n (by omega) (by omega);have hk':k<ns.length:=hk;unfold zbx;have e:(((k+1:Nat):Int) - 1)=(k:Int):=by omega
  have hlen:k<(iL (List.replicate (k+1) 0 ++ zbK (ns.drop (k+1)))).length:=by rw[zbf]; simp; omega
  rw[e,show decide ((0:Int)≤(k:Int))=true from decide_eq_true (by omega),cond_true,zbQ hlen,qad,zi6 hlen,qad,hx,zds hk',qad];have hd:ns.drop k=ns[k]:: ns.drop (k+1):=qaq hk';have h1:(iL (List.replicate (k+1) 0 ++ zbK (ns.drop (k+1)))).set k ((zai (ns.drop (k+1)):Nat):Int)=iL (List.replicate k 0 ++ zbK (ns.drop k)):=by
   rw[hd,zoD,zoD,zfv,zfv,List.replicate_succ',qbs,List.set_append_right _ _ (by simp)];simp[zbK,iL]
  have h2:((zai (ns.drop (k+1)):Nat):Int)* ((ns[k]:Nat):Int)=((zai (ns.drop k):Nat):Int):=by
   rw[hd,← qa7,qbw]; rfl
  have h3:=zdX hc k;rw[h1,h2,zcW (by omega),zei (by omega) (by omega)];exact ih
def znT(xs:List Int):List Nat:=xs.map Int.toNat
theorem zfT(ns:List Nat):znT (iL ns)=ns:=by
 induction ns with
 | nil=>rfl
 | cons n ns ih=>show(n:Int).toNat :: znT (iL ns)=n :: ns; rw[ih,qaE]
theorem zhm{cs:List Int}(h:zcq cs=true):∃ ns:List Nat,cs=iL ns∧(∀ c∈ns,1≤c∧c≤8)∧zai ns≤4096∧ns.length≤12:=by
 unfold zcq at h;simp only[qag,decide_eq_true_eq]at h;obtain⟨ns,rfl,h1,h2⟩:=zib h.2;exact⟨ns,rfl,h1,by have:=h2 (by omega); omega,by have:=h.1; rw[zbf]at this; exact this⟩
theorem zso(x:S_api_Factor):zaC x=some (bif zsL x then(⟨x,iL (zbK (znT x.zae))⟩,0)else noT):=by
 unfold zaC zsL;rw[zsm,qad];cases hc:zcq x.zae with
 | false=>
  rw[cond_false];rfl
 | true=>
  obtain⟨ns,hx,h1,h2,h3⟩:=zhm hc;rw[cond_true,show(((((zeS x.zae:Nat):Int),(0:Int)).2 == 0))=true from rfl,cond_true,qbn];by_cases hv:x.vars.length=x.zae.length
  ·rw[show(((x.vars.length:Nat):Int)==((x.zae.length:Nat):Int))=true by rw[hv]; exact beq_self_eq_true _,cond_true,qad,decide_eq_true hv,qbn];by_cases hw:x.w.length=zeS x.zae
   ·have hw':x.w.length≤4096:=by rw[hw,hx,zfP]; exact h2
    have hl:x.vars.length≤12:=by rw[hv,hx,zbf]; exact h3
    rw[show(!(((x.w.length:Nat):Int)==((zeS x.zae:Nat):Int)))=false by rw[hw,beq_self_eq_true]; rfl,cond_false,decide_eq_true hw,qbn,zda,zda];have e1:=zoa x hl (x.vars.length+2) 0 (-1) (qaQ _) (by omega);have e2:=zoM x hw' (x.w.length+2) 0 (qaQ _) (by omega);rw[show((0:Nat):Int)=0 from rfl,qaN]at e1 e2;rw[e1,qad];cases zrk (-1) x.vars with
    | false=>rfl
    | true=>
     rw[cond_true,qbn];simp only;rw[e2,qad];cases zqO x.w with
     | false=>rfl
     | true=>
      rw[cond_true];simp only;have hlen:x.zae.length=ns.length:=by rw[hx,zbf]
      have e3:=zkN x hx (fun c hc=>(h1 c hc).1) h2 h3 ns.length (ns.length+1+1) (qai _) (by omega);rw[qaT]at e3;rw[zep (by omega),qad,qaE,hlen,zei (by omega) (by omega),show((ns.length:Int) - 1 - 0+2).toNat=ns.length+1 by omega];have e4:=zkN x hx (fun c hc=>(h1 c hc).1) h2 h3 ns.length (ns.length+1) (qai _) (by omega);rw[qaT]at e4;rw[show iL (List.replicate ns.length 0 ++ zbK [])=List.replicate ns.length 0 by simp[zbK,iL],show((zai []:Nat):Int)=1 from rfl]at e4;rw[e4,qad,cond_true,hx,zfT]
   rw[show(!(((x.w.length:Nat):Int)==((zeS x.zae:Nat):Int)))=true by rw[qbD]; exact beq_false_of_ne (by omega),cond_true,decide_eq_false hw];rfl
  rw[show(((x.vars.length:Nat):Int)==((x.zae.length:Nat):Int))=false from beq_false_of_ne (by omega),cond_false,qad,cond_true,decide_eq_false hv];rfl
structure Fc where
 vs:List Nat
 cs:List Nat
 ws:List Nat
def Fc.D(f:Fc):S_api_Factor:=⟨iL f.vs,iL f.cs,iL f.ws⟩
structure FcOk (f:Fc):Prop where
 len:f.vs.length=f.cs.length
 le:f.cs.length≤12
 zhH:∀ c∈f.cs,1≤c∧c≤8
 prod:zai f.cs≤4096
 size:f.ws.length=zai f.cs
 inc:f.vs.Pairwise (· < ·)
 var:∀ v∈f.vs,v<64
 num:∀ w∈f.ws,w≤ze2
theorem zoT:∀ {ns:List Nat} {l:Int},ns.Pairwise (· < ·)→(∀ v∈ns,v<64∧l<(v:Int))→zrk l (iL ns)=true
 | [],_,_,_=>rfl
 | n :: ns,l,h1,h2=>by
  have h3:=h2 n qaw;obtain⟨h4,h5⟩:=qbb.1 h1;show(decide (l<(n:Int)) && decide ((n:Int)≤63) && zrk (n:Int) (iL ns))=true;rw[decide_eq_true h3.2,decide_eq_true (by omega),zoT h5 fun v hv=>⟨(h2 v (qal _ hv)).1,by have:=h4 v hv; omega⟩];rfl
theorem zoK:∀ {ns:List Nat},(∀ w∈ns,w≤ze2)→zqO (iL ns)=true
 | [],_=>rfl
 | n :: ns,h=>by
  have h1:n≤4611686018427387903:=h n qaw;show(decide (0≤(n:Int)) && decide ((n:Int)≤4611686018427387903) && zqO (iL ns))=true;rw[decide_eq_true (by omega),decide_eq_true (by omega),zoK fun w hw=>h w (qal _ hw)];rfl
theorem zq6{f:Fc}(h:FcOk f):zsL f.D=true:=by
 unfold zsL Fc.D zcq;simp only[zbf];rw[decide_eq_true h.le,zhg h.zhH (by have:=h.prod; omega),decide_eq_true h.len,decide_eq_true (by rw[zfP]; exact h.size),zoT h.inc fun v hv=>⟨h.var v hv,by omega⟩,zoK h.num];rfl
def Fc.T(f:Fc):S_factor_table:=⟨f.D,iL (zbK f.cs)⟩
theorem zi9{f:Fc}(h:FcOk f):zaC f.D=some (f.T,0):=by
 rw[zso,zq6 h,cond_true,show f.D.zae=iL f.cs from rfl,zfT];rfl
def zhL:List Int→Int→Option Nat
 | [],_=>none
 | x :: xs,v=>bif x == v then some 0 else(zhL xs v).map (· + 1)
def ixZ:Option Nat→Int
 | none=>-1
 | some k=>(k:Int)
theorem zjE:∀ {xs:List Int} {v:Int} {k:Nat},zhL xs v=some k→∃ h:k<xs.length,xs[k]=v
 | x :: xs,v,k,h=>by
  unfold zhL at h;cases hb:(x == v)with
  | true=>
   rw[hb,cond_true]at h;cases h;exact⟨by simp,by simpa using hb⟩
  | false=>
   rw[hb,cond_false]at h;cases hp:zhL xs v with
   | none=>rw[hp]at h; cases h
   | some j=>
    rw[hp]at h;cases h;obtain⟨g1,g2⟩:=zjE hp;exact⟨by simp; omega,by simpa using g2⟩
theorem zkB:∀ {xs:List Int} {v:Int},zhL xs v=none→v ∉ xs
 | [],v,_=>by simp
 | x :: xs,v,h=>by
  unfold zhL at h;cases hb:(x == v)with
  | true=>rw[hb,cond_true]at h; cases h
  | false=>
   rw[hb,cond_false]at h;have h1:zhL xs v=none:=by
    cases hp:zhL xs v with
    | none=>rfl
    | some j=>rw[hp]at h; cases h
   have h2:x≠v:=by simpa using hb
   intro hm;rcases qaM.1 hm with rfl | hm
   ·exact h2 rfl
   exact zkB h1 hm
theorem znt(xs:List Int)(v:Int)(hl:xs.length<4611686018427387904):∀(n i:Nat),i≤xs.length→xs.length - i<n→zaL xs v n (i:Int)=some (match zhL (xs.drop i) v with | none=>.go ()| some k=>.ret ((i+k:Nat):Int))
 | 0,_,_,h=>absurd h (qaR _)
 | n+1,i,hi,hn=>by
  unfold zaL;rcases qaY i xs.length with h3 | h3
  ·rw[zpO h3,cond_true,zbQ h3,qad,qaq h3];generalize xs[i]=x;unfold zhL;by_cases h:v=x
   ·subst h;rw[beq_self_eq_true,cond_true,cond_true];rfl
   rw[show(v == x)=false from beq_false_of_ne h,show(x == v)=false from beq_false_of_ne (fun e=>h e.symm),cond_false,cond_false,zbr (by omega),znt xs v hl n (i+1) h3 (by omega)];cases zhL (xs.drop (i+1)) v with
   | none=>rfl
   | some k=>
    simp only[qaG];rw[show i+1+k=i+(k+1) by omega]
  obtain rfl:i=xs.length:=by omega
  rw[zpn,cond_false,qaT];rfl
theorem zqP{xs:List Int}(hl:xs.length<4611686018427387904)(v:Int):za2 xs v=some (ixZ (zhL xs v)):=by
 unfold za2;have h:=znt xs v hl (xs.length+2) 0 (qaQ _) (by omega);rw[show((0:Nat):Int)=0 from rfl,qaN]at h;rw[zda,h,qad];cases zhL xs v with
 | none=>rfl
 | some k=>simp only[qaP]; rfl
theorem FcOk.vl{f:Fc}(h:FcOk f):(iL f.vs).length<4611686018427387904:=by rw[zbf,h.len]; have:=h.le; omega
theorem zhc{f:Fc}(h:FcOk f)(v:Int):zal f.T v=some (ixZ (zhL (iL f.vs) v)):=by
 unfold zal;rw[show f.T.factor.vars=iL f.vs from rfl,zqP h.vl,qad]
theorem zqT(o:Option Nat):decide (ixZ o<(0:Int))=!o.isSome:=by
 cases o with
 | none=>rfl
 | some k=>exact decide_eq_false (by show ¬ (k:Int)<0; omega)
def pos:List Nat→Nat→Option Nat
 | [],_=>none
 | x :: xs,v=>bif x == v then some 0 else(pos xs v).map (· + 1)
theorem zc2:∀(xs:List Nat) (v:Nat),zhL (iL xs) (v:Int)=pos xs v
 | [],v=>rfl
 | x :: xs,v=>by
  show(bif ((x:Int)==(v:Int))then some 0 else(zhL (iL xs) (v:Int)).map (· + 1))=pos (x :: xs) v;rw[zc2 xs v];show _=(bif x == v then some 0 else(pos xs v).map (· + 1));cases hb:(x == v)with
  | true=>
   have:x=v:=by simpa using hb
   subst this;rw[beq_self_eq_true]
  | false=>
   have h1:x≠v:=by simpa using hb
   have h2:((x:Int)==(v:Int))=false:=beq_false_of_ne (by omega);rw[h2]
theorem zeP{xs:List Nat}{v k:Nat}(h:pos xs v=some k):∃ hk:k<xs.length,xs[k]=v:=by
 rw[← zc2]at h;obtain⟨h1,h2⟩:=zjE h;rw[zbf]at h1;refine⟨h1,?_⟩;rw[zp0 h1]at h2;omega
theorem zlS{xs:List Nat}{v:Nat}(h:pos xs v=none):v ∉ xs:=by
 rw[← zc2]at h;have:=zkB h;intro hm;exact this (qaK.2 ⟨v,hm,rfl⟩)
theorem zen{xs:List Nat}{v:Nat}(h:v∈xs):∃ k,pos xs v=some k:=by
 cases hp:pos xs v with
 | none=>exact absurd h (zlS hp)
 | some k=>exact⟨k,rfl⟩
theorem zdY{xs:List Nat}{i:Nat}(h:i<xs.length):zbl (iL xs) (i:Int)=some ((xs.getD i 0:Nat):Int):=by
 rw[zds h]; simp[List.getD,h]
theorem zoH(a b:Nat):((a:Int)==(b:Int))=(a == b):=by
 rw[Bool.eq_iff_iff,beq_iff_eq,beq_iff_eq];exact Int.ofNat_inj
def dig:List Nat→Nat→List Nat
 | [],_=>[]
 | _ :: cs,i=>i / zai cs :: dig cs (i % zai cs)
theorem ziQ:∀(cs:List Nat) (i:Nat),(dig cs i).length=cs.length
 | [],_=>rfl
 | _ :: cs,i=>by simp[dig,ziQ cs]
def dot:List Nat→List Nat→Nat
 | x :: xs,s :: ss=>x * s+dot xs ss
 | _,_=>0
theorem zjb:∀ {xs ss:List Nat} (ys ts:List Nat),xs.length=ss.length→dot (xs ++ ys) (ss ++ ts)=dot xs ss+dot ys ts
 | [],[],ys,ts,_=>by simp[dot]
 | x :: xs,s :: ss,ys,ts,h=>by
  simp only[qa8,dot];rw[zjb ys ts (by simpa using h)]; omega
 | [],_ :: _,_,_,h=>by simp at h
 | _ :: _,[],_,_,h=>by simp at h
theorem zlp(x s:Nat):dot [x] [s]=x * s:=by simp[dot]
def zcF:List Nat→List Nat→Prop
 | [],[]=>True
 | c :: cs,x :: xs=>x<c∧c≤8∧zcF cs xs
 | _,_=>False
theorem zcF.len:∀ {cs xs:List Nat},zcF cs xs→xs.length=cs.length
 | [],[],_=>rfl
 | c :: cs,x :: xs,h=>by simp[h.2.2.len]
theorem zcF.snoc:∀ {cs xs:List Nat} {c x:Nat},zcF (cs ++ [c]) (xs ++ [x])→xs.length=cs.length→zcF cs xs∧x<c∧c≤8
 | [],[],c,x,h,_=>⟨qci,h.1,h.2.1⟩
 | c :: cs,x :: xs,_,_,h,hl=>by
  obtain⟨h1,h2,h3⟩:=h;obtain⟨g1,g2⟩:=h3.snoc (by simpa using hl);exact⟨⟨h1,h2,g1⟩,g2⟩
theorem zcT{cs:List Nat}(h:∀ c∈cs,1≤c∧c≤8):0<zai cs:=zjy fun c hc=>(h c hc).1
theorem zf1:∀ {cs:List Nat} {i:Nat},(∀ c∈cs,1≤c∧c≤8)→i<zai cs→zcF cs (dig cs i)
 | [],_,_,_=>trivial
 | c :: cs,i,h,hi=>by
  have hc:=h c qaw;have hp:=zcT fun d hd=>h d (qal c hd)
  refine⟨?_,hc.2,zf1 (fun d hd=>h d (qal c hd)) (qbU _ hp)⟩;have h1:i<c * zai cs:=hi;exact Nat.div_lt_of_lt_mul (by rw[qbw]; exact h1)
theorem zp2:∀ {cs xs ss:List Nat},zcF cs xs→(∀ s∈ss,s≤4096)→dot xs ss≤cs.length * 32768
 | [],[],_,_,_=>by simp[dot]
 | c :: cs,x :: xs,[],_,_=>by simp[dot]
 | c :: cs,x :: xs,s :: ss,h,hs=>by
  have h1:=zp2 h.2.2 fun t ht=>hs t (qal _ ht)
  have h2:=hs s qaw;have h3:x * s≤8 * 4096:=qbB (by have:=h.1; have:=h.2.1; omega) h2;simp only[dot,qaS];omega
def nxt:List Nat→List Nat→Option (List Nat)
 | c :: cs,v :: vs=>match nxt cs vs with
  | some vs'=>some (v :: vs')
  | none=>if v+1<c then some ((v+1):: List.replicate vs.length 0)else none
 | _,_=>none
theorem zgS:∀ {cs vs:List Nat} {c v:Nat},vs.length=cs.length→v+1<c→nxt (cs ++ [c]) (vs ++ [v])=some (vs ++ [v+1])
 | [],[],c,v,_,h=>by simp[nxt,h]
 | d :: cs,u :: vs,c,v,hl,h=>by
  simp only[qa8,nxt,zgS (show vs.length=cs.length by simpa using hl) h]
theorem zgm:∀ {cs vs:List Nat} {c v:Nat},vs.length=cs.length→¬ v+1<c→nxt (cs ++ [c]) (vs ++ [v])=(nxt cs vs).map (· ++ [0])
 | [],[],c,v,_,h=>by simp[nxt,h]
 | d :: cs,u :: vs,c,v,hl,h=>by
  simp only[qa8,nxt,zgm (show vs.length=cs.length by simpa using hl) h];cases hn:nxt cs vs with
  | some vs'=>rfl
  | none=>
   simp only[qcf];by_cases hu:u+1<d
   ·rw[if_pos hu,if_pos hu];simp[List.replicate_succ']
   rw[if_neg hu,if_neg hu]; rfl
theorem zix:∀(cs:List Nat),dig cs 0=List.replicate cs.length 0
 | []=>rfl
 | c :: cs=>by simp[dig,zix cs,qa2]
theorem znH:∀ {cs:List Nat} {i:Nat},(∀ c∈cs,1≤c∧c≤8)→i<zai cs→nxt cs (dig cs i)=if i+1<zai cs then some (dig cs (i+1))else none
 | [],i,_,hi=>by
  have:i=0:=by simpa [zai]using hi
  subst this;simp[nxt,zai]
 | c :: cs,i,h,hi=>by
  have hp:=zcT fun d hd=>h d (qal c hd)
  have hm:=qbU i hp;have ih:=znH (fun d hd=>h d (qal c hd)) hm;have hi':i<c * zai cs:=hi;simp only[dig,nxt,ih];have hdm:=qch i (zai cs);generalize hq:i / zai cs=q at *;generalize hr:i % zai cs=r at *;have hprod:zai (c :: cs)=c * zai cs:=rfl;by_cases h1:r+1<zai cs
  ·rw[if_pos h1];have e1:(i+1) / zai cs=q:=by
    rw[← hdm,qa0,Nat.mul_add_div hp,Nat.div_eq_of_lt h1,qbc]
   have e2:(i+1) % zai cs=r+1:=by
    rw[← hdm,qa0,Nat.mul_add_mod,qbq h1]
   have hqc:q<c:=by rw[← hq]; exact Nat.div_lt_of_lt_mul (by rw[qbw]; exact hi')
   have h2:i+1<zai (c :: cs):=by
    rw[hprod];have:(q+1)* zai cs≤c * zai cs:=qao _ hqc;rw[qaI,qbJ,qbw q]at this;omega
   rw[if_pos h2,e1,e2]
  rw[if_neg h1];have hr1:r+1=zai cs:=by omega
  have hi1:i+1=zai cs * (q+1):=by rw[Nat.mul_add,Nat.mul_one]; omega
  simp only;have h4:(q+1<c)↔(i+1<zai (c :: cs)):=by
   rw[hprod,hi1,qbw c];exact(Nat.mul_lt_mul_left hp).symm
  by_cases h5:q+1<c
  ·rw[if_pos h5,if_pos (h4.1 h5),hi1,Nat.mul_div_cancel_left _ hp,Nat.mul_mod_right,zix,ziQ]
  rw[if_neg h5,if_neg (fun h=>h5 (h4.2 h))]
theorem zdW{xs ys:List Nat}{x:Nat}{k:Nat}(h:xs.length=k):zbl (iL (xs ++ x :: ys)) (k:Int)=some (x:Int):=by
 subst h;rw[zds (by simp)];simp
theorem zgG{xs ys:List Nat}{x y:Nat}{k:Nat}(h:xs.length=k):zgj (iL (xs ++ x :: ys)) (k:Int) (y:Int)=some (iL (xs ++ y :: ys)):=by
 subst h;rw[zi6 (by rw[zbf]; simp)];simp[iL]
theorem zlo{xs:List Nat}{k:Nat}(h:xs.length=k+1):∃ ys y,xs=ys ++ [y]∧ys.length=k:=by
 have hne:xs≠[]:=by rintro rfl; simp at h
 exact⟨xs.dropLast,xs.getLast hne,(List.dropLast_concat_getLast hne).symm,by simp[h]⟩
theorem zlA:∀(k:Nat) (xs cx sx cy sy zs:List Nat) (e:Nat),xs.length=k→cx.length=k→sx.length=k→zcF cx xs→(∀ s∈sx,s≤4096)→k≤12→e≤1000000 →
  ∃ r,zhV (iL (cx ++ cy)) (iL (sx ++ sy)) k (iL (xs ++ zs)) ((dot xs sx+e:Nat):Int)=some r∧match nxt cx xs with
   | none=>r.2.2 = -1
   | some xs'=>∃(j:Nat) (v st:Int),r.2.2=(j:Int)∧zbl r.1 (j:Int)=some v∧zgj r.1 (j:Int) (w64 (v+1))=some (iL (xs' ++ zs))∧zbl (iL (sx ++ sy)) (j:Int)=some st∧w64 (r.2.1+st)=((dot xs' sx+e:Nat):Int)
 | 0,xs,cx,sx,cy,sy,zs,e,hx,hc,hs,_,_,_,_=>by
  obtain rfl:xs=[]:=qaB.1 hx;obtain rfl:cx=[]:=qaB.1 hc;exact⟨_,rfl,rfl⟩
 | k+1,xs,cx,sx,cy,sy,zs,e,hx,hc,hs,hb,hsm,hk,he=>by
  obtain⟨xs,x,rfl,lx⟩:=zlo hx;obtain⟨cx,c,rfl,lc⟩:=zlo hc;obtain⟨sx,s,rfl,ls⟩:=zlo hs;obtain⟨hb1,hb2,hb3⟩:=hb.snoc (lx.trans lc.symm);have hd:=zp2 hb1 fun t ht=>hsm t (qce _ ht)
  have hss:s≤4096:=hsm s (by simp);have hxs:x * s≤8 * 4096:=qbB (by omega) hss;have hlen:cx.length * 32768≤12 * 32768:=qao _ (by omega);simp only[qbs,qbk];unfold zhV;rw[zdW lx,qad,zdW lc,qad,zei (by omega) (by omega)];rw[zjb [x] [s] (lx.trans ls.symm),zlp];by_cases h1:x+1<c
  ·rw[show((x:Int)==(c:Int) - 1)=false from beq_false_of_ne (by omega),cond_false,zgS (lx.trans lc.symm) h1];refine⟨_,rfl,k,(x:Int),(s:Int),rfl,zdW lx,?_,zdW ls,?_⟩
   ·rw[zbr (by omega),zgG lx]; simp
   rw[zjb [x+1] [s] (lx.trans ls.symm),zlp,← Int.natCast_add,zcW (by omega),qaI];congr 1; omega
  rw[show((x:Int)==(c:Int) - 1)=true by rw[show(x:Int)=(c:Int) - 1 by omega]; exact beq_self_eq_true _,cond_true,zdW ls,qad,show(0:Int)=((0:Nat):Int)from rfl,zgG lx,qad,← qa7,
   zcW (by omega),show(((dot xs sx+x * s+e:Nat):Int) - ((x * s:Nat):Int))=((dot xs sx+e:Nat):Int) by omega,zcW (by omega),zgm (lx.trans lc.symm) h1]
  obtain⟨r,h2,h3⟩:=zlA k xs cx sx (c :: cy) (s :: sy) (0 :: zs) e lx lc ls hb1 (fun t ht=>hsm t (qce _ ht)) (by omega) he;refine⟨r,h2,?_⟩;cases hn:nxt cx xs with
  | none=>rw[hn]at h3; exact h3
  | some xs'=>
   rw[hn]at h3;obtain⟨j,v,st,g1,g2,g3,g4,g5⟩:=h3;have hl':xs'.length=sx.length:=by
    have:∀ {cs vs ws:List Nat},nxt cs vs=some ws→vs.length=cs.length→ws.length=vs.length:=by
     intro cs;induction cs with
     | nil=>intro vs ws h _; simp[nxt]at h
     | cons d cs ih=>
      intro vs ws h hl;cases vs with
      | nil=>simp[nxt]at h
      | cons u vs=>
       simp only[nxt]at h;cases hq:nxt cs vs with
       | some vs'=>
        rw[hq]at h;cases h;simp[ih hq (by simpa using hl)]
       | none=>
        rw[hq]at h;simp only at h;split at h
        ·cases h; simp
        cases h
    rw[this hn (lx.trans lc.symm),lx,ls]
   refine⟨j,v,st,g1,g2,by rw[g3]; simp,g4,?_⟩;rw[g5,zjb [0] [s] hl',zlp,qbT,qbc]
def zlw(cs ss:List Nat)(i m:Nat):List (Int×Int×List Int):=(List.range' i m).map fun j:Nat=>((j:Int),((dot (dig cs j) ss:Nat):Int),iL (dig cs j))
theorem zrO{cs ss:List Nat}(hc:∀ c∈cs,1≤c∧c≤8)(hl:cs.length≤12)(hp:zai cs≤4096)(hs:ss.length=cs.length)(hsm:∀ s∈ss,s≤4096):∀(m i n:Nat),i+(m+1)=zai cs→m<n →
  zrA (iL cs) (iL ss) n (iL (dig cs i)) (i:Int) ((dot (dig cs i) ss:Nat):Int)=some (zlw cs ss i (m+1))
 | m,i,0,_,h=>absurd h (qaR _)
 | m,i,n+1,hi,hn=>by
  have hb:=zf1 hc (show i<zai cs by omega);obtain⟨r,h1,h2⟩:=zlA cs.length (dig cs i) cs ss [] [] [] 0 (ziQ _ _) rfl hs hb hsm hl (by omega);simp only[qa9,qbc]at h1 h2;unfold zrA;rw[zbf,h1,qad];rw[znH hc (show i<zai cs by omega)]at h2;cases m with
  | zero=>
   rw[if_neg (by omega)]at h2;simp only at h2;rw[h2];rfl
  | succ m=>
   rw[if_pos (by omega)]at h2;simp only at h2;obtain⟨j,v,st,g1,g2,g3,g4,g5⟩:=h2;rw[g1,show decide ((j:Int)<0)=false from decide_eq_false (by omega),cond_false,g2,qad,g3,qad,g4,qad,g5,zbr (by omega),zrO hc hl hp hs hsm m (i+1) n (by omega) (by omega)];rfl
theorem znk(cs:List Nat):∀ a:Nat,(iL cs).foldl (· * ·) (a:Int)=((a * zai cs:Nat):Int):=by
 induction cs with
 | nil=>intro a; simp[iL,zai]
 | cons c cs ih=>
  intro a;show(iL cs).foldl (· * ·) ((a:Int)* (c:Int))=_;rw[← qa7,ih,qbW];rfl
theorem zqw{cs ss:List Nat}(hc:∀ c∈cs,1≤c∧c≤8)(hl:cs.length≤12)(hp:zai cs≤4096)(hs:ss.length=cs.length)(hsm:∀ s∈ss,s≤4096):zpx (iL cs) (iL ss)=some (zlw cs ss 0 (zai cs)):=by
 have hpos:=zcT hc;unfold zpx zlL;rw[if_pos (by rw[zbf]; omega),qad,zbf,zep (by omega),qad];have h:=znk cs 1;rw[show((1:Nat):Int)=1 from rfl]at h;rw[h,qbJ,qaE];obtain⟨m,hm⟩:∃ m,zai cs=m+1:=⟨zai cs - 1,by omega⟩;have e:=zrO hc hl hp hs hsm m 0 (m+1) (by omega) (by omega);have hz:∀(n:Nat) (ss:List Nat),dot (List.replicate n 0) ss=0:=by
  intro n;induction n with
  | zero=>intro ss; simp[dot]
  | succ n ih=>
   intro ss;cases ss with
   | nil=>simp[qa2,dot]
   | cons s ss=>simp[qa2,dot,ih]
 rw[zix,hz,zfv]at e;rw[hm];exact e
theorem ztu(k:Nat):decide ((0:Int)≤(k:Int))=true:=decide_eq_true (qb8 k)
theorem pred_succ(k:Nat):((k+1:Nat):Int) - 1=(k:Int):=by omega
theorem zpX{cs:List Nat}(hc:∀ c∈cs,1≤c)(hp:zai cs≤4096):∀ s∈zbK cs,s≤4096:=by
 induction cs with
 | nil=>intro s hs; cases hs
 | cons c cs ih=>
  have h1:=hc c qaw;have h2:zai cs≤4096:=qap (qb9 (zai cs) h1) hp;intro s hs;rcases qaM.1 hs with rfl | hs
  ·exact h2
  exact ih (fun d hd=>hc d (qal _ hd)) h2 s hs
theorem zcF.drop:∀ {cs xs:List Nat} (k:Nat),zcF cs xs→zcF (cs.drop k) (xs.drop k)
 | cs,xs,0,h=>h
 | [],[],k+1,_=>trivial
 | c :: cs,x :: xs,k+1,h=>h.2.2.drop k
theorem znr:∀ {cs ds:List Nat},zcF cs ds→dot ds (zbK cs)<zai cs
 | [],[],_=>by simp[dot,zai]
 | c :: cs,d :: ds,h=>by
  have h1:=znr h.2.2;show d * zai cs+dot ds (zbK cs)<c * zai cs;have h2:(d+1)* zai cs≤c * zai cs:=qao _ h.1;rw[qaI,qbJ]at h2;omega
theorem zoo:∀ {cs:List Nat} {i:Nat},(∀ c∈cs,1≤c∧c≤8)→i<zai cs→dot (dig cs i) (zbK cs)=i
 | [],i,_,h=>by
  have:i=0:=by simpa [zai]using h
  subst this; rfl
 | c :: cs,i,hc,h=>by
  have hp:=zcT fun d hd=>hc d (qal c hd)
  show i / zai cs * zai cs+dot (dig cs (i % zai cs)) (zbK cs)=i;rw[zoo (fun d hd=>hc d (qal c hd)) (qbU _ hp),qbw];exact qch i (zai cs)
theorem znw:∀ {cs ds:List Nat},zcF cs ds→dig cs (dot ds (zbK cs))=ds
 | [],[],_=>rfl
 | c :: cs,d :: ds,h=>by
  have h1:=znr h.2.2;have hp:0<zai cs:=by omega
  show((d * zai cs+dot ds (zbK cs)) / zai cs):: dig cs ((d * zai cs+dot ds (zbK cs)) % zai cs)=d :: ds;rw[qbw d,Nat.mul_add_div hp,Nat.div_eq_of_lt h1,qbc,Nat.mul_add_mod,qbq h1,znw h.2.2]
def stp:List Nat→List Nat→Nat→Nat
 | v :: vs,_ :: cs,u=>bif v == u then zai cs else stp vs cs u
 | _,_,_=>0
def at_:List Nat→List Nat→Nat→Nat
 | v :: vs,d :: ds,u=>bif v == u then d else at_ vs ds u
 | _,_,_=>0
theorem znd:∀ {vs cs:List Nat} {u:Nat},vs.length=cs.length→stp vs cs u=(match pos vs u with | none=>0 | some k=>(zbK cs).getD k 0)
 | [],_,u,_=>by simp[stp,pos]
 | v :: vs,[],_,h=>by simp at h
 | v :: vs,c :: cs,u,h=>by
  have ih:=znd (u:=u) (show vs.length=cs.length by simpa using h);unfold stp pos;cases hb:(v == u)with
  | true=>rfl
  | false=>
   rw[cond_false,cond_false,ih];cases pos vs u with
   | none=>rfl
   | some k=>simp[zbK]
theorem znS(g h:Nat→Nat):∀(ds vs:List Nat),dot ds (vs.map fun v=>g v+h v)=dot ds (vs.map g)+dot ds (vs.map h)
 | [],_=>by simp[dot]
 | d :: ds,[]=>by simp[dot]
 | d :: ds,v :: vs=>by
  simp only[qax,dot,znS g h ds vs,Nat.mul_add];omega
theorem ziO:∀(ds vs:List Nat) (g:Nat→Nat),(∀ v∈vs,g v=0)→dot ds (vs.map g)=0
 | [],_,_,_=>by simp[dot]
 | d :: ds,[],_,_=>by simp[dot]
 | d :: ds,v :: vs,g,h=>by
  simp only[qax,dot,h v qaw,Nat.mul_zero,ziO ds vs g fun u hu=>h u (qal _ hu)]
theorem zo2{u p:Nat}:∀ {vs ds:List Nat},vs.Nodup→dot ds (vs.map fun v=>bif u == v then p else 0)=at_ vs ds u * p
 | [],ds,_=>by cases ds<;>simp[dot,at_]
 | v :: vs,[],_=>by simp[dot,at_]
 | v :: vs,d :: ds,h=>by
  obtain⟨h1,h2⟩:=qbe.1 h;simp only[qax,dot,at_];by_cases hb:u=v
  ·subst hb;rw[beq_self_eq_true,cond_true,cond_true,ziO ds vs _ (fun w hw=>by rw[show(u == w)=false from beq_false_of_ne (fun e=>h1 (e ▸ hw))]; rfl),qbc]
  rw[show(u == v)=false from beq_false_of_ne hb,show(v == u)=false from beq_false_of_ne (fun e=>hb e.symm),cond_false,cond_false,zo2 h2,Nat.mul_zero,qaP]
theorem zoz:∀ {us cs:List Nat} {u:Nat},u ∉ us→stp us cs u=0
 | [],_,_,_=>by simp[stp]
 | v :: us,[],_,_=>by simp[stp]
 | v :: us,c :: cs,u,h=>by
  unfold stp;rw[show(v == u)=false from beq_false_of_ne (fun e=>h (by rw[e]; exact qaw)),cond_false,zoz fun hm=>h (qal _ hm)]
theorem zng{vs ds:List Nat}(hv:vs.Nodup):∀ {us cs:List Nat},us.length=cs.length→us.Nodup→dot ds (vs.map (stp us cs))=dot (us.map (at_ vs ds)) (zbK cs)
 | [],cs,_,_=>by
  rw[ziO ds vs _ fun v _=>by simp[stp]];simp[dot]
 | u :: us,[],h,_=>by simp at h
 | u :: us,c :: cs,h,hn=>by
  obtain⟨h1,h2⟩:=qbe.1 hn;have e:vs.map (stp (u :: us) (c :: cs))=vs.map fun v=>(bif u == v then zai cs else 0)+stp us cs v:=by
   refine qbf fun v _=>?_
   rw[show stp (u :: us) (c :: cs) v=bif u == v then zai cs else stp us cs v from rfl];cases hb:(u == v)with
   | true=>
    have:u=v:=by simpa using hb
    subst this;rw[cond_true,cond_true,zoz h1]; rfl
   | false=>
    rw[cond_false,cond_false,qaP]
  rw[e,znS,zo2 hv,zng hv (by simpa using h) h2];rfl
theorem zb8{vs:List Nat}(h:vs.Pairwise (· < ·)):vs.Nodup:=h.imp fun h=>Nat.ne_of_lt h
def Sub(vs ws:List Nat):List Nat→List Nat→Prop
 | [],[]=>True
 | u :: us,c :: cs=>(u∈vs∧at_ vs ws u=c)∧Sub vs ws us cs
 | _,_=>False
theorem zmf:∀ {vs ws ds:List Nat} {u:Nat},vs.length=ws.length→zcF ws ds→u∈vs→at_ vs ds u<at_ vs ws u∧at_ vs ws u≤8
 | v :: vs,w :: ws,d :: ds,u,hl,hb,hm=>by
  unfold at_;by_cases h:v=u
  ·subst h;rw[beq_self_eq_true,cond_true,cond_true];exact⟨hb.1,hb.2.1⟩
  ·rw[show(v == u)=false from beq_false_of_ne h,cond_false,cond_false];rcases qaM.1 hm with e | hm
   ·exact absurd e.symm h
   ·exact zmf (by simpa using hl) hb.2.2 hm
 | [],_,_,_,_,_,hm=>by cases hm
 | v :: vs,[],_,_,hl,_,_=>by simp at hl
 | v :: vs,w :: ws,[],_,_,hb,_=>hb.elim
theorem Sub.below{vs ws ds:List Nat}(hl:vs.length=ws.length)(hb:zcF ws ds):∀ {us cs:List Nat},Sub vs ws us cs→zcF cs (us.map (at_ vs ds))
 | [],[],_=>trivial
 | u :: us,c :: cs,⟨⟨h1,h2⟩,h3⟩=>by
  have:=zmf hl hb h1;rw[h2]at this;exact⟨this.1,this.2,Sub.below hl hb h3⟩
 | [],_ :: _,h=>h.elim
 | _ :: _,[],h=>h.elim
def Fc.at(f:Fc)(vs ds:List Nat):Nat:=f.ws.getD (dot (f.vs.map (at_ vs ds)) (zbK f.cs)) 0
theorem zqX{xs:List Nat}{v:Nat}:(pos xs v).isSome=decide (v∈xs):=by
 cases h:pos xs v with
 | none=>exact(decide_eq_false (zlS h)).symm
 | some k=>
  obtain⟨hk,e⟩:=zeP h;exact(decide_eq_true (e ▸ qaW hk)).symm
theorem zes(u d:Nat)(us ds:List Nat)(v:Nat):at_ (u :: us) (d :: ds) v=bif u == v then d else at_ us ds v:=rfl
theorem znn:∀ {vs ds:List Nat} {v k:Nat},pos vs v=some k→at_ vs ds v=ds.getD k 0
 | [],_,_,_,h=>by cases h
 | u :: us,[],v,k,_=>by simp[at_]
 | u :: us,d :: ds,v,k,h=>by
  rw[zes];rw[show pos (u :: us) v=bif u == v then some 0 else(pos us v).map (· + 1)from rfl]at h;cases hb:(u == v)with
  | true=>rw[hb,cond_true]at h; cases h; rw[cond_true]; rfl
  | false=>
   rw[hb,cond_false]at h;cases hp:pos us v with
   | none=>rw[hp]at h; cases h
   | some j=>rw[hp]at h; cases h; rw[cond_false,znn hp]; rfl
def inB(f g:Fc)(v:Nat):Bool:=decide (v∈f.vs)|| decide (v∈g.vs)
def cdF(f g:Fc)(v:Nat):Nat:=bif decide (v∈f.vs)then at_ f.vs f.cs v else at_ g.vs g.cs v
def uni(f g:Fc):List Nat:=(List.range' 0 64).filter (inB f g)
theorem zqU{xs:List Nat}{v:Nat}(h:xs.length≤100000):zgv 8 (iL xs) [(v:Int)]=some (iL (xs ++ [v])):=by
 rw[zrp (by rw[zbf]; simp; omega),zoD]; rfl
theorem zie{f:Fc}(hf:FcOk f){v k:Nat}(hp:pos f.vs v=some k):zbl f.D.zae (ixZ (some k))=some ((at_ f.vs f.cs v:Nat):Int):=by
 obtain⟨hk,_⟩:=zeP hp;show zbl (iL f.cs) (k:Int)=_;rw[zdY (by rw[← hf.len]; exact hk),znn hp]
theorem znp{f g:Fc}(hf:FcOk f)(hg:FcOk g){v:Nat}:v∈uni f g↔v∈f.vs∨v∈g.vs:=by
 unfold uni inB;simp only[qbx,qbl,qbd,decide_eq_true_eq];constructor
 ·exact fun h=>h.2
 rintro(h | h)
 ·exact⟨⟨qaQ _,by have:=hf.var _ h; omega⟩,.inl h⟩
 exact⟨⟨qaQ _,by have:=hg.var _ h; omega⟩,.inr h⟩
theorem zra(f g:Fc):(uni f g).Pairwise (· < ·):=qbZ _ List.pairwise_lt_range'
section
variable {s:List Int}
end
abbrev noF:S_api_Factor:=⟨[],[],[]⟩
structure Dom (u c:List Nat):Prop where
 len:u.length=c.length
 nodup:u.Nodup
 zhH:∀ x∈c,1≤x∧x≤8
 le:c.length≤12
 prod:zai c≤4096
theorem zlc{cs:List Nat}(h:zcq (iL cs)=true):(∀ c∈cs,1≤c∧c≤8)∧zai cs≤4096∧cs.length≤12:=by
 obtain⟨ns,h1,h2⟩:=zhm h;have:cs=ns:=by rw[← zfT cs,h1,zfT]
 subst this;exact h2
theorem zio(c ss:List Nat)(i m:Nat):zlw c ss i (m+1)=((i:Int),((dot (dig c i) ss:Nat):Int),iL (dig c i)):: zlw c ss (i+1) m:=by
 unfold zlw;rw[qb2,qax]
theorem zjJ{h:Nat→Nat}{v:Nat}:∀ {us:List Nat},v∈us→at_ us (us.map h) v=h v
 | [],hm=>by simp at hm
 | u :: us,hm=>by
  rw[qax,zes];cases hb:(u == v)with
  | true=>rw[cond_true]; rw[beq_iff_eq]at hb; rw[hb]
  | false=>
   rw[cond_false];rcases qaM.1 hm with e | e
   ·rw[e]at hb; simp at hb
   exact zjJ e
theorem zqk:∀ {vs ds:List Nat} {i:Nat} (hn:vs.Nodup) (h:i<vs.length),at_ vs ds vs[i]=ds.getD i 0
 | v :: vs,[],i,_,_=>by simp[at_]
 | v :: vs,d :: ds,0,_,_=>by rw[zes]; simp
 | v :: vs,d :: ds,i+1,hn,h=>by
  obtain⟨h1,h2⟩:=qbe.1 hn;have hi:i<vs.length:=by simpa using h
  rw[zes,show(v :: vs)[i+1]=vs[i]from rfl,show(v == vs[i])=false from beq_false_of_ne (fun e=>h1 (e ▸ qaW hi)),cond_false,zqk h2 hi];rfl
theorem zoE{vs ds:List Nat}(hn:vs.Nodup)(hl:vs.length=ds.length):vs.map (at_ vs ds)=ds:=by
 refine List.ext_getElem (by simpa using hl) fun i h1 h2=>?_
 rw[List.getElem_map,zqk hn (by simpa using h1),qat,qaf h2];rfl
theorem zqd{vs ws:List Nat}:∀ {us cs:List Nat},us.length=cs.length→us.Nodup→(∀ u∈us,u∈vs∧at_ vs ws u=at_ us cs u)→Sub vs ws us cs
 | [],[],_,_,_=>trivial
 | [],c :: cs,h,_,_=>by simp at h
 | u :: us,[],h,_,_=>by simp at h
 | u :: us,c :: cs,hl,hn,h=>by
  obtain⟨h1,h2⟩:=qbe.1 hn;refine⟨⟨(h u qaw).1,?_⟩,zqd (by simpa using hl) h2 fun x hx=>⟨(h x (qal _ hx)).1,?_⟩⟩
  ·rw[(h u qaw).2,zes,beq_self_eq_true,cond_true]
  rw[(h x (qal _ hx)).2,zes,show(u == x)=false from beq_false_of_ne (fun e=>h1 (e ▸ hx)),cond_false]
def Agr(f g:Fc):Prop:=∀ v,v∈f.vs→v∈g.vs→at_ f.vs f.cs v=at_ g.vs g.cs v
def ucs(f g:Fc):List Nat:=(uni f g).map (cdF f g)
theorem ztB{f g:Fc}{v:Nat}(h:v∈f.vs):cdF f g v=at_ f.vs f.cs v:=by unfold cdF; rw[decide_eq_true h,cond_true]
theorem ztx{f g:Fc}(ha:Agr f g){v:Nat}(h:v∈g.vs):cdF f g v=at_ g.vs g.cs v:=by
 unfold cdF;by_cases h1:v∈f.vs
 ·rw[decide_eq_true h1,cond_true,ha v h1 h]
 rw[decide_eq_false h1,cond_false]
theorem zkA(a b:List Int):zaZ a b=some (a,b):=by rfl
end Go.Dc
