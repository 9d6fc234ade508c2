/-
 Plain laws: numbers and sets of bits. Conditions: none.
-/
import Derived.Test.YtnfgibomhkbcpaaFuJ6
set_option linter.unusedSimpArgs false
set_option linter.unusedVariables false
namespace Go.Dc
open Go Go.Mx Go.Lx
theorem zce{n:Nat}(h:n<9223372036854775808):w64 (n:Int)=(n:Int):=wrap64 (by omega) (by omega)
theorem zf0{n:Int}(h1:-9223372036854775808≤n)(h2:n<9223372036854775808):w64 n=n:=wrap64 h1 h2
theorem zbe{n:Nat}(h:n+1<9223372036854775808):w64 ((n:Int)+1)=((n+1:Nat):Int):=by
 rw[zf0 (by omega) (by omega)]; omega
theorem zrV(n:Nat):IntKind.u64.wrap (n:Int)=((n % 18446744073709551616:Nat):Int):=by
 simp only[IntKind.wrap,IntKind.bits,IntKind.signed]; simp
theorem zc6{n:Nat}(h:n<18446744073709551616):IntKind.u64.wrap (n:Int)=(n:Int):=by
 rw[zrV,qaY h]
theorem zuP{a b:Nat}(ha:a<18446744073709551616)(hb:b<18446744073709551616):znL .u64 (a:Int) (b:Int)=((a &&& b:Nat):Int):=by
 have h:(BitVec.ofInt 64 (a:Int) &&& BitVec.ofInt 64 (b:Int)).toNat=a &&& b:=by
  simp only[qbT,BitVec.toNat_and,BitVec.toNat_ofNat];rw[qaY ha,qaY hb]
 show IntKind.u64.wrap ((BitVec.ofInt 64 (a:Int) &&& BitVec.ofInt 64 (b:Int)).toNat:Int)=_;rw[h];exact zc6 (qcf Nat.and_le_left ha)
theorem zuN{a v:Nat}(hv:v<64):zml .u64 (a:Int) (v:Int)=some ((a >>> v:Nat):Int):=by
 unfold zml;rw[if_pos (by omega)];congr 1
 have h1:min (v:Int).toNat IntKind.u64.bits=v:=by
  rw[show IntKind.u64.bits=64 from rfl,qaE]; exact qbJ (by omega)
 rw[h1,qby];have h2:((2:Int) ^ v)=((2 ^ v:Nat):Int):=by simp
 rw[h2,Int.fdiv_eq_ediv_of_nonneg _ (qbQ _)];rfl
theorem zuR(a v:Nat):((a >>> v) &&& 1)=(a.testBit v).toNat:=by
 rw[Nat.and_one_is_mod,Nat.testBit_eq_decide_div_mod_eq,qby];have h:=Nat.mod_two_eq_zero_or_one (a / 2 ^ v);rcases h with h | h<;>simp[h]
variable {α:Type}
theorem zp3{xs:List α}{i:Nat}:zbq xs (i:Int)=xs[i]?:=by
 unfold zbq;rw[if_pos (qbQ i),qaE]
theorem zcO{xs:List α}{i:Nat}(h:i<xs.length):zbq xs (i:Int)=some (xs[i]'h):=by
 rw[zp3,qaf h]
theorem zi4{xs:List α}{i:Nat}{v:α}(h:i<xs.length):zgA xs (i:Int) v=some (xs.set i v):=by
 unfold zgA;rw[if_pos (by omega),qaE]
theorem zon{b:Nat}{xs ys:List α}(h:(xs.length+ys.length)* b≤70368744177664):zgN b xs ys=some (xs ++ ys):=by
 unfold zgN;rw[if_pos (by simp only[zap]; omega)]
theorem zdk{b n:Nat}{z:α}(h:n * b≤70368744177664):zek b (n:Int) z=some (List.replicate n z):=by
 have h2:(n:Int)* (b:Int)≤zap:=by
  rw[← qaR]; simp only[zap]; omega
 unfold zek;rw[if_pos ⟨qbQ n,h2⟩,qaE]
theorem zi2{b:Nat}{xs:List α}(h:xs.length * b≤70368744177664):zde b xs=some xs:=by
 unfold zde;rw[if_pos (by simp only[zap]; omega)]
theorem ztA{i n:Nat}:decide ((i:Int)<(n:Int))=decide (i<n):=by simp
theorem zcL(n:Nat):((n:Int) - 0+2).toNat=n+2:=by omega
def iL(xs:List Nat):List Int:=xs.map (fun x:Nat=>(x:Int))
theorem zaQ(xs:List Nat):(iL xs).length=xs.length:=by simp[iL]
theorem zrp{xs:List Nat}{i:Nat}(h:i<xs.length):(iL xs)[i]'(by rw[zaQ]; exact h)=((xs[i]:Nat):Int):=by simp[iL]
theorem zc1{xs:List Nat}{i:Nat}(h:i<xs.length):zbq (iL xs) (i:Int)=some ((xs[i]:Nat):Int):=by
 rw[zcO (by rw[zaQ]; exact h),zrp h]
def zae(xs:List Nat):Nat:=xs.foldr (· * ·) 1
theorem zkc{xs:List Nat}(h:∀ x∈xs,1≤x):1≤zae xs:=by
 induction xs with
 | nil=>exact qai 1
 | cons x xs ih=>exact qbr (h x qap) (ih fun y hy=>h y (qak _ hy))
theorem zpk{i n:Nat}(h:i<n):decide ((i:Int)<(n:Int))=true:=decide_eq_true (by omega)
theorem zpJ(n:Nat):decide ((n:Int)<(n:Int))=false:=decide_eq_false (by omega)
abbrev zdj:Nat:=4611686018427387903
def zep:Nat→List Int→Bool
 | _,[]=>true
 | a,c :: cs=>decide (1≤c) && decide (c≤8) && decide (a * c.toNat≤4096) && zep (a * c.toNat) cs
theorem zic:∀ {cs:List Int} {a:Nat},zep a cs=true→∃ ns:List Nat,cs=iL ns∧(∀ c∈ns,1≤c∧c≤8)∧(a≤4096→a * zae ns≤4096)
 | [],a,_=>⟨[],rfl,by simp,fun h=>by simpa [zae]using h⟩
 | c :: cs,a,h=>by
  simp only[zep,qag,decide_eq_true_eq]at h;obtain⟨⟨⟨h1,h2⟩,h3⟩,h4⟩:=h;obtain⟨ns,e,g1,g2⟩:=zic h4;refine⟨c.toNat :: ns,?_,?_,fun _=>?_⟩
  ·rw[e]; simp[iL]; omega
  ·intro d hd;rcases qaD.1 hd with rfl | hd
   ·omega
   exact g1 d hd
  have:=g2 h3;show a * (c.toNat * zae ns)≤4096;rw[← qbF]; exact this
theorem zhd:∀ {ns:List Nat} {a:Nat},(∀ c∈ns,1≤c∧c≤8)→a * zae ns≤4096→zep a (iL ns)=true
 | [],a,_,_=>rfl
 | n :: ns,a,h,hp=>by
  have h1:=h n qap;have hp':a * n * zae ns≤4096:=by rw[qbF]; exact hp
  have hpos:1≤zae ns:=zkc fun x hx=>(h x (qak _ hx)).1
  have hle:a * n≤4096:=qat (qbt _ hpos) hp';show(decide ((1:Int)≤(n:Int)) && decide ((n:Int)≤8) && decide (a * (n:Int).toNat≤4096) && zep (a * (n:Int).toNat) (iL ns))=true;rw[qaE,zhd (fun c hc=>h c (qak _ hc)) hp',decide_eq_true (by omega),decide_eq_true (by omega),decide_eq_true hle];rfl
def zfc:List Int→Nat
 | []=>1
 | c :: cs=>c.toNat * zfc cs
theorem zey(ns:List Nat):zfc (iL ns)=zae ns:=by
 induction ns with
 | nil=>rfl
 | cons n ns ih=>show(n:Int).toNat * zfc (iL ns)=n * zae ns; rw[ih,qaE]
theorem zol(cs:List Int)(hl:cs.length≤12):∀(n i:Nat) (a:Nat),a≤4096→i≤cs.length→cs.length - i<n→zbW cs n ((a:Nat):Int) (i:Int)=some (bif zep a (cs.drop i)then(((a * zfc (cs.drop i):Nat):Int),true)else(0,false))
 | 0,_,_,_,_,h=>absurd h (qaS _)
 | n+1,i,a,ha,hi,hn=>by
  unfold zbW;rcases qa5 i cs.length with h3 | h3
  ·rw[zpk h3,cond_true,zcO h3,qaa,qav h3];generalize cs[i]=c;simp only[zep,zfc];by_cases h1:c<1
   ·rw[decide_eq_true h1,cond_true,qaa,cond_true,decide_eq_false (show ¬ 1≤c by omega)];rfl
   rw[decide_eq_false h1,cond_false,decide_eq_true (show 1≤c by omega)];by_cases h2:8<c
   ·rw[decide_eq_true h2,cond_true,qaa,cond_true,decide_eq_false (show ¬ c≤8 by omega)];rfl
   rw[decide_eq_false h2,cond_false,decide_eq_true (show c≤8 by omega)];obtain⟨m,rfl⟩:∃ m:Nat,c=(m:Int):=⟨c.toNat,by omega⟩;have hb:a * m≤4096 * 8:=qbr ha (by omega);rw[← qaR,zce (by omega),qaa,qaE];by_cases h4:a * m≤4096
   ·rw[show decide ((4096:Int)<((a * m:Nat):Int))=false from decide_eq_false (by omega),cond_false,zbe (by omega),zol cs hl n (i+1) (a * m) h4 h3 (by omega),decide_eq_true h4,qbF];rfl
   rw[show decide ((4096:Int)<((a * m:Nat):Int))=true from decide_eq_true (by omega),cond_true,decide_eq_false h4];rfl
  obtain rfl:i=cs.length:=by omega
  rw[zpJ,cond_false,qaZ];simp[zep,zfc]
def zbJ(cs:List Int):Bool:=decide (cs.length≤12) && zep 1 cs
theorem zqV(cs:List Int):zcg cs=some (bif zbJ cs then(((zfc cs:Nat):Int),0)else(0,20)):=by
 unfold zcg zdm zbJ;by_cases hl:cs.length≤12
 ·rw[show decide ((12:Int)<(cs.length:Int))=false from decide_eq_false (by omega),cond_false,zcL];have:=zol cs hl (cs.length+2) 0 1 (by omega) (qaM _) (by omega);rw[show((1:Nat):Int)=1 from rfl,show((0:Nat):Int)=0 from rfl,qaQ,qbW]at this;rw[this,decide_eq_true hl,qbn];cases zep 1 cs<;>rfl
 rw[show decide ((12:Int)<(cs.length:Int))=true from decide_eq_true (by omega),cond_true,decide_eq_false hl];rfl
theorem zmJ(cs:List Int)(hl:cs.length≤12):∀(n i:Nat) (a:Nat),a≤4096→zep a (cs.drop i)=true→i≤cs.length→cs.length - i<n→zc3 cs n ((a:Nat):Int) (i:Int)=some (((a * zfc (cs.drop i):Nat):Int))
 | 0,_,_,_,_,_,h=>absurd h (qaS _)
 | n+1,i,a,ha,hc,hi,hn=>by
  unfold zc3;rcases qa5 i cs.length with h3 | h3
  ·rw[qav h3]at hc ⊢;rw[zpk h3,cond_true,zcO h3,qaa];simp only[zep,zfc,qag,decide_eq_true_eq]at hc ⊢;obtain⟨⟨⟨h1,h2⟩,h4⟩,h5⟩:=hc;obtain⟨m,hm⟩:∃ m:Nat,cs[i]=(m:Int):=⟨cs[i].toNat,by omega⟩;rw[hm,qaE]at h4 h5 ⊢;rw[← qaR,zce (by omega),zbe (by omega),zmJ cs hl n (i+1) (a * m) h4 h5 h3 (by omega),qbF]
  obtain rfl:i=cs.length:=by omega
  rw[zpJ,cond_false,qaZ];simp[zfc]
theorem zmr{cs:List Int}(h:zbJ cs=true):zd2 cs=some ((zfc cs:Nat):Int):=by
 unfold zbJ at h;simp only[qag,decide_eq_true_eq]at h;unfold zd2;rw[zcL];have:=zmJ cs h.1 (cs.length+2) 0 1 (by omega) (by rw[qaQ]; exact h.2) (qaM _) (by omega);rw[show((1:Nat):Int)=1 from rfl,show((0:Nat):Int)=0 from rfl,qaQ,qbW]at this;rw[this];rfl
def zse:Int→List Int→Bool
 | _,[]=>true
 | l,v :: vs=>decide (l<v) && decide (v≤63) && zse v vs
def zrP:List Int→Bool
 | []=>true
 | w :: ws=>decide (0≤w) && decide (w≤4611686018427387903) && zrP ws
def ztV(x:S_api_Factor):Bool:=zbJ x.zad && decide (x.vars.length=x.zad.length) && decide (x.w.length=zfc x.zad) && zse (-1) x.vars && zrP x.w
def zaC:List Nat→List Nat
 | []=>[]
 | _ :: cs=>zae cs :: zaC cs
theorem zeZ(cs:List Nat):(zaC cs).length=cs.length:=by induction cs with | nil=>rfl | cons c cs ih=>simp[zaC,ih]
abbrev noT:S_factor_table×Int:=(⟨⟨[],[],[]⟩,[]⟩,30)
theorem zoE(x:S_api_Factor)(hl:x.vars.length≤12):∀(n i:Nat) (l:Int),i≤x.vars.length→x.vars.length - i<n→zbV x n l (i:Int)=some (bif zse l (x.vars.drop i)then .go ()else .ret noT)
 | 0,_,_,_,h=>absurd h (qaS _)
 | n+1,i,l,hi,hn=>by
  unfold zbV;rcases qa5 i x.vars.length with h3 | h3
  ·rw[zpk h3,cond_true,zcO h3,qaa,qav h3];generalize x.vars[i]=v;simp only[zse];by_cases h1:v≤l
   ·rw[decide_eq_true h1,cond_true,qaa,cond_true,decide_eq_false (show ¬ l<v by omega)];rfl
   rw[decide_eq_false h1,cond_false,qaa,decide_eq_true (show l<v by omega)];by_cases h2:63<v
   ·rw[decide_eq_true h2,cond_true,decide_eq_false (show ¬ v≤63 by omega)];rfl
   rw[decide_eq_false h2,cond_false,decide_eq_true (show v≤63 by omega),zbe (by omega),zoE x hl n (i+1) v h3 (by omega)];rfl
  obtain rfl:i=x.vars.length:=by omega
  rw[zpJ,cond_false,qaZ];rfl
theorem znV(x:S_api_Factor)(hl:x.w.length≤4096):∀(n i:Nat),i≤x.w.length→x.w.length - i<n→zb0 x n (i:Int)=some (bif zrP (x.w.drop i)then .go ()else .ret noT)
 | 0,_,_,h=>absurd h (qaS _)
 | n+1,i,hi,hn=>by
  unfold zb0;rcases qa5 i x.w.length with h3 | h3
  ·rw[zpk h3,cond_true,zcO h3,qaa,qav h3];generalize x.w[i]=v;simp only[zrP];by_cases h1:v<0
   ·rw[decide_eq_true h1,cond_true,qaa,cond_true,decide_eq_false (show ¬ 0≤v by omega)];rfl
   rw[decide_eq_false h1,cond_false,qaa,decide_eq_true (show 0≤v by omega)];by_cases h2:4611686018427387903<v
   ·rw[decide_eq_true h2,cond_true,decide_eq_false (show ¬ v≤4611686018427387903 by omega)];rfl
   rw[decide_eq_false h2,cond_false,decide_eq_true (show v≤4611686018427387903 by omega),zbe (by omega),znV x hl n (i+1) h3 (by omega)];rfl
  obtain rfl:i=x.w.length:=by omega
  rw[zpJ,cond_false,qaZ];rfl
theorem zed{ns:List Nat}(h:∀ c∈ns,1≤c):∀ k,zae (ns.drop k)≤zae ns:=by
 induction ns with
 | nil=>intro k; simp
 | cons n ns ih=>
  intro k;cases k with
  | zero=>exact qai _
  | succ k=>
   have h1:=ih (fun c hc=>h c (qak _ hc)) k;have h2:=h n qap;show zae (ns.drop k)≤n * zae ns;exact qat h1 (qcj _ h2)
theorem zma(a b:List Nat):iL (a ++ b)=iL a ++ iL b:=by simp[iL]
theorem zdZ(k:Nat):iL (List.replicate k 0)=List.replicate k 0:=by simp[iL]
theorem zl0(x:S_api_Factor){ns:List Nat}(hx:x.zad=iL ns)(hc:∀ c∈ns,1≤c)(hp:zae ns≤4096)(hl:ns.length≤12):∀(k n:Nat),k≤ns.length→k<n →
  zbx x n ((zae (ns.drop k):Nat):Int) ((k:Int) - 1) (iL (List.replicate k 0 ++ zaC (ns.drop k)))=some (iL (zaC ns))
 | k,0,_,h=>absurd h (qaS _)
 | 0,n+1,_,_=>by
  unfold zbx;rw[show decide ((0:Int)≤((0:Nat):Int) - 1)=false from rfl,cond_false];rfl
 | k+1,n+1,hk,hn=>by
  have ih:=zl0 x hx hc hp hl k n (by omega) (by omega);have hk':k<ns.length:=hk;unfold zbx;have e:(((k+1:Nat):Int) - 1)=(k:Int):=by omega
  have hlen:k<(iL (List.replicate (k+1) 0 ++ zaC (ns.drop (k+1)))).length:=by rw[zaQ]; simp; omega
  rw[e,show decide ((0:Int)≤(k:Int))=true from decide_eq_true (by omega),cond_true,zcO hlen,qaa,zi4 hlen,qaa,hx,zc1 hk',qaa];have hd:ns.drop k=ns[k]:: ns.drop (k+1):=qav hk';have h1:(iL (List.replicate (k+1) 0 ++ zaC (ns.drop (k+1)))).set k ((zae (ns.drop (k+1)):Nat):Int)=iL (List.replicate k 0 ++ zaC (ns.drop k)):=by
   rw[hd,zma,zma,zdZ,zdZ,List.replicate_succ',qbe,List.set_append_right _ _ (by simp)];simp[zaC,iL]
  have h2:((zae (ns.drop (k+1)):Nat):Int)* ((ns[k]:Nat):Int)=((zae (ns.drop k):Nat):Int):=by
   rw[hd,← qaR,qbh]; rfl
  have h3:=zed hc k;rw[h1,h2,zce (by omega),zf0 (by omega) (by omega)];exact ih
def zoY(xs:List Int):List Nat:=xs.map Int.toNat
theorem zge(ns:List Nat):zoY (iL ns)=ns:=by
 induction ns with
 | nil=>rfl
 | cons n ns ih=>show(n:Int).toNat :: zoY (iL ns)=n :: ns; rw[ih,qaE]
theorem zhy{cs:List Int}(h:zbJ cs=true):∃ ns:List Nat,cs=iL ns∧(∀ c∈ns,1≤c∧c≤8)∧zae ns≤4096∧ns.length≤12:=by
 unfold zbJ at h;simp only[qag,decide_eq_true_eq]at h;obtain⟨ns,rfl,h1,h2⟩:=zic h.2;exact⟨ns,rfl,h1,by have:=h2 (by omega); omega,by have:=h.1; rw[zaQ]at this; exact this⟩
theorem zs7(x:S_api_Factor):zaE x=some (bif ztV x then(⟨x,iL (zaC (zoY x.zad))⟩,0)else noT):=by
 unfold zaE ztV;rw[zqV,qaa];cases hc:zbJ x.zad with
 | false=>
  rw[cond_false];rfl
 | true=>
  obtain⟨ns,hx,h1,h2,h3⟩:=zhy hc;rw[cond_true,show(((((zfc x.zad:Nat):Int),(0:Int)).2 == 0))=true from rfl,cond_true,qbn];by_cases hv:x.vars.length=x.zad.length
  ·rw[show(((x.vars.length:Nat):Int)==((x.zad.length:Nat):Int))=true by rw[hv]; exact beq_self_eq_true _,cond_true,qaa,decide_eq_true hv,qbn];by_cases hw:x.w.length=zfc x.zad
   ·have hw':x.w.length≤4096:=by rw[hw,hx,zey]; exact h2
    have hl:x.vars.length≤12:=by rw[hv,hx,zaQ]; exact h3
    rw[show(!(((x.w.length:Nat):Int)==((zfc x.zad:Nat):Int)))=false by rw[hw,beq_self_eq_true]; rfl,cond_false,decide_eq_true hw,qbn,zcL,zcL];have e1:=zoE x hl (x.vars.length+2) 0 (-1) (qaM _) (by omega);have e2:=znV x hw' (x.w.length+2) 0 (qaM _) (by omega);rw[show((0:Nat):Int)=0 from rfl,qaQ]at e1 e2;rw[e1,qaa];cases zse (-1) x.vars with
    | false=>rfl
    | true=>
     rw[cond_true,qbn];simp only;rw[e2,qaa];cases zrP x.w with
     | false=>rfl
     | true=>
      rw[cond_true];simp only;have hlen:x.zad.length=ns.length:=by rw[hx,zaQ]
      have e3:=zl0 x hx (fun c hc=>(h1 c hc).1) h2 h3 ns.length (ns.length+1+1) (qai _) (by omega);rw[qaZ]at e3;rw[zdk (by omega),qaa,qaE,hlen,zf0 (by omega) (by omega),show((ns.length:Int) - 1 - 0+2).toNat=ns.length+1 by omega];have e4:=zl0 x hx (fun c hc=>(h1 c hc).1) h2 h3 ns.length (ns.length+1) (qai _) (by omega);rw[qaZ]at e4;rw[show iL (List.replicate ns.length 0 ++ zaC [])=List.replicate ns.length 0 by simp[zaC,iL],show((zae []:Nat):Int)=1 from rfl]at e4;rw[e4,qaa,cond_true,hx,zge]
   rw[show(!(((x.w.length:Nat):Int)==((zfc x.zad:Nat):Int)))=true by rw[qbI]; exact beq_false_of_ne (by omega),cond_true,decide_eq_false hw];rfl
  rw[show(((x.vars.length:Nat):Int)==((x.zad.length:Nat):Int))=false from beq_false_of_ne (by omega),cond_false,qaa,cond_true,decide_eq_false hv];rfl
structure Fc where
 vs:List Nat
 cs:List Nat
 ws:List Nat
def Fc.D(f:Fc):S_api_Factor:=⟨iL f.vs,iL f.cs,iL f.ws⟩
structure FcOk (f:Fc):Prop where
 len:f.vs.length=f.cs.length
 le:f.cs.length≤12
 zdN:∀ c∈f.cs,1≤c∧c≤8
 prod:zae f.cs≤4096
 size:f.ws.length=zae f.cs
 inc:f.vs.Pairwise (· < ·)
 var:∀ v∈f.vs,v<64
 num:∀ w∈f.ws,w≤zdj
theorem zpE:∀ {ns:List Nat} {l:Int},ns.Pairwise (· < ·)→(∀ v∈ns,v<64∧l<(v:Int))→zse l (iL ns)=true
 | [],_,_,_=>rfl
 | n :: ns,l,h1,h2=>by
  have h3:=h2 n qap;obtain⟨h4,h5⟩:=qaX.1 h1;show(decide (l<(n:Int)) && decide ((n:Int)≤63) && zse (n:Int) (iL ns))=true;rw[decide_eq_true h3.2,decide_eq_true (by omega),zpE h5 fun v hv=>⟨(h2 v (qak _ hv)).1,by have:=h4 v hv; omega⟩];rfl
theorem znW:∀ {ns:List Nat},(∀ w∈ns,w≤zdj)→zrP (iL ns)=true
 | [],_=>rfl
 | n :: ns,h=>by
  have h1:n≤4611686018427387903:=h n qap;show(decide (0≤(n:Int)) && decide ((n:Int)≤4611686018427387903) && zrP (iL ns))=true;rw[decide_eq_true (by omega),decide_eq_true (by omega),znW fun w hw=>h w (qak _ hw)];rfl
theorem zsl{f:Fc}(h:FcOk f):ztV f.D=true:=by
 unfold ztV Fc.D zbJ;simp only[zaQ];rw[decide_eq_true h.le,zhd h.zdN (by have:=h.prod; omega),decide_eq_true h.len,decide_eq_true (by rw[zey]; exact h.size),zpE h.inc fun v hv=>⟨h.var v hv,by omega⟩,znW h.num];rfl
def Fc.T(f:Fc):S_factor_table:=⟨f.D,iL (zaC f.cs)⟩
theorem zhw{f:Fc}(h:FcOk f):zaE f.D=some (f.T,0):=by
 rw[zs7,zsl h,cond_true,show f.D.zad=iL f.cs from rfl,zge];rfl
def zk6:List Int→Int→Option Nat
 | [],_=>none
 | x :: xs,v=>bif x == v then some 0 else(zk6 xs v).map (· + 1)
def ixZ:Option Nat→Int
 | none=>-1
 | some k=>(k:Int)
theorem zkx:∀ {xs:List Int} {v:Int} {k:Nat},zk6 xs v=some k→∃ h:k<xs.length,xs[k]=v
 | x :: xs,v,k,h=>by
  unfold zk6 at h;cases hb:(x == v)with
  | true=>
   rw[hb,cond_true]at h;cases h;exact⟨by simp,by simpa using hb⟩
  | false=>
   rw[hb,cond_false]at h;cases hp:zk6 xs v with
   | none=>rw[hp]at h; cases h
   | some j=>
    rw[hp]at h;cases h;obtain⟨g1,g2⟩:=zkx hp;exact⟨by simp; omega,by simpa using g2⟩
theorem zke:∀ {xs:List Int} {v:Int},zk6 xs v=none→v ∉ xs
 | [],v,_=>by simp
 | x :: xs,v,h=>by
  unfold zk6 at h;cases hb:(x == v)with
  | true=>rw[hb,cond_true]at h; cases h
  | false=>
   rw[hb,cond_false]at h;have h1:zk6 xs v=none:=by
    cases hp:zk6 xs v with
    | none=>rfl
    | some j=>rw[hp]at h; cases h
   have h2:x≠v:=by simpa using hb
   intro hm;rcases qaD.1 hm with rfl | hm
   ·exact h2 rfl
   exact zke h1 hm
theorem zpw(xs:List Int)(v:Int)(hl:xs.length<4611686018427387904):∀(n i:Nat),i≤xs.length→xs.length - i<n→zaN xs v n (i:Int)=some (match zk6 (xs.drop i) v with | none=>.go ()| some k=>.ret ((i+k:Nat):Int))
 | 0,_,_,h=>absurd h (qaS _)
 | n+1,i,hi,hn=>by
  unfold zaN;rcases qa5 i xs.length with h3 | h3
  ·rw[zpk h3,cond_true,zcO h3,qaa,qav h3];generalize xs[i]=x;unfold zk6;by_cases h:v=x
   ·subst h;rw[beq_self_eq_true,cond_true,cond_true];rfl
   rw[show(v == x)=false from beq_false_of_ne h,show(x == v)=false from beq_false_of_ne (fun e=>h e.symm),cond_false,cond_false,zbe (by omega),zpw xs v hl n (i+1) h3 (by omega)];cases zk6 (xs.drop (i+1)) v with
   | none=>rfl
   | some k=>
    simp only[qaL];rw[show i+1+k=i+(k+1) by omega]
  obtain rfl:i=xs.length:=by omega
  rw[zpJ,cond_false,qaZ];rfl
theorem zry{xs:List Int}(hl:xs.length<4611686018427387904)(v:Int):za3 xs v=some (ixZ (zk6 xs v)):=by
 unfold za3;have h:=zpw xs v hl (xs.length+2) 0 (qaM _) (by omega);rw[show((0:Nat):Int)=0 from rfl,qaQ]at h;rw[zcL,h,qaa];cases zk6 xs v with
 | none=>rfl
 | some k=>simp only[qaV]; rfl
theorem FcOk.vl{f:Fc}(h:FcOk f):(iL f.vs).length<4611686018427387904:=by rw[zaQ,h.len]; have:=h.le; omega
theorem zeI{f:Fc}(h:FcOk f)(v:Int):zak f.T v=some (ixZ (zk6 (iL f.vs) v)):=by
 unfold zak;rw[show f.T.factor.vars=iL f.vs from rfl,zry h.vl,qaa]
theorem zpe(o:Option Nat):decide ((0:Int)≤ixZ o)=o.isSome:=by
 cases o with
 | none=>rfl
 | some k=>exact decide_eq_true (qbQ k)
def pos:List Nat→Nat→Option Nat
 | [],_=>none
 | x :: xs,v=>bif x == v then some 0 else(pos xs v).map (· + 1)
theorem zb4:∀(xs:List Nat) (v:Nat),zk6 (iL xs) (v:Int)=pos xs v
 | [],v=>rfl
 | x :: xs,v=>by
  show(bif ((x:Int)==(v:Int))then some 0 else(zk6 (iL xs) (v:Int)).map (· + 1))=pos (x :: xs) v;rw[zb4 xs v];show _=(bif x == v then some 0 else(pos xs v).map (· + 1));cases hb:(x == v)with
  | true=>
   have:x=v:=by simpa using hb
   subst this;rw[beq_self_eq_true]
  | false=>
   have h1:x≠v:=by simpa using hb
   have h2:((x:Int)==(v:Int))=false:=beq_false_of_ne (by omega);rw[h2]
theorem zb6{xs:List Nat}{v k:Nat}(h:pos xs v=some k):∃ hk:k<xs.length,xs[k]=v:=by
 rw[← zb4]at h;obtain⟨h1,h2⟩:=zkx h;rw[zaQ]at h1;refine⟨h1,?_⟩;rw[zrp h1]at h2;omega
theorem zjH{xs:List Nat}{v:Nat}(h:pos xs v=none):v ∉ xs:=by
 rw[← zb4]at h;have:=zke h;intro hm;exact this (qaC.2 ⟨v,hm,rfl⟩)
theorem zfu{xs:List Nat}{v:Nat}(h:v∈xs):∃ k,pos xs v=some k:=by
 cases hp:pos xs v with
 | none=>exact absurd h (zjH hp)
 | some k=>exact⟨k,rfl⟩
def zeq(f g:Fc):Nat→List Nat→Bool
 | _,[]=>true
 | i,v :: vs=>(match pos g.vs v with | none=>true | some k=>g.cs.getD k 0 == f.cs.getD i 0) && zeq f g (i+1) vs
theorem zcU{xs:List Nat}{i:Nat}(h:i<xs.length):zbq (iL xs) (i:Int)=some ((xs.getD i 0:Nat):Int):=by
 rw[zc1 h]; simp[List.getD,h]
theorem zlP(a b:Nat):((a:Int)==(b:Int))=(a == b):=by
 rw[Bool.eq_iff_iff,beq_iff_eq,beq_iff_eq];exact Int.ofNat_inj
theorem zpi{f g:Fc}(hf:FcOk f)(hg:FcOk g):∀(n i:Nat),i≤f.vs.length→f.vs.length - i<n→zbH f.T g.T n (i:Int)=some (bif zeq f g i (f.vs.drop i)then .go ()else .ret false)
 | 0,_,_,h=>absurd h (qaS _)
 | n+1,i,hi,hn=>by
  have hle:=hf.le;have hlen:=hf.len;unfold zbH;rw[show f.T.factor.vars=iL f.vs from rfl,show f.T.factor.zad=iL f.cs from rfl,show g.T.factor.zad=iL g.cs from rfl,zaQ];rcases qa5 i f.vs.length with h3 | h3
  ·rw[zpk h3,cond_true,zc1 h3,qaa,zeI hg,zb4,qaa,zpe,qav h3];simp only[zeq];have ih:=zpi hf hg n (i+1) h3 (by omega);cases hp:pos g.vs f.vs[i]with
   | none=>
    rw[Option.isSome_none,cond_false,qaa,cond_false,zbe (by omega),ih,qbn]
   | some k=>
    obtain⟨hk,_⟩:=zb6 hp;rw[qcd,cond_true,show ixZ (some k)=(k:Int)from rfl,zcU (by rw[← hg.len]; exact hk),qaa,zcU (by omega),qaa,qaa,zlP];cases hb:(g.cs.getD k 0 == f.cs.getD i 0)with
    | true=>simp only[hb]; rw[qa2,cond_false,zbe (by omega),ih,qbn]
    | false=>simp only[hb]; rw[qbp,cond_true,Bool.false_and]; rfl
  obtain rfl:i=f.vs.length:=by omega
  rw[zpJ,cond_false,qaZ];rfl
theorem zr0{f g:Fc}(hf:FcOk f)(hg:FcOk g):zb2 f.T g.T=some (zeq f g 0 f.vs):=by
 unfold zb2;have h:=zpi hf hg (f.vs.length+2) 0 (qaM _) (by omega);rw[show((0:Nat):Int)=0 from rfl,qaQ]at h;rw[show f.T.factor.vars=iL f.vs from rfl,zaQ,zcL,h,qaa];cases zeq f g 0 f.vs<;>rfl
def dig:List Nat→Nat→List Nat
 | [],_=>[]
 | _ :: cs,i=>i / zae cs :: dig cs (i % zae cs)
theorem zgq:∀(cs:List Nat) (i:Nat),(dig cs i).length=cs.length
 | [],_=>rfl
 | _ :: cs,i=>by simp[dig,zgq cs]
def dot:List Nat→List Nat→Nat
 | x :: xs,s :: ss=>x * s+dot xs ss
 | _,_=>0
theorem zjB:∀ {xs ss:List Nat} (ys ts:List Nat),xs.length=ss.length→dot (xs ++ ys) (ss ++ ts)=dot xs ss+dot ys ts
 | [],[],ys,ts,_=>by simp[dot]
 | x :: xs,s :: ss,ys,ts,h=>by
  simp only[qbf,dot];rw[zjB ys ts (by simpa using h)]; omega
 | [],_ :: _,_,_,h=>by simp at h
 | _ :: _,[],_,_,h=>by simp at h
theorem zlo(x s:Nat):dot [x] [s]=x * s:=by simp[dot]
def zcp:List Nat→List Nat→Prop
 | [],[]=>True
 | c :: cs,x :: xs=>x<c∧c≤8∧zcp cs xs
 | _,_=>False
theorem zcp.len:∀ {cs xs:List Nat},zcp cs xs→xs.length=cs.length
 | [],[],_=>rfl
 | c :: cs,x :: xs,h=>by simp[h.2.2.len]
theorem zcp.snoc:∀ {cs xs:List Nat} {c x:Nat},zcp (cs ++ [c]) (xs ++ [x])→xs.length=cs.length→zcp cs xs∧x<c∧c≤8
 | [],[],c,x,h,_=>⟨qcw,h.1,h.2.1⟩
 | c :: cs,x :: xs,_,_,h,hl=>by
  obtain⟨h1,h2,h3⟩:=h;obtain⟨g1,g2⟩:=h3.snoc (by simpa using hl);exact⟨⟨h1,h2,g1⟩,g2⟩
theorem zbr{cs:List Nat}(h:∀ c∈cs,1≤c∧c≤8):0<zae cs:=zkc fun c hc=>(h c hc).1
theorem zdB:∀ {cs:List Nat} {i:Nat},(∀ c∈cs,1≤c∧c≤8)→i<zae cs→zcp cs (dig cs i)
 | [],_,_,_=>trivial
 | c :: cs,i,h,hi=>by
  have hc:=h c qap;have hp:=zbr fun d hd=>h d (qak c hd)
  refine⟨?_,hc.2,zdB (fun d hd=>h d (qak c hd)) (qbw _ hp)⟩;have h1:i<c * zae cs:=hi;exact qb7 (by rw[qbh]; exact h1)
theorem zqZ:∀ {cs xs ss:List Nat},zcp cs xs→(∀ s∈ss,s≤4096)→dot xs ss≤cs.length * 32768
 | [],[],_,_,_=>by simp[dot]
 | c :: cs,x :: xs,[],_,_=>by simp[dot]
 | c :: cs,x :: xs,s :: ss,h,hs=>by
  have h1:=zqZ h.2.2 fun t ht=>hs t (qak _ ht)
  have h2:=hs s qap;have h3:x * s≤8 * 4096:=qbr (by have:=h.1; have:=h.2.1; omega) h2;simp only[dot,qaT];omega
def nxt:List Nat→List Nat→Option (List Nat)
 | c :: cs,v :: vs=>match nxt cs vs with
  | some vs'=>some (v :: vs')
  | none=>if v+1<c then some ((v+1):: List.replicate vs.length 0)else none
 | _,_=>none
theorem zhH:∀ {cs vs:List Nat} {c v:Nat},vs.length=cs.length→v+1<c→nxt (cs ++ [c]) (vs ++ [v])=some (vs ++ [v+1])
 | [],[],c,v,_,h=>by simp[nxt,h]
 | d :: cs,u :: vs,c,v,hl,h=>by
  simp only[qbf,nxt,zhH (show vs.length=cs.length by simpa using hl) h]
theorem zgx:∀ {cs vs:List Nat} {c v:Nat},vs.length=cs.length→¬ v+1<c→nxt (cs ++ [c]) (vs ++ [v])=(nxt cs vs).map (· ++ [0])
 | [],[],c,v,_,h=>by simp[nxt,h]
 | d :: cs,u :: vs,c,v,hl,h=>by
  simp only[qbf,nxt,zgx (show vs.length=cs.length by simpa using hl) h];cases hn:nxt cs vs with
  | some vs'=>rfl
  | none=>
   simp only[qct];by_cases hu:u+1<d
   ·rw[if_pos hu,if_pos hu];simp[List.replicate_succ']
   rw[if_neg hu,if_neg hu]; rfl
theorem ziL:∀(cs:List Nat),dig cs 0=List.replicate cs.length 0
 | []=>rfl
 | c :: cs=>by simp[dig,ziL cs,qaP]
theorem zpv:∀ {cs:List Nat} {i:Nat},(∀ c∈cs,1≤c∧c≤8)→i<zae cs→nxt cs (dig cs i)=if i+1<zae cs then some (dig cs (i+1))else none
 | [],i,_,hi=>by
  have:i=0:=by simpa [zae]using hi
  subst this;simp[nxt,zae]
 | c :: cs,i,h,hi=>by
  have hp:=zbr fun d hd=>h d (qak c hd)
  have hm:=qbw i hp;have ih:=zpv (fun d hd=>h d (qak c hd)) hm;have hi':i<c * zae cs:=hi;simp only[dig,nxt,ih];have hdm:=qb3 i (zae cs);generalize hq:i / zae cs=q at *;generalize hr:i % zae cs=r at *;have hprod:zae (c :: cs)=c * zae cs:=rfl;by_cases h1:r+1<zae cs
  ·rw[if_pos h1];have e1:(i+1) / zae cs=q:=by
    rw[← hdm,qa8,Nat.mul_add_div hp,Nat.div_eq_of_lt h1,qbi]
   have e2:(i+1) % zae cs=r+1:=by
    rw[← hdm,qa8,Nat.mul_add_mod,qaY h1]
   have hqc:q<c:=by rw[← hq]; exact qb7 (by rw[qbh]; exact hi')
   have h2:i+1<zae (c :: cs):=by
    rw[hprod];have:(q+1)* zae cs≤c * zae cs:=qaq _ hqc;rw[qaJ,qbW,qbh q]at this;omega
   rw[if_pos h2,e1,e2]
  rw[if_neg h1];have hr1:r+1=zae cs:=by omega
  have hi1:i+1=zae cs * (q+1):=by rw[Nat.mul_add,Nat.mul_one]; omega
  simp only;have h4:(q+1<c)↔(i+1<zae (c :: cs)):=by
   rw[hprod,hi1,qbh c];exact(Nat.mul_lt_mul_left hp).symm
  by_cases h5:q+1<c
  ·rw[if_pos h5,if_pos (h4.1 h5),hi1,Nat.mul_div_cancel_left _ hp,Nat.mul_mod_right,ziL,zgq]
  rw[if_neg h5,if_neg (fun h=>h5 (h4.2 h))]
theorem zcm{xs ys:List Nat}{x:Nat}{k:Nat}(h:xs.length=k):zbq (iL (xs ++ x :: ys)) (k:Int)=some (x:Int):=by
 subst h;rw[zc1 (by simp)];simp
theorem zc7{xs ys:List Nat}{x y:Nat}{k:Nat}(h:xs.length=k):zgA (iL (xs ++ x :: ys)) (k:Int) (y:Int)=some (iL (xs ++ y :: ys)):=by
 subst h;rw[zi4 (by rw[zaQ]; simp)];simp[iL]
theorem zl4{xs:List Nat}{k:Nat}(h:xs.length=k+1):∃ ys y,xs=ys ++ [y]∧ys.length=k:=by
 have hne:xs≠[]:=by rintro rfl; simp at h
 exact⟨xs.dropLast,xs.getLast hne,(List.dropLast_concat_getLast hne).symm,by simp[h]⟩
theorem zmF:∀(k:Nat) (xs cx sx cy sy zs:List Nat) (e:Nat),xs.length=k→cx.length=k→sx.length=k→zcp cx xs→(∀ s∈sx,s≤4096)→k≤12→e≤1000000 →
  ∃ r,ziu (iL (cx ++ cy)) (iL (sx ++ sy)) k (iL (xs ++ zs)) ((dot xs sx+e:Nat):Int)=some r∧match nxt cx xs with
   | none=>r.2.2 = -1
   | some xs'=>∃(j:Nat) (v st:Int),r.2.2=(j:Int)∧zbq r.1 (j:Int)=some v∧zgA r.1 (j:Int) (w64 (v+1))=some (iL (xs' ++ zs))∧zbq (iL (sx ++ sy)) (j:Int)=some st∧w64 (r.2.1+st)=((dot xs' sx+e:Nat):Int)
 | 0,xs,cx,sx,cy,sy,zs,e,hx,hc,hs,_,_,_,_=>by
  obtain rfl:xs=[]:=qaB.1 hx;obtain rfl:cx=[]:=qaB.1 hc;exact⟨_,rfl,rfl⟩
 | k+1,xs,cx,sx,cy,sy,zs,e,hx,hc,hs,hb,hsm,hk,he=>by
  obtain⟨xs,x,rfl,lx⟩:=zl4 hx;obtain⟨cx,c,rfl,lc⟩:=zl4 hc;obtain⟨sx,s,rfl,ls⟩:=zl4 hs;obtain⟨hb1,hb2,hb3⟩:=hb.snoc (lx.trans lc.symm);have hd:=zqZ hb1 fun t ht=>hsm t (qcq _ ht)
  have hss:s≤4096:=hsm s (by simp);have hxs:x * s≤8 * 4096:=qbr (by omega) hss;have hlen:cx.length * 32768≤12 * 32768:=qaq _ (by omega);simp only[qbe,qa3];unfold ziu;rw[zcm lx,qaa,zcm lc,qaa,zf0 (by omega) (by omega)];rw[zjB [x] [s] (lx.trans ls.symm),zlo];by_cases h1:x+1<c
  ·rw[show((x:Int)==(c:Int) - 1)=false from beq_false_of_ne (by omega),cond_false,zhH (lx.trans lc.symm) h1];refine⟨_,rfl,k,(x:Int),(s:Int),rfl,zcm lx,?_,zcm ls,?_⟩
   ·rw[zbe (by omega),zc7 lx]; simp
   rw[zjB [x+1] [s] (lx.trans ls.symm),zlo,← qb4,zce (by omega),qaJ];congr 1; omega
  rw[show((x:Int)==(c:Int) - 1)=true by rw[show(x:Int)=(c:Int) - 1 by omega]; exact beq_self_eq_true _,cond_true,zcm ls,qaa,show(0:Int)=((0:Nat):Int)from rfl,zc7 lx,qaa,← qaR,
   zce (by omega),show(((dot xs sx+x * s+e:Nat):Int) - ((x * s:Nat):Int))=((dot xs sx+e:Nat):Int) by omega,zce (by omega),zgx (lx.trans lc.symm) h1]
  obtain⟨r,h2,h3⟩:=zmF k xs cx sx (c :: cy) (s :: sy) (0 :: zs) e lx lc ls hb1 (fun t ht=>hsm t (qcq _ ht)) (by omega) he;refine⟨r,h2,?_⟩;cases hn:nxt cx xs with
  | none=>rw[hn]at h3; exact h3
  | some xs'=>
   rw[hn]at h3;obtain⟨j,v,st,g1,g2,g3,g4,g5⟩:=h3;have hl':xs'.length=sx.length:=by
    have:∀ {cs vs ws:List Nat},nxt cs vs=some ws→vs.length=cs.length→ws.length=vs.length:=by
     intro cs;induction cs with
     | nil=>intro vs ws h _; simp[nxt]at h
     | cons d cs ih=>
      intro vs ws h hl;cases vs with
      | nil=>simp[nxt]at h
      | cons u vs=>
       simp only[nxt]at h;cases hq:nxt cs vs with
       | some vs'=>
        rw[hq]at h;cases h;simp[ih hq (by simpa using hl)]
       | none=>
        rw[hq]at h;simp only at h;split at h
        ·cases h; simp
        cases h
    rw[this hn (lx.trans lc.symm),lx,ls]
   refine⟨j,v,st,g1,g2,by rw[g3]; simp,g4,?_⟩;rw[g5,zjB [0] [s] hl',zlo,qb2,qbi]
def zfM(cs ss:List Nat)(i m:Nat):List (Int×Int×List Int):=(List.range' i m).map fun j:Nat=>((j:Int),((dot (dig cs j) ss:Nat):Int),iL (dig cs j))
theorem ztl{cs ss:List Nat}(hc:∀ c∈cs,1≤c∧c≤8)(hl:cs.length≤12)(hp:zae cs≤4096)(hs:ss.length=cs.length)(hsm:∀ s∈ss,s≤4096):∀(m i n:Nat),i+(m+1)=zae cs→m<n →
  zsQ (iL cs) (iL ss) n (iL (dig cs i)) (i:Int) ((dot (dig cs i) ss:Nat):Int)=some (zfM cs ss i (m+1))
 | m,i,0,_,h=>absurd h (qaS _)
 | m,i,n+1,hi,hn=>by
  have hb:=zdB hc (show i<zae cs by omega);obtain⟨r,h1,h2⟩:=zmF cs.length (dig cs i) cs ss [] [] [] 0 (zgq _ _) rfl hs hb hsm hl (by omega);simp only[qba,qbi]at h1 h2;unfold zsQ;rw[zaQ,h1,qaa];rw[zpv hc (show i<zae cs by omega)]at h2;cases m with
  | zero=>
   rw[if_neg (by omega)]at h2;simp only at h2;rw[h2];rfl
  | succ m=>
   rw[if_pos (by omega)]at h2;simp only at h2;obtain⟨j,v,st,g1,g2,g3,g4,g5⟩:=h2;rw[g1,show decide ((j:Int)<0)=false from decide_eq_false (by omega),cond_false,g2,qaa,g3,qaa,g4,qaa,g5,zbe (by omega),ztl hc hl hp hs hsm m (i+1) n (by omega) (by omega)];rfl
theorem zod(cs:List Nat):∀ a:Nat,(iL cs).foldl (· * ·) (a:Int)=((a * zae cs:Nat):Int):=by
 induction cs with
 | nil=>intro a; simp[iL,zae]
 | cons c cs ih=>
  intro a;show(iL cs).foldl (· * ·) ((a:Int)* (c:Int))=_;rw[← qaR,ih,qbF];rfl
theorem zmk{cs ss:List Nat}(hc:∀ c∈cs,1≤c∧c≤8)(hl:cs.length≤12)(hp:zae cs≤4096)(hs:ss.length=cs.length)(hsm:∀ s∈ss,s≤4096):zpT (iL cs) (iL ss)=some (zfM cs ss 0 (zae cs)):=by
 have hpos:=zbr hc;unfold zpT zmj;rw[if_pos (by rw[zaQ]; omega),qaa,zaQ,zdk (by omega),qaa];have h:=zod cs 1;rw[show((1:Nat):Int)=1 from rfl]at h;rw[h,qbW,qaE];obtain⟨m,hm⟩:∃ m,zae cs=m+1:=⟨zae cs - 1,by omega⟩;have e:=ztl hc hl hp hs hsm m 0 (m+1) (by omega) (by omega);have hz:∀(n:Nat) (ss:List Nat),dot (List.replicate n 0) ss=0:=by
  intro n;induction n with
  | zero=>intro ss; simp[dot]
  | succ n ih=>
   intro ss;cases ss with
   | nil=>simp[qaP,dot]
   | cons s ss=>simp[qaP,dot,ih]
 rw[ziL,hz,zdZ]at e;rw[hm];exact e
theorem zuG(k:Nat):decide ((0:Int)≤(k:Int))=true:=decide_eq_true (qbQ k)
theorem pred_succ(k:Nat):((k+1:Nat):Int) - 1=(k:Int):=by omega
theorem zi3{cs:List Nat}(hc:∀ c∈cs,1≤c)(hp:zae cs≤4096):∀ s∈zaC cs,s≤4096:=by
 induction cs with
 | nil=>intro s hs; cases hs
 | cons c cs ih=>
  have h1:=hc c qap;have h2:zae cs≤4096:=qat (qcj (zae cs) h1) hp;intro s hs;rcases qaD.1 hs with rfl | hs
  ·exact h2
  exact ih (fun d hd=>hc d (qak _ hd)) h2 s hs
theorem zcp.drop:∀ {cs xs:List Nat} (k:Nat),zcp cs xs→zcp (cs.drop k) (xs.drop k)
 | cs,xs,0,h=>h
 | [],[],k+1,_=>trivial
 | c :: cs,x :: xs,k+1,h=>h.2.2.drop k
theorem ziB:∀ {cs ds:List Nat},zcp cs ds→dot ds (zaC cs)<zae cs
 | [],[],_=>by simp[dot,zae]
 | c :: cs,d :: ds,h=>by
  have h1:=ziB h.2.2;show d * zae cs+dot ds (zaC cs)<c * zae cs;have h2:(d+1)* zae cs≤c * zae cs:=qaq _ h.1;rw[qaJ,qbW]at h2;omega
theorem zhD:∀ {cs:List Nat} {i:Nat},(∀ c∈cs,1≤c∧c≤8)→i<zae cs→dot (dig cs i) (zaC cs)=i
 | [],i,_,h=>by
  have:i=0:=by simpa [zae]using h
  subst this; rfl
 | c :: cs,i,hc,h=>by
  have hp:=zbr fun d hd=>hc d (qak c hd)
  show i / zae cs * zae cs+dot (dig cs (i % zae cs)) (zaC cs)=i;rw[zhD (fun d hd=>hc d (qak c hd)) (qbw _ hp),qbh];exact qb3 i (zae cs)
theorem zln:∀ {cs ds:List Nat},zcp cs ds→dig cs (dot ds (zaC cs))=ds
 | [],[],_=>rfl
 | c :: cs,d :: ds,h=>by
  have h1:=ziB h.2.2;have hp:0<zae cs:=by omega
  show((d * zae cs+dot ds (zaC cs)) / zae cs):: dig cs ((d * zae cs+dot ds (zaC cs)) % zae cs)=d :: ds;rw[qbh d,Nat.mul_add_div hp,Nat.div_eq_of_lt h1,qbi,Nat.mul_add_mod,qaY h1,zln h.2.2]
def stp:List Nat→List Nat→Nat→Nat
 | v :: vs,_ :: cs,u=>bif v == u then zae cs else stp vs cs u
 | _,_,_=>0
def at_:List Nat→List Nat→Nat→Nat
 | v :: vs,d :: ds,u=>bif v == u then d else at_ vs ds u
 | _,_,_=>0
theorem zg4:∀ {vs cs:List Nat} {u:Nat},vs.length=cs.length→stp vs cs u=(match pos vs u with | none=>0 | some k=>(zaC cs).getD k 0)
 | [],_,u,_=>by simp[stp,pos]
 | v :: vs,[],_,h=>by simp at h
 | v :: vs,c :: cs,u,h=>by
  have ih:=zg4 (u:=u) (show vs.length=cs.length by simpa using h);unfold stp pos;cases hb:(v == u)with
  | true=>rfl
  | false=>
   rw[cond_false,cond_false,ih];cases pos vs u with
   | none=>rfl
   | some k=>simp[zaC]
theorem zo7{f:Fc}(hf:FcOk f){vs:List Nat}(hl:vs.length≤100):∀(n i:Nat),i≤vs.length→vs.length - i<n →
  zaS (iL vs) f.T n (i:Int) (iL ((vs.map (stp f.vs f.cs)).take i ++ List.replicate (vs.length - i) 0))=some (iL (vs.map (stp f.vs f.cs)))
 | 0,_,_,h=>absurd h (qaS _)
 | n+1,i,hi,hn=>by
  unfold zaS;rw[zaQ];rcases qa5 i vs.length with h3 | h3
  ·have ih:=zo7 hf hl n (i+1) h3 (by omega);have ht:((vs.map (stp f.vs f.cs)).take i).length=i:=by simp; omega
   have e:List.replicate (vs.length - i) 0=0 :: List.replicate (vs.length - (i+1)) 0:=by
    rw[show vs.length - i=(vs.length - (i+1))+1 by omega,qaP]
   have e2:(vs.map (stp f.vs f.cs)).take (i+1)=(vs.map (stp f.vs f.cs)).take i ++ [stp f.vs f.cs vs[i]]:=by
    rw[qbv (by simpa using h3)]; simp
   rw[e2,qbe,qa3]at ih;rw[zpk h3,cond_true,zc1 h3,qaa,zeI hf,qaa,zb4,zpe,e];rw[zg4 hf.len]at ih;cases hp:pos f.vs vs[i]with
   | none=>
    rw[hp]at ih;rw[Option.isSome_none,cond_false,qaa,zbe (by omega)];exact ih
   | some k=>
    rw[hp]at ih;obtain⟨hk,_⟩:=zb6 hp;rw[qcd,cond_true,show ixZ (some k)=(k:Int)from rfl,show f.T.steps=iL (zaC f.cs)from rfl,zcU (by rw[zeZ,← hf.len]; exact hk),qaa,zcm ht,qaa,zc7 ht,qaa,qaa,zbe (by omega)];exact ih
  obtain rfl:i=vs.length:=by omega
  rw[zpJ,cond_false,Nat.sub_self,qbL,qba,qaG (by simp)]
theorem zlc{f:Fc}(hf:FcOk f){vs:List Nat}(hl:vs.length≤100):zaI f.T (iL vs)=some (iL (vs.map (stp f.vs f.cs))):=by
 unfold zaI;have h:=zo7 hf hl (vs.length+2) 0 (qaM _) (by omega);rw[qbG,qa9,qcv,zdZ,show((0:Nat):Int)=0 from rfl]at h;rw[zaQ,zdk (by omega),qaa,zcL,h];rfl
theorem zpl(g h:Nat→Nat):∀(ds vs:List Nat),dot ds (vs.map fun v=>g v+h v)=dot ds (vs.map g)+dot ds (vs.map h)
 | [],_=>by simp[dot]
 | d :: ds,[]=>by simp[dot]
 | d :: ds,v :: vs=>by
  simp only[qay,dot,zpl g h ds vs,Nat.mul_add];omega
theorem ziY:∀(ds vs:List Nat) (g:Nat→Nat),(∀ v∈vs,g v=0)→dot ds (vs.map g)=0
 | [],_,_,_=>by simp[dot]
 | d :: ds,[],_,_=>by simp[dot]
 | d :: ds,v :: vs,g,h=>by
  simp only[qay,dot,h v qap,Nat.mul_zero,ziY ds vs g fun u hu=>h u (qak _ hu)]
theorem zoQ{u p:Nat}:∀ {vs ds:List Nat},vs.Nodup→dot ds (vs.map fun v=>bif u == v then p else 0)=at_ vs ds u * p
 | [],ds,_=>by cases ds<;>simp[dot,at_]
 | v :: vs,[],_=>by simp[dot,at_]
 | v :: vs,d :: ds,h=>by
  obtain⟨h1,h2⟩:=qbq.1 h;simp only[qay,dot,at_];by_cases hb:u=v
  ·subst hb;rw[beq_self_eq_true,cond_true,cond_true,ziY ds vs _ (fun w hw=>by rw[show(u == w)=false from beq_false_of_ne (fun e=>h1 (e ▸ hw))]; rfl),qbi]
  rw[show(u == v)=false from beq_false_of_ne hb,show(v == u)=false from beq_false_of_ne (fun e=>hb e.symm),cond_false,cond_false,zoQ h2,Nat.mul_zero,qaV]
theorem zpO:∀ {us cs:List Nat} {u:Nat},u ∉ us→stp us cs u=0
 | [],_,_,_=>by simp[stp]
 | v :: us,[],_,_=>by simp[stp]
 | v :: us,c :: cs,u,h=>by
  unfold stp;rw[show(v == u)=false from beq_false_of_ne (fun e=>h (by rw[e]; exact qap)),cond_false,zpO fun hm=>h (qak _ hm)]
theorem zlG{vs ds:List Nat}(hv:vs.Nodup):∀ {us cs:List Nat},us.length=cs.length→us.Nodup→dot ds (vs.map (stp us cs))=dot (us.map (at_ vs ds)) (zaC cs)
 | [],cs,_,_=>by
  rw[ziY ds vs _ fun v _=>by simp[stp]];simp[dot]
 | u :: us,[],h,_=>by simp at h
 | u :: us,c :: cs,h,hn=>by
  obtain⟨h1,h2⟩:=qbq.1 hn;have e:vs.map (stp (u :: us) (c :: cs))=vs.map fun v=>(bif u == v then zae cs else 0)+stp us cs v:=by
   refine qbk fun v _=>?_
   rw[show stp (u :: us) (c :: cs) v=bif u == v then zae cs else stp us cs v from rfl];cases hb:(u == v)with
   | true=>
    have:u=v:=by simpa using hb
    subst this;rw[cond_true,cond_true,zpO h1]; rfl
   | false=>
    rw[cond_false,cond_false,qaV]
  rw[e,zpl,zoQ hv,zlG hv (by simpa using h) h2];rfl
theorem zaP{vs:List Nat}(h:vs.Pairwise (· < ·)):vs.Nodup:=h.imp fun h=>Nat.ne_of_lt h
def Sub(vs ws:List Nat):List Nat→List Nat→Prop
 | [],[]=>True
 | u :: us,c :: cs=>(u∈vs∧at_ vs ws u=c)∧Sub vs ws us cs
 | _,_=>False
theorem zgQ:∀ {vs ws ds:List Nat} {u:Nat},vs.length=ws.length→zcp ws ds→u∈vs→at_ vs ds u<at_ vs ws u∧at_ vs ws u≤8
 | v :: vs,w :: ws,d :: ds,u,hl,hb,hm=>by
  unfold at_;by_cases h:v=u
  ·subst h;rw[beq_self_eq_true,cond_true,cond_true];exact⟨hb.1,hb.2.1⟩
  ·rw[show(v == u)=false from beq_false_of_ne h,cond_false,cond_false];rcases qaD.1 hm with e | hm
   ·exact absurd e.symm h
   ·exact zgQ (by simpa using hl) hb.2.2 hm
 | [],_,_,_,_,_,hm=>by cases hm
 | v :: vs,[],_,_,hl,_,_=>by simp at hl
 | v :: vs,w :: ws,[],_,_,hb,_=>hb.elim
theorem Sub.below{vs ws ds:List Nat}(hl:vs.length=ws.length)(hb:zcp ws ds):∀ {us cs:List Nat},Sub vs ws us cs→zcp cs (us.map (at_ vs ds))
 | [],[],_=>trivial
 | u :: us,c :: cs,⟨⟨h1,h2⟩,h3⟩=>by
  have:=zgQ hl hb h1;rw[h2]at this;exact⟨this.1,this.2,Sub.below hl hb h3⟩
 | [],_ :: _,h=>h.elim
 | _ :: _,[],h=>h.elim
def Fc.at(f:Fc)(vs ds:List Nat):Nat:=f.ws.getD (dot (f.vs.map (at_ vs ds)) (zaC f.cs)) 0
theorem zsm{a:Nat}(ha:a<18446744073709551616):znL .u64 (a:Int) 4294967295=((a % 4294967296:Nat):Int):=by
 rw[show(4294967295:Int)=((4294967295:Nat):Int)from rfl,zuP ha (by omega)];congr 1
 exact Nat.and_two_pow_sub_one_eq_mod a 32
theorem zoD(a:Nat):zml .u64 (a:Int) 32=some ((a / 4294967296:Nat):Int):=by
 have h:=zuN (a:=a) (v:=32) (by omega);rw[show((32:Nat):Int)=32 from rfl]at h;rw[h,qby]
theorem zt8{x y:Nat}(hx:x<18446744073709551616)(hy:y<18446744073709551616):zdb (x:Int) (y:Int)=some (((x * y / 18446744073709551616:Nat):Int),((x * y % 18446744073709551616:Nat):Int)):=by
 unfold zdb;rw[zoD,qaa,zoD,qaa,zsm hx,zsm hy];have ex:x=x / 4294967296 * 4294967296+x % 4294967296:=by omega
 have ey:y=y / 4294967296 * 4294967296+y % 4294967296:=by omega
 have exy:x * y=(x / 4294967296)* (y / 4294967296)* 18446744073709551616+((x / 4294967296)* (y % 4294967296)+(x % 4294967296)* (y / 4294967296))* 4294967296+(x % 4294967296)* (y % 4294967296):=by
  have:∀ a b c d:Nat,(a * 4294967296+b)* (c * 4294967296+d)=a * c * 18446744073709551616+(a * d+b * c)* 4294967296+b * d:=by
   intro a b c d;rw[qaJ,Nat.mul_add,Nat.mul_add,Nat.mul_mul_mul_comm,show b * (c * 4294967296)=b * c * 4294967296 from(qbF _ _ _).symm,show a * 4294967296 * d=a * d * 4294967296 by rw[qbF,qbh 4294967296 d,qbF]];omega
  calc x * y=(x / 4294967296 * 4294967296+x % 4294967296)* (y / 4294967296 * 4294967296+y % 4294967296):=by rw[← ex,← ey]
   _=_:=this _ _ _ _
 rw[show(x:Int)* (y:Int)=((x * y:Nat):Int)from(qaR x y).symm,zrV];have ha:x / 4294967296≤4294967295:=by omega
 have hb:x % 4294967296≤4294967295:=by omega
 have hc:y / 4294967296≤4294967295:=by omega
 have hd:y % 4294967296≤4294967295:=by omega
 rw[exy];generalize x / 4294967296=a at *;generalize x % 4294967296=b at *;generalize y / 4294967296=c at *;generalize y % 4294967296=d at *;have h1:a * c≤4294967295 * 4294967295:=qbr ha hc;have h2:a * d≤4294967295 * 4294967295:=qbr ha hd;have h3:b * c≤4294967295 * 4294967295:=qbr hb hc;have h4:b * d≤4294967295 * 4294967295:=qbr hb hd;rw[← qaR,← qaR,← qaR,← qaR];generalize a * c=p at *;generalize a * d=q at *;generalize b * c=r at *;generalize b * d=s at *
 rw[zc6 (n:=s) (by omega),zoD,qaa,zc6 (n:=q) (by omega),← qb4,zc6 (n:=q+s / 4294967296) (by omega),zoD,qaa,zsm (by omega),zc6 (n:=r) (by omega),← qb4,zc6 (n:=(q+s / 4294967296) % 4294967296+r) (by omega),zoD,qaa,
  zc6 (n:=p) (by omega),← qb4,zc6 (n:=p+(q+s / 4294967296) / 4294967296) (by omega),← qb4,zc6 (n:=p+(q+s / 4294967296) / 4294967296+((q+s / 4294967296) % 4294967296+r) / 4294967296) (by omega)]
 congr 2
 congr 1
 omega
theorem zpr{xs:List Nat}{v:Nat}:(pos xs v).isSome=decide (v∈xs):=by
 cases h:pos xs v with
 | none=>exact(decide_eq_false (zjH h)).symm
 | some k=>
  obtain⟨hk,e⟩:=zb6 h;exact(decide_eq_true (e ▸ qaF hk)).symm
theorem zew(u d:Nat)(us ds:List Nat)(v:Nat):at_ (u :: us) (d :: ds) v=bif u == v then d else at_ us ds v:=rfl
theorem zmI:∀ {vs ds:List Nat} {v k:Nat},pos vs v=some k→at_ vs ds v=ds.getD k 0
 | [],_,_,_,h=>by cases h
 | u :: us,[],v,k,_=>by simp[at_]
 | u :: us,d :: ds,v,k,h=>by
  rw[zew];rw[show pos (u :: us) v=bif u == v then some 0 else(pos us v).map (· + 1)from rfl]at h;cases hb:(u == v)with
  | true=>rw[hb,cond_true]at h; cases h; rw[cond_true]; rfl
  | false=>
   rw[hb,cond_false]at h;cases hp:pos us v with
   | none=>rw[hp]at h; cases h
   | some j=>rw[hp]at h; cases h; rw[cond_false,zmI hp]; rfl
def inB(f g:Fc)(v:Nat):Bool:=decide (v∈f.vs)|| decide (v∈g.vs)
def cdF(f g:Fc)(v:Nat):Nat:=bif decide (v∈f.vs)then at_ f.vs f.cs v else at_ g.vs g.cs v
def uni(f g:Fc):List Nat:=(List.range' 0 64).filter (inB f g)
theorem zsa{xs:List Nat}{v:Nat}(h:xs.length≤100000):zgN 8 (iL xs) [(v:Int)]=some (iL (xs ++ [v])):=by
 rw[zon (by rw[zaQ]; simp; omega),zma]; rfl
theorem zpp:∀ {xs:List Nat} {l:Nat},xs.Pairwise (· < ·)→(∀ x∈xs,l≤x∧x<64)→xs.length≤64 - l
 | [],_,_,_=>by simp
 | x :: xs,l,h,hb=>by
  obtain⟨h1,h2⟩:=qaX.1 h;have hx:=hb x qap;have:=zpp (l:=x+1) h2 fun y hy=>⟨h1 y hy,(hb y (qak _ hy)).2⟩
  rw[qaT]; omega
theorem ze7{f:Fc}(hf:FcOk f){v k:Nat}(hp:pos f.vs v=some k):zbq f.D.zad (ixZ (some k))=some ((at_ f.vs f.cs v:Nat):Int):=by
 obtain⟨hk,_⟩:=zb6 hp;show zbq (iL f.cs) (k:Int)=_;rw[zcU (by rw[← hf.len]; exact hk),zmI hp]
theorem zdi{f g:Fc}(hf:FcOk f)(hg:FcOk g){v:Nat}:v∈uni f g↔v∈f.vs∨v∈g.vs:=by
 unfold uni inB;simp only[qaW,qbx,qbj,decide_eq_true_eq];constructor
 ·exact fun h=>h.2
 rintro(h | h)
 ·exact⟨⟨qaM _,by have:=hf.var _ h; omega⟩,.inl h⟩
 exact⟨⟨qaM _,by have:=hg.var _ h; omega⟩,.inr h⟩
theorem zfl(f g:Fc):(uni f g).Pairwise (· < ·):=qbE _ qbY
theorem zqM{f g:Fc}:∀ v∈uni f g,v<64:=by
 intro v hv;have:=(qaW.1 hv).1;simp only[qbx]at this;omega
theorem zrg(f g:Fc):(uni f g).length≤64:=zpp (l:=0) (zfl f g) fun x hx=>⟨qaM _,zqM x hx⟩
theorem zlk:∀ {a b:List Nat},a.Pairwise (· < ·)→b.Pairwise (· < ·)→(∀ x,x∈a↔x∈b)→a=b
 | [],[],_,_,_=>rfl
 | [],b :: bs,_,_,h=>by have:=(h b).2 qap; simp at this
 | a :: xs,[],_,_,h=>by have:=(h a).1 qap; simp at this
 | a :: xs,b :: bs,ha,hb,h=>by
  obtain⟨ha1,ha2⟩:=qaX.1 ha;obtain⟨hb1,hb2⟩:=qaX.1 hb;have e:a=b:=by
   rcases qaD.1 ((h a).1 qap)with h1 | h1
   ·exact h1
   rcases qaD.1 ((h b).2 qap)with h2 | h2
   ·exact h2.symm
   have:=hb1 a h1; have:=ha1 b h2; omega
  subst e;refine congrArg (a :: ·) (zlk ha2 hb2 fun x=>⟨fun hx=>?_,fun hx=>?_⟩)
  ·rcases qaD.1 ((h x).1 (qak _ hx))with rfl | h1
   ·have:=ha1 x hx; omega
   exact h1
  rcases qaD.1 ((h x).2 (qak _ hx))with rfl | h1
  ·have:=hb1 x hx; omega
  exact h1
theorem zmq:∀ {a b:List Int},a.Pairwise (· < ·)→b.Pairwise (· < ·)→(∀ x,x∈a↔x∈b)→a=b
 | [],[],_,_,_=>rfl
 | [],b :: bs,_,_,h=>by have:=(h b).2 qap; simp at this
 | a :: xs,[],_,_,h=>by have:=(h a).1 qap; simp at this
 | a :: xs,b :: bs,ha,hb,h=>by
  obtain⟨ha1,ha2⟩:=qaX.1 ha;obtain⟨hb1,hb2⟩:=qaX.1 hb;have e:a=b:=by
   rcases qaD.1 ((h a).1 qap)with h1 | h1
   ·exact h1
   rcases qaD.1 ((h b).2 qap)with h2 | h2
   ·exact h2.symm
   have:=hb1 a h1; have:=ha1 b h2; omega
  subst e;refine congrArg (a :: ·) (zmq ha2 hb2 fun x=>⟨fun hx=>?_,fun hx=>?_⟩)
  ·rcases qaD.1 ((h x).1 (qak _ hx))with rfl | h1
   ·have:=ha1 x hx; omega
   exact h1
  rcases qaD.1 ((h x).2 (qak _ hx))with rfl | h1
  ·have:=hb1 x hx; omega
  exact h1
section
variable {s:List Int}
theorem zjq{j:Nat}(h:j<s.length):s.toArray[j]! = s[j]:=by simp[h]
theorem zro(hs:s.Pairwise (· ≤ ·)){i j:Nat}(hij:i≤j)(hj:j<s.length):s.toArray[i]!≤s.toArray[j]!:=by
 rw[zjq (by omega),zjq hj];rcases Nat.eq_or_lt_of_le hij with h | h
 ·subst h; exact qbD _
 exact List.pairwise_iff_getElem.1 hs i j (by omega) hj h
theorem zrY(hs:s.Pairwise (· ≤ ·)):(Go.Lib.compact s).Pairwise (· < ·):=by
 unfold Go.Lib.compact Go.Lib.compactUpTo;refine qck.2 ((qbE _ (List.pairwise_lt_range (n:=s.length))).imp_of_mem fun {a b} _ hb hab=>?_);obtain⟨h1,h2⟩:=qaW.1 hb;have hb:=qb0.1 h1;have h3:s.toArray[b]!≠s.toArray[b - 1]!:=by
  rcases of_decide_eq_true h2 with h | h
  ·omega
  exact h
 have h4:=zro hs (show a≤b - 1 by omega) (by omega);have h5:=zro hs (show b - 1≤b by omega) hb;omega
theorem zmb:∀ j:Nat,j<s.length→∃ i,i<s.length∧Go.Lib.keeps s.toArray i=true∧s.toArray[i]! = s.toArray[j]!
 | 0,h=>⟨0,h,decide_eq_true (.inl rfl),rfl⟩
 | j+1,h=>by
  by_cases e:s.toArray[j+1]! = s.toArray[j]!
  ·obtain⟨i,h1,h2,h3⟩:=zmb j (by omega);exact⟨i,h1,h2,h3.trans e.symm⟩
  exact⟨j+1,h,decide_eq_true (.inr e),rfl⟩
theorem zsr{x:Int}:x∈Go.Lib.compact s↔x∈s:=by
 unfold Go.Lib.compact Go.Lib.compactUpTo;constructor
 ·intro h;obtain⟨j,h1,rfl⟩:=qaC.1 h;have hj:=qb0.1 (qaW.1 h1).1;rw[zjq hj];exact qaF hj
 intro h;obtain⟨j,hj,rfl⟩:=List.mem_iff_getElem.1 h;obtain⟨i,h1,h2,h3⟩:=zmb j hj;exact qaC.2 ⟨i,qaW.2 ⟨qb0.2 h1,h2⟩,h3.trans (zjq hj)⟩
end
theorem zp2(zs:List Int):(zes zs).Pairwise (· ≤ ·):=by
 have:=List.pairwise_mergeSort (le:=fun x y:Int=>decide (x≤y)) (fun a b c h1 h2=>by simp at *; omega) (fun a b=>by simp; omega) zs;exact this.imp fun h=>by simpa using h
theorem zoK{zs:List Int}{x:Int}:x∈zes zs↔x∈zs:=List.mem_mergeSort
theorem ztw{xs:List Nat}(h:xs.Pairwise (· < ·)):(iL xs).Pairwise (· < ·):=qck.2 (h.imp fun h=>Int.ofNat_lt.2 h)
theorem zq2{xs:List Nat}{x:Int}:x∈iL xs↔∃ k∈xs,(k:Int)=x:=qaC
theorem zst{f g:Fc}(hf:FcOk f)(hg:FcOk g):Go.Lib.compact (zes (iL f.vs ++ iL g.vs))=iL (uni f g):=by
 refine zmq (zrY (zp2 _)) (ztw (zfl f g)) fun x=>?_
 rw[zsr,zoK,← zma,zq2,zq2];constructor
 ·rintro⟨k,h1,h2⟩; exact⟨k,(zdi hf hg).2 (qcc.1 h1),h2⟩
 rintro⟨k,h1,h2⟩; exact⟨k,qcc.2 ((zdi hf hg).1 h1),h2⟩
theorem znY{f g:Fc}(hf:FcOk f)(hg:FcOk g){vs:List Nat}(hl:vs.length≤100)(hm:∀ v∈vs,v∈f.vs∨v∈g.vs):∀(n i:Nat),i≤vs.length→vs.length - i<n →
  zbk (iL vs) f.T g.T n (i:Int) (iL ((vs.map (cdF f g)).take i ++ List.replicate (vs.length - i) 0))=some (iL (vs.map (cdF f g)))
 | 0,_,_,h=>absurd h (qaS _)
 | n+1,i,hi,hn=>by
  unfold zbk;rw[zaQ];rcases qa5 i vs.length with h3 | h3
  ·have ih:=znY hf hg hl hm n (i+1) h3 (by omega);have ht:((vs.map (cdF f g)).take i).length=i:=by simp; omega
   have e:List.replicate (vs.length - i) 0=0 :: List.replicate (vs.length - (i+1)) 0:=by
    rw[show vs.length - i=(vs.length - (i+1))+1 by omega,qaP]
   have e2:(vs.map (cdF f g)).take (i+1)=(vs.map (cdF f g)).take i ++ [cdF f g vs[i]]:=by
    rw[qbv (by simpa using h3)]; simp
   rw[e2,qbe,qa3]at ih;rw[zpk h3,cond_true,zc1 h3,qaa,zeI hf,qaa,zb4,zpe,e];cases hp:pos f.vs vs[i]with
   | some k=>
    have hm:decide (vs[i]∈f.vs)=true:=by rw[← zpr,hp]; rfl
    rw[show cdF f g vs[i]=at_ f.vs f.cs vs[i] by unfold cdF; rw[hm]; rfl]at ih;rw[qcd,cond_true,show f.T.factor=f.D from rfl,ze7 hf hp,qaa,zcm ht,qaa,zc7 ht,qaa,qaa,zbe (by omega)];exact ih
   | none=>
    have hm1:decide (vs[i]∈f.vs)=false:=by rw[← zpr,hp]; rfl
    rw[show cdF f g vs[i]=at_ g.vs g.cs vs[i] by unfold cdF; rw[hm1]; rfl]at ih;have hm2:vs[i]∈g.vs:=(hm vs[i] (qaF h3)).resolve_left (of_decide_eq_false hm1);obtain⟨k,hq⟩:=zfu hm2;rw[Option.isSome_none,cond_false,zeI hg,qaa,zb4,hq,show g.T.factor=g.D from rfl,ze7 hg hq,qaa,zcm ht,qaa,zc7 ht,qaa,qaa,zbe (by omega)];exact ih
  obtain rfl:i=vs.length:=by omega
  rw[zpJ,cond_false,Nat.sub_self,qbL,qba,qaG (by simp)]
theorem zr4{f g:Fc}(hf:FcOk f)(hg:FcOk g):zb1 f.T g.T=some (iL (uni f g),iL ((uni f g).map (cdF f g))):=by
 have hl:=zrg f g;have h1:=hf.le; have h2:=hg.le; have h3:=hf.len; have h4:=hg.len;unfold zb1
 rw[show f.T.factor.vars=iL f.vs from rfl,show g.T.factor.vars=iL g.vs from rfl,zi2 (by rw[zaQ]; omega),qaa,zon (by rw[zaQ,zaQ]; omega),qaa,
  show zhX 8 (iL f.vs ++ iL g.vs)=some (zes (iL f.vs ++ iL g.vs))from by unfold zhX; rw[if_pos (by rw[qax,zaQ,zaQ]; simp only[zap]; omega)],qaa,
  show zsO (zes (iL f.vs ++ iL g.vs))=some (Go.Lib.compact (zes (iL f.vs ++ iL g.vs)))from rfl,qaa,zst hf hg,zaQ,zdk (by omega),qaa,zcL]
 have:=znY hf hg (vs:=uni f g) (by omega) (fun v hv=>(zdi hf hg).1 hv) ((uni f g).length+2) 0 (qaM _) (by omega);rw[qbG,qa9,qcv,zdZ]at this;rw[show zbk (iL (uni f g)) f.T g.T ((uni f g).length+2) 0 (List.replicate (uni f g).length 0)=_ from this];rfl
abbrev noF:S_api_Factor:=⟨[],[],[]⟩
theorem zsR{P:Nat}:((bif (((P / 18446744073709551616:Nat):Int)== 0)then some (decide ((4611686018427387903:Int)<((P % 18446744073709551616:Nat):Int)))else some true):Option Bool)=some (!decide (P≤zdj)):=by
 by_cases h:P / 18446744073709551616=0
 ·rw[h,show(((0:Nat):Int)== 0)=true from rfl,cond_true];congr 1
  by_cases h2:P≤zdj
  ·rw[decide_eq_true h2]; exact decide_eq_false (by have:P≤4611686018427387903:=h2; omega)
  rw[decide_eq_false h2]; exact decide_eq_true (by have:¬ P≤4611686018427387903:=h2; omega)
 rw[show(((P / 18446744073709551616:Nat):Int)== 0)=false from beq_eq_false_iff_ne.2 (by omega),cond_false,decide_eq_false (show ¬ P≤zdj by intro(h2:P≤4611686018427387903); omega)];rfl
theorem znU{x:Nat}(h:x≤zdj):IntKind.u64.wrap (x:Int)=(x:Int):=by
 have:x≤4611686018427387903:=h;rw[zrV,qaY (by omega)]
theorem zth{P:Nat}(h:P≤zdj):w64 ((P % 18446744073709551616:Nat):Int)=(P:Int):=by
 have:P≤4611686018427387903:=h;rw[qaY (by omega),zce (by omega)]
structure Dom (u c:List Nat):Prop where
 len:u.length=c.length
 nodup:u.Nodup
 zdN:∀ x∈c,1≤x∧x≤8
 le:c.length≤12
 prod:zae c≤4096
theorem zg2{cs:List Nat}(h:zbJ (iL cs)=true):(∀ c∈cs,1≤c∧c≤8)∧zae cs≤4096∧cs.length≤12:=by
 obtain⟨ns,h1,h2⟩:=zhy h;have:cs=ns:=by rw[← zge cs,h1,zge]
 subst this;exact h2
theorem Fc.zsZ{f:Fc}(hf:FcOk f)(u ds:List Nat):f.at u ds≤zdj:=by
 unfold Fc.at;generalize dot _ _=k;by_cases h:k<f.ws.length
 ·rw[qam,qaf h];exact hf.num _ (qaF h)
 rw[qam,qa7 (by omega)];exact qaM _
theorem wat{f:Fc}(hf:FcOk f){u c ds:List Nat}(hD:Dom u c)(hs:Sub u c f.vs f.cs)(hb:zcp c ds):zbq f.D.w ((dot ds (u.map (stp f.vs f.cs)):Nat):Int)=some ((f.at u ds:Nat):Int):=by
 rw[zlG hD.nodup hf.len (zaP hf.inc)];show zbq (iL f.ws) _=_;have:=ziB (Sub.below hD.len hb hs);rw[zcU (by rw[hf.size]; exact this)];rfl
theorem zd4(c ss:List Nat)(i m:Nat):zfM c ss i (m+1)=((i:Int),((dot (dig c i) ss:Nat):Int),iL (dig c i)):: zfM c ss (i+1) m:=by
 unfold zfM;rw[qbC,qay]
theorem zrc{f:Fc}(hf:FcOk f){r12:Int×Int}{u c:List Nat}{e:Int}(hD:Dom u c)(hs:Sub u c f.vs f.cs):∀(m i:Nat) (ys:List Nat),i+m=zae c→ys.length=i →
  zbQ (f.T,e) r12 (zfM c (u.map (stp f.vs f.cs)) i m) (iL (ys ++ List.replicate m 0))=some (iL (ys ++ (List.range' i m).map fun j=>f.at u (dig c j)))
 | 0,i,ys,_,_=>by simp[zfM,zbQ]
 | m+1,i,ys,h,hy=>by
  rw[zd4];show(zbq f.D.w ((dot (dig c i) (u.map (stp f.vs f.cs)):Nat):Int)).bind _=_;rw[wat hf hD hs (zdB hD.zdN (by omega)),qaa];simp only[];rw[qaP,zcm hy,qaa,zc7 hy,qaa,show ys ++ f.at u (dig c i):: List.replicate m 0=(ys ++ [f.at u (dig c i)])++ List.replicate m 0 by simp,zrc hf hD hs m (i+1) _ (by omega) (by simp[hy]),qbC,qay,qbe,qa3]
theorem zqK{g:Fc}(hg:FcOk g){r12:Int×Int}{u c:List Nat}{e:Int}(hD:Dom u c)(hs:Sub u c g.vs g.cs){fa:Nat→Nat}(hfa:∀ j,fa j≤zdj):∀(m i:Nat) (ys:List Nat),i+m=zae c→ys.length=i →
  zbO (g.T,e) r12 (zfM c (u.map (stp g.vs g.cs)) i m) (iL (ys ++ (List.range' i m).map fa))=
   some (bif (List.range' i m).all fun j=>decide (fa j * g.at u (dig c j)≤zdj)then .go (iL (ys ++ (List.range' i m).map fun j=>fa j * g.at u (dig c j)))else .ret (noF,6))
 | 0,i,ys,_,_=>by simp[zfM,zbO]
 | m+1,i,ys,h,hy=>by
  have h1:fa i≤4611686018427387903:=hfa i;have h2:g.at u (dig c i)≤4611686018427387903:=Fc.zsZ hg u _;rw[zd4,qbC,qay,qcr];show(zbq (iL (ys ++ fa i :: _)) (i:Int)).bind _=_;rw[zcm hy,qaa];simp only[];rw[show(g.T,e).1.factor.w=g.D.w from rfl,wat hg hD hs (zdB hD.zdN (by omega)),qaa,znU h1,znU h2,zt8 (by omega) (by omega),qaa];simp only[];rw[zsR,qaa];by_cases hp:fa i * g.at u (dig c i)≤zdj
  ·rw[decide_eq_true hp,qa2,cond_false,qaa,zth hp,zc7 hy,qaa,
    show ys ++ fa i * g.at u (dig c i)::(List.range' (i+1) m).map fa=(ys ++ [fa i * g.at u (dig c i)])++ (List.range' (i+1) m).map fa by simp,zqK hg hD hs hfa m (i+1) _ (by omega) (by simp[hy])]
   simp
  rw[decide_eq_false hp,qbp,cond_true,Bool.false_and,cond_false]
theorem zhi{h:Nat→Nat}{v:Nat}:∀ {us:List Nat},v∈us→at_ us (us.map h) v=h v
 | [],hm=>by simp at hm
 | u :: us,hm=>by
  rw[qay,zew];cases hb:(u == v)with
  | true=>rw[cond_true]; rw[beq_iff_eq]at hb; rw[hb]
  | false=>
   rw[cond_false];rcases qaD.1 hm with e | e
   ·rw[e]at hb; simp at hb
   exact zhi e
theorem zkW:∀ {vs ds:List Nat} {i:Nat} (hn:vs.Nodup) (h:i<vs.length),at_ vs ds vs[i]=ds.getD i 0
 | v :: vs,[],i,_,_=>by simp[at_]
 | v :: vs,d :: ds,0,_,_=>by rw[zew]; simp
 | v :: vs,d :: ds,i+1,hn,h=>by
  obtain⟨h1,h2⟩:=qbq.1 hn;have hi:i<vs.length:=by simpa using h
  rw[zew,show(v :: vs)[i+1]=vs[i]from rfl,show(v == vs[i])=false from beq_false_of_ne (fun e=>h1 (e ▸ qaF hi)),cond_false,zkW h2 hi];rfl
theorem zmV{vs ds:List Nat}(hn:vs.Nodup)(hl:vs.length=ds.length):vs.map (at_ vs ds)=ds:=by
 refine qcp (by simpa using hl) fun i h1 h2=>?_
 rw[List.getElem_map,zkW hn (by simpa using h1),qam,qaf h2];rfl
theorem zmO{vs ws:List Nat}:∀ {us cs:List Nat},us.length=cs.length→us.Nodup→(∀ u∈us,u∈vs∧at_ vs ws u=at_ us cs u)→Sub vs ws us cs
 | [],[],_,_,_=>trivial
 | [],c :: cs,h,_,_=>by simp at h
 | u :: us,[],h,_,_=>by simp at h
 | u :: us,c :: cs,hl,hn,h=>by
  obtain⟨h1,h2⟩:=qbq.1 hn;refine⟨⟨(h u qap).1,?_⟩,zmO (by simpa using hl) h2 fun x hx=>⟨(h x (qak _ hx)).1,?_⟩⟩
  ·rw[(h u qap).2,zew,beq_self_eq_true,cond_true]
  rw[(h x (qak _ hx)).2,zew,show(u == x)=false from beq_false_of_ne (fun e=>h1 (e ▸ hx)),cond_false]
def Agr(f g:Fc):Prop:=∀ v,v∈f.vs→v∈g.vs→at_ f.vs f.cs v=at_ g.vs g.cs v
theorem zkq{f g:Fc}(hf:FcOk f)(hg:FcOk g):zeq f g 0 f.vs=true↔Agr f g:=by
 have key:∀(m i:Nat),i+m=f.vs.length→(zeq f g i (f.vs.drop i)=true↔∀ v∈f.vs.drop i,v∈g.vs→at_ f.vs f.cs v=at_ g.vs g.cs v):=by
  intro m;induction m with
  | zero=>intro i h; rw[qbM (by omega)]; simp[zeq]
  | succ m ih=>
   intro i h;have hi:i<f.vs.length:=by omega
   rw[qav hi];rw[show zeq f g i (f.vs[i]:: f.vs.drop (i+1))=((match pos g.vs f.vs[i]with | none=>true | some k=>g.cs.getD k 0 == f.cs.getD i 0) && zeq f g (i+1) (f.vs.drop (i+1)))from rfl,qag,ih (i+1) (by omega),List.forall_mem_cons];refine and_congr ?_ Iff.rfl;rw[zkW (zaP hf.inc) hi];cases hp:pos g.vs f.vs[i]with
   | none=>exact⟨fun _ hm=>absurd hm (zjH hp),fun _=>rfl⟩
   | some k=>
    obtain⟨hk,e⟩:=zb6 hp;rw[zmI hp];simp only[beq_iff_eq];exact⟨fun h _=>h.symm,fun h=>(h (e ▸ qaF hk)).symm⟩
 have:=key f.vs.length 0 (by omega)
 rwa [qaQ]at this
def ucs(f g:Fc):List Nat:=(uni f g).map (cdF f g)
theorem zuB{f g:Fc}{v:Nat}(h:v∈f.vs):cdF f g v=at_ f.vs f.cs v:=by unfold cdF; rw[decide_eq_true h,cond_true]
theorem zuz{f g:Fc}(ha:Agr f g){v:Nat}(h:v∈g.vs):cdF f g v=at_ g.vs g.cs v:=by
 unfold cdF;by_cases h1:v∈f.vs
 ·rw[decide_eq_true h1,cond_true,ha v h1 h]
 rw[decide_eq_false h1,cond_false]
theorem zue{f g:Fc}(hf:FcOk f)(hg:FcOk g):Sub (uni f g) (ucs f g) f.vs f.cs:=
 zmO hf.len (zaP hf.inc) fun u hu=>by
  have hm:=(zdi hf hg).2 (.inl hu);exact⟨hm,by unfold ucs; rw[zhi hm,zuB hu]⟩
theorem ztZ{f g:Fc}(hf:FcOk f)(hg:FcOk g)(ha:Agr f g):Sub (uni f g) (ucs f g) g.vs g.cs:=
 zmO hg.len (zaP hg.inc) fun u hu=>by
  have hm:=(zdi hf hg).2 (.inr hu);exact⟨hm,by unfold ucs; rw[zhi hm,zuz ha hu]⟩
theorem zl6{f g:Fc}(h:zbJ (iL (ucs f g))=true):Dom (uni f g) (ucs f g):=by
 obtain⟨h1,h2,h3⟩:=zg2 h;exact⟨by unfold ucs; simp,zaP (zfl f g),h1,h3,h2⟩
def zlt(f g:Fc):Bool:=(List.range' 0 (zae (ucs f g))).all fun j=>decide (f.at (uni f g) (dig (ucs f g) j)* g.at (uni f g) (dig (ucs f g) j)≤zdj)
def zg1(f g:Fc):Fc:=⟨uni f g,ucs f g,(List.range' 0 (zae (ucs f g))).map fun j=>f.at (uni f g) (dig (ucs f g) j)* g.at (uni f g) (dig (ucs f g) j)⟩
def mulR(f g:Fc):S_api_Factor×Int:=bif zbJ (iL (ucs f g))then bif zlt f g then((zg1 f g).D,0)else(noF,6)else(noF,3)
theorem zor{f:Fc}(hf:FcOk f)(v:Nat):stp f.vs f.cs v≤4096:=by
 rw[zg4 hf.len];cases hp:pos f.vs v with
 | none=>exact qaM _
 | some k=>
  simp only;by_cases h:k<(zaC f.cs).length
  ·rw[qam,qaf h];exact zi3 (fun c hc=>(hf.zdN c hc).1) hf.prod _ (qaF h)
  rw[qam,qa7 (by omega)];exact qaM _
theorem zeO(a b:List Int):za0 a b=some (a,b):=by rfl
theorem zkl{f:Fc}(hf:FcOk f){u c:List Nat}(hD:Dom u c):zpT (iL c) (iL (u.map (stp f.vs f.cs)))=some (zfM c (u.map (stp f.vs f.cs)) 0 (zae c)):=
 zmk hD.zdN hD.le hD.prod (by rw[qa4,hD.len]) fun s hs=>by
  obtain⟨v,_,rfl⟩:=qaC.1 hs;exact zor hf v
theorem znc{f g:Fc}(hf:FcOk f)(hg:FcOk g):zaV f.D g.D=some (bif zeq f g 0 f.vs then mulR f g else(noF,2)):=by
 unfold zaV mulR;rw[zhw hf,qaa];simp only[];rw[show((0:Int)== 0)=true from rfl,cond_true,zhw hg,qaa];simp only[];rw[show((0:Int)== 0)=true from rfl,cond_true,zr0 hf hg,qaa];cases ha:zeq f g 0 f.vs with
 | false=>rfl
 | true=>
  have hA:=(zkq hf hg).1 ha;rw[cond_true,cond_true,zr4 hf hg,qaa];show(zcg (iL (ucs f g))).bind _=_;rw[zqV,qaa];cases hc:zbJ (iL (ucs f g))with
  | false=>rfl
  | true=>
   have hD:=zl6 hc;rw[cond_true,cond_true];have hlu:=zrg f g;have hp:=hD.prod;simp only[];rw[show((0:Int)== 0)=true from rfl,cond_true,zey,zdk (by omega),qaa,zlc hf (by omega),qaa,zeO,qaa];simp only[];rw[show iL ((uni f g).map (cdF f g))=iL (ucs f g)from rfl,zkl hf hD,qaa,← zdZ];have e1:=zrc hf (r12:=((zae (ucs f g):Nat),0)) (e:=0) hD (zue hf hg) (zae (ucs f g)) 0 [] (by omega) rfl;rw[qa9]at e1;rw[e1,qaa,zlc hg (by omega),qaa,zeO,qaa];simp only[];rw[zkl hg hD,qaa];have e2:=zqK hg (r12:=((zae (ucs f g):Nat),0)) (e:=0) hD (ztZ hf hg hA) (fa:=fun j=>f.at (uni f g) (dig (ucs f g) j)) (fun j=>Fc.zsZ hf _ _) (zae (ucs f g)) 0 [] (by omega) rfl;rw[e2,qaa];unfold zlt;cases hk:(List.range' 0 (zae (ucs f g))).all fun j=>decide (f.at (uni f g) (dig (ucs f g) j)* g.at (uni f g) (dig (ucs f g) j)≤zdj)with
   | false=>rfl
   | true=>rfl
end Go.Dc
