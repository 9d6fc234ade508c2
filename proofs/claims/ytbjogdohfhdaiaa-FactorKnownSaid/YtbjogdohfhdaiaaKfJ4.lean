/-
 Plain laws: numbers and sets of bits. Conditions: none.
-/
import Derived.Test.YtbjogdohfhdaiaaKfQ6
set_option linter.unusedSimpArgs false
set_option linter.unusedVariables false
set_option maxRecDepth 100000
namespace Go.Dc
open Go Go.Mx Go.Lx
theorem zfF{n:Nat}(h:n<9223372036854775808):w64 (n:Int)=(n:Int):=wrap64 (by omega) (by omega)
theorem zk7{n:Int}(h1:-9223372036854775808≤n)(h2:n<9223372036854775808):w64 n=n:=wrap64 h1 h2
theorem zcg{n:Nat}(h:n+1<9223372036854775808):w64 ((n:Int)+1)=((n+1:Nat):Int):=by
 rw[zk7 (by omega) (by omega)]; omega
theorem zqT(n:Nat):IntKind.u64.wrap (n:Int)=((n % 18446744073709551616:Nat):Int):=by
 simp only[IntKind.wrap,IntKind.bits,IntKind.signed]; simp
theorem zde{n:Nat}(h:n<18446744073709551616):IntKind.u64.wrap (n:Int)=(n:Int):=by
 rw[zqT,qbl h]
theorem zsX{a b:Nat}(ha:a<18446744073709551616)(hb:b<18446744073709551616):zpE .u64 (a:Int) (b:Int)=((a &&& b:Nat):Int):=by
 have h:(BitVec.ofInt 64 (a:Int) &&& BitVec.ofInt 64 (b:Int)).toNat=a &&& b:=by
  simp only[BitVec.ofInt_natCast,BitVec.toNat_and,BitVec.toNat_ofNat];rw[qbl ha,qbl hb]
 show IntKind.u64.wrap ((BitVec.ofInt 64 (a:Int) &&& BitVec.ofInt 64 (b:Int)).toNat:Int)=_;rw[h];exact zde (Nat.lt_of_le_of_lt Nat.and_le_left ha)
theorem zs4{a v:Nat}(hv:v<64):zoq .u64 (a:Int) (v:Int)=some ((a >>> v:Nat):Int):=by
 unfold zoq;rw[if_pos (by omega)];congr 1
 have h1:min (v:Int).toNat IntKind.u64.bits=v:=by
  rw[show IntKind.u64.bits=64 from rfl,qaJ]; exact qbO (by omega)
 rw[h1,Nat.shiftRight_eq_div_pow];have h2:((2:Int) ^ v)=((2 ^ v:Nat):Int):=by simp
 rw[h2,Int.fdiv_eq_ediv_of_nonneg _ (qbZ _)];rfl
variable {α:Type}
theorem zoP{xs:List α}{i:Nat}:zbN xs (i:Int)=xs[i]?:=by
 unfold zbN;rw[if_pos (qbZ i),qaJ]
theorem zc5{xs:List α}{i:Nat}(h:i<xs.length):zbN xs (i:Int)=some (xs[i]'h):=by
 rw[zoP,qag h]
theorem zlt{xs:List α}{i:Nat}{v:α}(h:i<xs.length):zgc xs (i:Int) v=some (xs.set i v):=by
 unfold zgc;rw[if_pos (by omega),qaJ]
theorem zp4{b:Nat}{xs ys:List α}(h:(xs.length+ys.length)* b≤70368744177664):zjy b xs ys=some (xs ++ ys):=by
 unfold zjy;rw[if_pos (by simp only[zar]; omega)]
theorem zfP{b n:Nat}{z:α}(h:n * b≤70368744177664):zdD b (n:Int) z=some (List.replicate n z):=by
 have h2:(n:Int)* (b:Int)≤zar:=by
  rw[← qa6]; simp only[zar]; omega
 unfold zdD;rw[if_pos ⟨qbZ n,h2⟩,qaJ]
theorem zoB{b:Nat}{xs:List α}(h:xs.length * b≤70368744177664):zda b xs=some xs:=by
 unfold zda;rw[if_pos (by simp only[zar]; omega)]
theorem zrz{i n:Nat}:decide ((i:Int)<(n:Int))=decide (i<n):=by simp
theorem zdv(n:Nat):((n:Int) - 0+2).toNat=n+2:=by omega
def iL(xs:List Nat):List Int:=xs.map (fun x:Nat=>(x:Int))
theorem zbK(xs:List Nat):(iL xs).length=xs.length:=by simp[iL]
theorem zpx{xs:List Nat}{i:Nat}(h:i<xs.length):(iL xs)[i]'(by rw[zbK]; exact h)=((xs[i]:Nat):Int):=by simp[iL]
theorem zfT{xs:List Nat}{i:Nat}(h:i<xs.length):zbN (iL xs) (i:Int)=some ((xs[i]:Nat):Int):=by
 rw[zc5 (by rw[zbK]; exact h),zpx h]
def zay(xs:List Nat):Nat:=xs.foldr (· * ·) 1
theorem zjB{xs:List Nat}(h:∀ x∈xs,1≤x):1≤zay xs:=by
 induction xs with
 | nil=>exact qaf 1
 | cons x xs ih=>exact qbA (h x qau) (ih fun y hy=>h y (qan _ hy))
theorem zp6{i n:Nat}(h:i<n):decide ((i:Int)<(n:Int))=true:=decide_eq_true (by omega)
theorem zp7(n:Nat):decide ((n:Int)<(n:Int))=false:=decide_eq_false (by omega)
abbrev zl0:Nat:=4611686018427387903
def zeH:Nat→List Int→Bool
 | _,[]=>true
 | a,c :: cs=>decide (1≤c) && decide (c≤8) && decide (a * c.toNat≤4096) && zeH (a * c.toNat) cs
theorem zhp:∀ {cs:List Int} {a:Nat},zeH a cs=true→∃ ns:List Nat,cs=iL ns∧(∀ c∈ns,1≤c∧c≤8)∧(a≤4096→a * zay ns≤4096)
 | [],a,_=>⟨[],rfl,by simp,fun h=>by simpa [zay]using h⟩
 | c :: cs,a,h=>by
  simp only[zeH,qah,decide_eq_true_eq]at h;obtain⟨⟨⟨h1,h2⟩,h3⟩,h4⟩:=h;obtain⟨ns,e,g1,g2⟩:=zhp h4;refine⟨c.toNat :: ns,?_,?_,fun _=>?_⟩
  ·rw[e]; simp[iL]; omega
  ·intro d hd;rcases qaP.1 hd with rfl | hd
   ·omega
   exact g1 d hd
  have:=g2 h3;show a * (c.toNat * zay ns)≤4096;rw[← qbP]; exact this
theorem zjI:∀ {ns:List Nat} {a:Nat},(∀ c∈ns,1≤c∧c≤8)→a * zay ns≤4096→zeH a (iL ns)=true
 | [],a,_,_=>rfl
 | n :: ns,a,h,hp=>by
  have h1:=h n qau;have hp':a * n * zay ns≤4096:=by rw[qbP]; exact hp
  have hpos:1≤zay ns:=zjB fun x hx=>(h x (qan _ hx)).1
  have hle:a * n≤4096:=qav (qbG _ hpos) hp';show(decide ((1:Int)≤(n:Int)) && decide ((n:Int)≤8) && decide (a * (n:Int).toNat≤4096) && zeH (a * (n:Int).toNat) (iL ns))=true;rw[qaJ,zjI (fun c hc=>h c (qan _ hc)) hp',decide_eq_true (by omega),decide_eq_true (by omega),decide_eq_true hle];rfl
def zgb:List Int→Nat
 | []=>1
 | c :: cs=>c.toNat * zgb cs
theorem zgT(ns:List Nat):zgb (iL ns)=zay ns:=by
 induction ns with
 | nil=>rfl
 | cons n ns ih=>show(n:Int).toNat * zgb (iL ns)=n * zay ns; rw[ih,qaJ]
theorem zln(cs:List Int)(hl:cs.length≤12):∀(n i:Nat) (a:Nat),a≤4096→i≤cs.length→cs.length - i<n→zbY cs n ((a:Nat):Int) (i:Int)=some (bif zeH a (cs.drop i)then(((a * zgb (cs.drop i):Nat):Int),true)else(0,false))
 | 0,_,_,_,_,h=>absurd h (qba _)
 | n+1,i,a,ha,hi,hn=>by
  unfold zbY;rcases qa1 i cs.length with h3 | h3
  ·rw[zp6 h3,cond_true,zc5 h3,qae,qaB h3];generalize cs[i]=c;simp only[zeH,zgb];by_cases h1:c<1
   ·rw[decide_eq_true h1,cond_true,qae,cond_true,decide_eq_false (show ¬ 1≤c by omega)];rfl
   rw[decide_eq_false h1,cond_false,decide_eq_true (show 1≤c by omega)];by_cases h2:8<c
   ·rw[decide_eq_true h2,cond_true,qae,cond_true,decide_eq_false (show ¬ c≤8 by omega)];rfl
   rw[decide_eq_false h2,cond_false,decide_eq_true (show c≤8 by omega)];obtain⟨m,rfl⟩:∃ m:Nat,c=(m:Int):=⟨c.toNat,by omega⟩;have hb:a * m≤4096 * 8:=qbA ha (by omega);rw[← qa6,zfF (by omega),qae,qaJ];by_cases h4:a * m≤4096
   ·rw[show decide ((4096:Int)<((a * m:Nat):Int))=false from decide_eq_false (by omega),cond_false,zcg (by omega),zln cs hl n (i+1) (a * m) h4 h3 (by omega),decide_eq_true h4,qbP];rfl
   rw[show decide ((4096:Int)<((a * m:Nat):Int))=true from decide_eq_true (by omega),cond_true,decide_eq_false h4];rfl
  obtain rfl:i=cs.length:=by omega
  rw[zp7,cond_false,qaY];simp[zeH,zgb]
def zcE(cs:List Int):Bool:=decide (cs.length≤12) && zeH 1 cs
theorem zpt(cs:List Int):zce cs=some (bif zcE cs then(((zgb cs:Nat):Int),0)else(0,20)):=by
 unfold zce zdc zcE;by_cases hl:cs.length≤12
 ·rw[show decide ((12:Int)<(cs.length:Int))=false from decide_eq_false (by omega),cond_false,zdv];have:=zln cs hl (cs.length+2) 0 1 (by omega) (qaU _) (by omega);rw[show((1:Nat):Int)=1 from rfl,show((0:Nat):Int)=0 from rfl,qbj,Nat.one_mul]at this;rw[this,decide_eq_true hl,qbh];cases zeH 1 cs<;>rfl
 rw[show decide ((12:Int)<(cs.length:Int))=true from decide_eq_true (by omega),cond_true,decide_eq_false hl];rfl
def zqn:Int→List Int→Bool
 | _,[]=>true
 | l,v :: vs=>decide (l<v) && decide (v≤63) && zqn v vs
def zp2:List Int→Bool
 | []=>true
 | w :: ws=>decide (0≤w) && decide (w≤4611686018427387903) && zp2 ws
def zq5(x:S_api_Factor):Bool:=zcE x.cards && decide (x.vars.length=x.cards.length) && decide (x.w.length=zgb x.cards) && zqn (-1) x.vars && zp2 x.w
def zck:List Nat→List Nat
 | []=>[]
 | _ :: cs=>zay cs :: zck cs
theorem zlX(cs:List Nat):(zck cs).length=cs.length:=by induction cs with | nil=>rfl | cons c cs ih=>simp[zck,ih]
abbrev noT:S_factor_table×Int:=(⟨⟨[],[],[]⟩,[]⟩,30)
theorem zlm(x:S_api_Factor)(hl:x.vars.length≤12):∀(n i:Nat) (l:Int),i≤x.vars.length→x.vars.length - i<n→zb5 x n l (i:Int)=some (bif zqn l (x.vars.drop i)then .go ()else .ret noT)
 | 0,_,_,_,h=>absurd h (qba _)
 | n+1,i,l,hi,hn=>by
  unfold zb5;rcases qa1 i x.vars.length with h3 | h3
  ·rw[zp6 h3,cond_true,zc5 h3,qae,qaB h3];generalize x.vars[i]=v;simp only[zqn];by_cases h1:v≤l
   ·rw[decide_eq_true h1,cond_true,qae,cond_true,decide_eq_false (show ¬ l<v by omega)];rfl
   rw[decide_eq_false h1,cond_false,qae,decide_eq_true (show l<v by omega)];by_cases h2:63<v
   ·rw[decide_eq_true h2,cond_true,decide_eq_false (show ¬ v≤63 by omega)];rfl
   rw[decide_eq_false h2,cond_false,decide_eq_true (show v≤63 by omega),zcg (by omega),zlm x hl n (i+1) v h3 (by omega)];rfl
  obtain rfl:i=x.vars.length:=by omega
  rw[zp7,cond_false,qaY];rfl
theorem zly(x:S_api_Factor)(hl:x.w.length≤4096):∀(n i:Nat),i≤x.w.length→x.w.length - i<n→zb0 x n (i:Int)=some (bif zp2 (x.w.drop i)then .go ()else .ret noT)
 | 0,_,_,h=>absurd h (qba _)
 | n+1,i,hi,hn=>by
  unfold zb0;rcases qa1 i x.w.length with h3 | h3
  ·rw[zp6 h3,cond_true,zc5 h3,qae,qaB h3];generalize x.w[i]=v;simp only[zp2];by_cases h1:v<0
   ·rw[decide_eq_true h1,cond_true,qae,cond_true,decide_eq_false (show ¬ 0≤v by omega)];rfl
   rw[decide_eq_false h1,cond_false,qae,decide_eq_true (show 0≤v by omega)];by_cases h2:4611686018427387903<v
   ·rw[decide_eq_true h2,cond_true,decide_eq_false (show ¬ v≤4611686018427387903 by omega)];rfl
   rw[decide_eq_false h2,cond_false,decide_eq_true (show v≤4611686018427387903 by omega),zcg (by omega),zly x hl n (i+1) h3 (by omega)];rfl
  obtain rfl:i=x.w.length:=by omega
  rw[zp7,cond_false,qaY];rfl
theorem zh5{ns:List Nat}(h:∀ c∈ns,1≤c):∀ k,zay (ns.drop k)≤zay ns:=by
 induction ns with
 | nil=>intro k; simp
 | cons n ns ih=>
  intro k;cases k with
  | zero=>exact qaf _
  | succ k=>
   have h1:=ih (fun c hc=>h c (qan _ hc)) k;have h2:=h n qau;show zay (ns.drop k)≤n * zay ns;exact qav h1 (Nat.le_mul_of_pos_left _ h2)
theorem zkF(a b:List Nat):iL (a ++ b)=iL a ++ iL b:=by simp[iL]
theorem zgy(k:Nat):iL (List.replicate k 0)=List.replicate k 0:=by simp[iL]
theorem zio(x:S_api_Factor){ns:List Nat}(hx:x.cards=iL ns)(hc:∀ c∈ns,1≤c)(hp:zay ns≤4096)(hl:ns.length≤12):∀(k n:Nat),k≤ns.length→k<n →
  zbC x n ((zay (ns.drop k):Nat):Int) ((k:Int) - 1) (iL (List.replicate k 0 ++ zck (ns.drop k)))=some (iL (zck ns))
 | k,0,_,h=>absurd h (qba _)
 | 0,n+1,_,_=>by
  unfold zbC;rw[show decide ((0:Int)≤((0:Nat):Int) - 1)=false from rfl,cond_false];rfl
 | k+1,n+1,hk,hn=>by
  have ih:=zio x hx hc hp hl k n (by omega) (by omega);have hk':k<ns.length:=hk;unfold zbC;have e:(((k+1:Nat):Int) - 1)=(k:Int):=by omega
  have hlen:k<(iL (List.replicate (k+1) 0 ++ zck (ns.drop (k+1)))).length:=by rw[zbK]; simp; omega
  rw[e,show decide ((0:Int)≤(k:Int))=true from decide_eq_true (by omega),cond_true,zc5 hlen,qae,zlt hlen,qae,hx,zfT hk',qae];have hd:ns.drop k=ns[k]:: ns.drop (k+1):=qaB hk';have h1:(iL (List.replicate (k+1) 0 ++ zck (ns.drop (k+1)))).set k ((zay (ns.drop (k+1)):Nat):Int)=iL (List.replicate k 0 ++ zck (ns.drop k)):=by
   rw[hd,zkF,zkF,zgy,zgy,List.replicate_succ',qbi,List.set_append_right _ _ (by simp)];simp[zck,iL]
  have h2:((zay (ns.drop (k+1)):Nat):Int)* ((ns[k]:Nat):Int)=((zay (ns.drop k):Nat):Int):=by
   rw[hd,← qa6,qbE]; rfl
  have h3:=zh5 hc k;rw[h1,h2,zfF (by omega),zk7 (by omega) (by omega)];exact ih
def znT(xs:List Int):List Nat:=xs.map Int.toNat
theorem zfy(ns:List Nat):znT (iL ns)=ns:=by
 induction ns with
 | nil=>rfl
 | cons n ns ih=>show(n:Int).toNat :: znT (iL ns)=n :: ns; rw[ih,qaJ]
theorem zgM{cs:List Int}(h:zcE cs=true):∃ ns:List Nat,cs=iL ns∧(∀ c∈ns,1≤c∧c≤8)∧zay ns≤4096∧ns.length≤12:=by
 unfold zcE at h;simp only[qah,decide_eq_true_eq]at h;obtain⟨ns,rfl,h1,h2⟩:=zhp h.2;exact⟨ns,rfl,h1,by have:=h2 (by omega); omega,by have:=h.1; rw[zbK]at this; exact this⟩
theorem zpd(x:S_api_Factor):zaE x=some (bif zq5 x then(⟨x,iL (zck (znT x.cards))⟩,0)else noT):=by
 unfold zaE zq5;rw[zpt,qae];cases hc:zcE x.cards with
 | false=>
  rw[cond_false];rfl
 | true=>
  obtain⟨ns,hx,h1,h2,h3⟩:=zgM hc;rw[cond_true,show(((((zgb x.cards:Nat):Int),(0:Int)).2 == 0))=true from rfl,cond_true,qbh];by_cases hv:x.vars.length=x.cards.length
  ·rw[show(((x.vars.length:Nat):Int)==((x.cards.length:Nat):Int))=true by rw[hv]; exact beq_self_eq_true _,cond_true,qae,decide_eq_true hv,qbh];by_cases hw:x.w.length=zgb x.cards
   ·have hw':x.w.length≤4096:=by rw[hw,hx,zgT]; exact h2
    have hl:x.vars.length≤12:=by rw[hv,hx,zbK]; exact h3
    rw[show(!(((x.w.length:Nat):Int)==((zgb x.cards:Nat):Int)))=false by rw[hw,beq_self_eq_true]; rfl,cond_false,decide_eq_true hw,qbh,zdv,zdv];have e1:=zlm x hl (x.vars.length+2) 0 (-1) (qaU _) (by omega);have e2:=zly x hw' (x.w.length+2) 0 (qaU _) (by omega);rw[show((0:Nat):Int)=0 from rfl,qbj]at e1 e2;rw[e1,qae];cases zqn (-1) x.vars with
    | false=>rfl
    | true=>
     rw[cond_true,qbh];simp only;rw[e2,qae];cases zp2 x.w with
     | false=>rfl
     | true=>
      rw[cond_true];simp only;have hlen:x.cards.length=ns.length:=by rw[hx,zbK]
      have e3:=zio x hx (fun c hc=>(h1 c hc).1) h2 h3 ns.length (ns.length+1+1) (qaf _) (by omega);rw[qaY]at e3;rw[zfP (by omega),qae,qaJ,hlen,zk7 (by omega) (by omega),show((ns.length:Int) - 1 - 0+2).toNat=ns.length+1 by omega];have e4:=zio x hx (fun c hc=>(h1 c hc).1) h2 h3 ns.length (ns.length+1) (qaf _) (by omega);rw[qaY]at e4;rw[show iL (List.replicate ns.length 0 ++ zck [])=List.replicate ns.length 0 by simp[zck,iL],show((zay []:Nat):Int)=1 from rfl]at e4;rw[e4,qae,cond_true,hx,zfy]
   rw[show(!(((x.w.length:Nat):Int)==((zgb x.cards:Nat):Int)))=true by rw[qa0]; exact beq_false_of_ne (by omega),cond_true,decide_eq_false hw];rfl
  rw[show(((x.vars.length:Nat):Int)==((x.cards.length:Nat):Int))=false from beq_false_of_ne (by omega),cond_false,qae,cond_true,decide_eq_false hv];rfl
structure Fc where
 vs:List Nat
 cs:List Nat
 ws:List Nat
def Fc.D(f:Fc):S_api_Factor:=⟨iL f.vs,iL f.cs,iL f.ws⟩
structure FcOk (f:Fc):Prop where
 len:f.vs.length=f.cs.length
 le:f.cs.length≤12
 card:∀ c∈f.cs,1≤c∧c≤8
 prod:zay f.cs≤4096
 size:f.ws.length=zay f.cs
 inc:f.vs.Pairwise (· < ·)
 var:∀ v∈f.vs,v<64
 num:∀ w∈f.ws,w≤zl0
theorem znw:∀ {ns:List Nat} {l:Int},ns.Pairwise (· < ·)→(∀ v∈ns,v<64∧l<(v:Int))→zqn l (iL ns)=true
 | [],_,_,_=>rfl
 | n :: ns,l,h1,h2=>by
  have h3:=h2 n qau;obtain⟨h4,h5⟩:=qa4.1 h1;show(decide (l<(n:Int)) && decide ((n:Int)≤63) && zqn (n:Int) (iL ns))=true;rw[decide_eq_true h3.2,decide_eq_true (by omega),znw h5 fun v hv=>⟨(h2 v (qan _ hv)).1,by have:=h4 v hv; omega⟩];rfl
theorem zmH:∀ {ns:List Nat},(∀ w∈ns,w≤zl0)→zp2 (iL ns)=true
 | [],_=>rfl
 | n :: ns,h=>by
  have h1:n≤4611686018427387903:=h n qau;show(decide (0≤(n:Int)) && decide ((n:Int)≤4611686018427387903) && zp2 (iL ns))=true;rw[decide_eq_true (by omega),decide_eq_true (by omega),zmH fun w hw=>h w (qan _ hw)];rfl
theorem zns{f:Fc}(h:FcOk f):zq5 f.D=true:=by
 unfold zq5 Fc.D zcE;simp only[zbK];rw[decide_eq_true h.le,zjI h.card (by have:=h.prod; omega),decide_eq_true h.len,decide_eq_true (by rw[zgT]; exact h.size),znw h.inc fun v hv=>⟨h.var v hv,by omega⟩,zmH h.num];rfl
def Fc.T(f:Fc):S_factor_table:=⟨f.D,iL (zck f.cs)⟩
theorem zlF{f:Fc}(h:FcOk f):zaE f.D=some (f.T,0):=by
 rw[zpd,zns h,cond_true,show f.D.cards=iL f.cs from rfl,zfy];rfl
def zj7:List Int→Int→Option Nat
 | [],_=>none
 | x :: xs,v=>bif x == v then some 0 else(zj7 xs v).map (· + 1)
def ixZ:Option Nat→Int
 | none=>-1
 | some k=>(k:Int)
theorem zj4:∀ {xs:List Int} {v:Int} {k:Nat},zj7 xs v=some k→∃ h:k<xs.length,xs[k]=v
 | x :: xs,v,k,h=>by
  unfold zj7 at h;cases hb:(x == v)with
  | true=>
   rw[hb,cond_true]at h;cases h;exact⟨by simp,by simpa using hb⟩
  | false=>
   rw[hb,cond_false]at h;cases hp:zj7 xs v with
   | none=>rw[hp]at h; cases h
   | some j=>
    rw[hp]at h;cases h;obtain⟨g1,g2⟩:=zj4 hp;exact⟨by simp; omega,by simpa using g2⟩
theorem zjh:∀ {xs:List Int} {v:Int},zj7 xs v=none→v ∉ xs
 | [],v,_=>by simp
 | x :: xs,v,h=>by
  unfold zj7 at h;cases hb:(x == v)with
  | true=>rw[hb,cond_true]at h; cases h
  | false=>
   rw[hb,cond_false]at h;have h1:zj7 xs v=none:=by
    cases hp:zj7 xs v with
    | none=>rfl
    | some j=>rw[hp]at h; cases h
   have h2:x≠v:=by simpa using hb
   intro hm;rcases qaP.1 hm with rfl | hm
   ·exact h2 rfl
   exact zjh h1 hm
theorem zk4(xs:List Int)(v:Int)(hl:xs.length<4611686018427387904):∀(n i:Nat),i≤xs.length→xs.length - i<n→zaN xs v n (i:Int)=some (match zj7 (xs.drop i) v with | none=>.go ()| some k=>.ret ((i+k:Nat):Int))
 | 0,_,_,h=>absurd h (qba _)
 | n+1,i,hi,hn=>by
  unfold zaN;rcases qa1 i xs.length with h3 | h3
  ·rw[zp6 h3,cond_true,zc5 h3,qae,qaB h3];generalize xs[i]=x;unfold zj7;by_cases h:v=x
   ·subst h;rw[beq_self_eq_true,cond_true,cond_true];rfl
   rw[show(v == x)=false from beq_false_of_ne h,show(x == v)=false from beq_false_of_ne (fun e=>h e.symm),cond_false,cond_false,zcg (by omega),zk4 xs v hl n (i+1) h3 (by omega)];cases zj7 (xs.drop (i+1)) v with
   | none=>rfl
   | some k=>
    simp only[qaE];rw[show i+1+k=i+(k+1) by omega]
  obtain rfl:i=xs.length:=by omega
  rw[zp7,cond_false,qaY];rfl
theorem zqB{xs:List Int}(hl:xs.length<4611686018427387904)(v:Int):za3 xs v=some (ixZ (zj7 xs v)):=by
 unfold za3;have h:=zk4 xs v hl (xs.length+2) 0 (qaU _) (by omega);rw[show((0:Nat):Int)=0 from rfl,qbj]at h;rw[zdv,h,qae];cases zj7 xs v with
 | none=>rfl
 | some k=>simp only[qaM]; rfl
theorem FcOk.vl{f:Fc}(h:FcOk f):(iL f.vs).length<4611686018427387904:=by rw[zbK,h.len]; have:=h.le; omega
theorem zlH{f:Fc}(h:FcOk f)(v:Int):zaj f.T v=some (ixZ (zj7 (iL f.vs) v)):=by
 unfold zaj;rw[show f.T.factor.vars=iL f.vs from rfl,zqB h.vl,qae]
theorem zm4(o:Option Nat):decide ((0:Int)≤ixZ o)=o.isSome:=by
 cases o with
 | none=>rfl
 | some k=>exact decide_eq_true (qbZ k)
def pos:List Nat→Nat→Option Nat
 | [],_=>none
 | x :: xs,v=>bif x == v then some 0 else(pos xs v).map (· + 1)
theorem zdR:∀(xs:List Nat) (v:Nat),zj7 (iL xs) (v:Int)=pos xs v
 | [],v=>rfl
 | x :: xs,v=>by
  show(bif ((x:Int)==(v:Int))then some 0 else(zj7 (iL xs) (v:Int)).map (· + 1))=pos (x :: xs) v;rw[zdR xs v];show _=(bif x == v then some 0 else(pos xs v).map (· + 1));cases hb:(x == v)with
  | true=>
   have:x=v:=by simpa using hb
   subst this;rw[beq_self_eq_true]
  | false=>
   have h1:x≠v:=by simpa using hb
   have h2:((x:Int)==(v:Int))=false:=beq_false_of_ne (by omega);rw[h2]
theorem zfw{xs:List Nat}{v k:Nat}(h:pos xs v=some k):∃ hk:k<xs.length,xs[k]=v:=by
 rw[← zdR]at h;obtain⟨h1,h2⟩:=zj4 h;rw[zbK]at h1;refine⟨h1,?_⟩;rw[zpx h1]at h2;omega
theorem zim{xs:List Nat}{v:Nat}(h:pos xs v=none):v ∉ xs:=by
 rw[← zdR]at h;have:=zjh h;intro hm;exact this (qaQ.2 ⟨v,hm,rfl⟩)
theorem zqL{xs:List Nat}{v:Nat}(h:v∈xs):∃ k,pos xs v=some k:=by
 cases hp:pos xs v with
 | none=>exact absurd h (zim hp)
 | some k=>exact⟨k,rfl⟩
def zdr(f g:Fc):Nat→List Nat→Bool
 | _,[]=>true
 | i,v :: vs=>(match pos g.vs v with | none=>true | some k=>g.cs.getD k 0 == f.cs.getD i 0) && zdr f g (i+1) vs
theorem zgU{xs:List Nat}{i:Nat}(h:i<xs.length):zbN (iL xs) (i:Int)=some ((xs.getD i 0:Nat):Int):=by
 rw[zfT h]; simp[List.getD,h]
theorem zp3(a b:Nat):((a:Int)==(b:Int))=(a == b):=by
 rw[Bool.eq_iff_iff,beq_iff_eq,beq_iff_eq];exact Int.ofNat_inj
theorem znl{f g:Fc}(hf:FcOk f)(hg:FcOk g):∀(n i:Nat),i≤f.vs.length→f.vs.length - i<n→zbH f.T g.T n (i:Int)=some (bif zdr f g i (f.vs.drop i)then .go ()else .ret false)
 | 0,_,_,h=>absurd h (qba _)
 | n+1,i,hi,hn=>by
  have hle:=hf.le;have hlen:=hf.len;unfold zbH;rw[show f.T.factor.vars=iL f.vs from rfl,show f.T.factor.cards=iL f.cs from rfl,show g.T.factor.cards=iL g.cs from rfl,zbK];rcases qa1 i f.vs.length with h3 | h3
  ·rw[zp6 h3,cond_true,zfT h3,qae,zlH hg,zdR,qae,zm4,qaB h3];simp only[zdr];have ih:=znl hf hg n (i+1) h3 (by omega);cases hp:pos g.vs f.vs[i]with
   | none=>
    rw[Option.isSome_none,cond_false,qae,cond_false,zcg (by omega),ih,qbh]
   | some k=>
    obtain⟨hk,_⟩:=zfw hp;rw[qbX,cond_true,show ixZ (some k)=(k:Int)from rfl,zgU (by rw[← hg.len]; exact hk),qae,zgU (by omega),qae,qae,zp3];cases hb:(g.cs.getD k 0 == f.cs.getD i 0)with
    | true=>simp only[hb]; rw[qaO,cond_false,zcg (by omega),ih,qbh]
    | false=>simp only[hb]; rw[qbd,cond_true,Bool.false_and]; rfl
  obtain rfl:i=f.vs.length:=by omega
  rw[zp7,cond_false,qaY];rfl
theorem zqQ{f g:Fc}(hf:FcOk f)(hg:FcOk g):zbX f.T g.T=some (zdr f g 0 f.vs):=by
 unfold zbX;have h:=znl hf hg (f.vs.length+2) 0 (qaU _) (by omega);rw[show((0:Nat):Int)=0 from rfl,qbj]at h;rw[show f.T.factor.vars=iL f.vs from rfl,zbK,zdv,h,qae];cases zdr f g 0 f.vs<;>rfl
def dig:List Nat→Nat→List Nat
 | [],_=>[]
 | _ :: cs,i=>i / zay cs :: dig cs (i % zay cs)
theorem zkt:∀(cs:List Nat) (i:Nat),(dig cs i).length=cs.length
 | [],_=>rfl
 | _ :: cs,i=>by simp[dig,zkt cs]
def dot:List Nat→List Nat→Nat
 | x :: xs,s :: ss=>x * s+dot xs ss
 | _,_=>0
theorem ziz:∀ {xs ss:List Nat} (ys ts:List Nat),xs.length=ss.length→dot (xs ++ ys) (ss ++ ts)=dot xs ss+dot ys ts
 | [],[],ys,ts,_=>by simp[dot]
 | x :: xs,s :: ss,ys,ts,h=>by
  simp only[qa2,dot];rw[ziz ys ts (by simpa using h)]; omega
 | [],_ :: _,_,_,h=>by simp at h
 | _ :: _,[],_,_,h=>by simp at h
theorem zkS(x s:Nat):dot [x] [s]=x * s:=by simp[dot]
def zc6:List Nat→List Nat→Prop
 | [],[]=>True
 | c :: cs,x :: xs=>x<c∧c≤8∧zc6 cs xs
 | _,_=>False
theorem zc6.len:∀ {cs xs:List Nat},zc6 cs xs→xs.length=cs.length
 | [],[],_=>rfl
 | c :: cs,x :: xs,h=>by simp[h.2.2.len]
theorem zc6.snoc:∀ {cs xs:List Nat} {c x:Nat},zc6 (cs ++ [c]) (xs ++ [x])→xs.length=cs.length→zc6 cs xs∧x<c∧c≤8
 | [],[],c,x,h,_=>⟨qcb,h.1,h.2.1⟩
 | c :: cs,x :: xs,_,_,h,hl=>by
  obtain⟨h1,h2,h3⟩:=h;obtain⟨g1,g2⟩:=h3.snoc (by simpa using hl);exact⟨⟨h1,h2,g1⟩,g2⟩
theorem zfK{cs:List Nat}(h:∀ c∈cs,1≤c∧c≤8):0<zay cs:=zjB fun c hc=>(h c hc).1
theorem ze9:∀ {cs:List Nat} {i:Nat},(∀ c∈cs,1≤c∧c≤8)→i<zay cs→zc6 cs (dig cs i)
 | [],_,_,_=>trivial
 | c :: cs,i,h,hi=>by
  have hc:=h c qau;have hp:=zfK fun d hd=>h d (qan c hd)
  refine⟨?_,hc.2,ze9 (fun d hd=>h d (qan c hd)) (qb9 _ hp)⟩;have h1:i<c * zay cs:=hi;exact Nat.div_lt_of_lt_mul (by rw[qbE]; exact h1)
theorem zpC:∀ {cs xs ss:List Nat},zc6 cs xs→(∀ s∈ss,s≤4096)→dot xs ss≤cs.length * 32768
 | [],[],_,_,_=>by simp[dot]
 | c :: cs,x :: xs,[],_,_=>by simp[dot]
 | c :: cs,x :: xs,s :: ss,h,hs=>by
  have h1:=zpC h.2.2 fun t ht=>hs t (qan _ ht)
  have h2:=hs s qau;have h3:x * s≤8 * 4096:=qbA (by have:=h.1; have:=h.2.1; omega) h2;simp only[dot,qaK];omega
def nxt:List Nat→List Nat→Option (List Nat)
 | c :: cs,v :: vs=>match nxt cs vs with
  | some vs'=>some (v :: vs')
  | none=>if v+1<c then some ((v+1):: List.replicate vs.length 0)else none
 | _,_=>none
theorem zg6:∀ {cs vs:List Nat} {c v:Nat},vs.length=cs.length→v+1<c→nxt (cs ++ [c]) (vs ++ [v])=some (vs ++ [v+1])
 | [],[],c,v,_,h=>by simp[nxt,h]
 | d :: cs,u :: vs,c,v,hl,h=>by
  simp only[qa2,nxt,zg6 (show vs.length=cs.length by simpa using hl) h]
theorem zf4:∀ {cs vs:List Nat} {c v:Nat},vs.length=cs.length→¬ v+1<c→nxt (cs ++ [c]) (vs ++ [v])=(nxt cs vs).map (· ++ [0])
 | [],[],c,v,_,h=>by simp[nxt,h]
 | d :: cs,u :: vs,c,v,hl,h=>by
  simp only[qa2,nxt,zf4 (show vs.length=cs.length by simpa using hl) h];cases hn:nxt cs vs with
  | some vs'=>rfl
  | none=>
   simp only[qca];by_cases hu:u+1<d
   ·rw[if_pos hu,if_pos hu];simp[List.replicate_succ']
   rw[if_neg hu,if_neg hu]; rfl
theorem ziW:∀(cs:List Nat),dig cs 0=List.replicate cs.length 0
 | []=>rfl
 | c :: cs=>by simp[dig,ziW cs,qaS]
theorem zoc:∀ {cs:List Nat} {i:Nat},(∀ c∈cs,1≤c∧c≤8)→i<zay cs→nxt cs (dig cs i)=if i+1<zay cs then some (dig cs (i+1))else none
 | [],i,_,hi=>by
  have:i=0:=by simpa [zay]using hi
  subst this;simp[nxt,zay]
 | c :: cs,i,h,hi=>by
  have hp:=zfK fun d hd=>h d (qan c hd)
  have hm:=qb9 i hp;have ih:=zoc (fun d hd=>h d (qan c hd)) hm;have hi':i<c * zay cs:=hi;simp only[dig,nxt,ih];have hdm:=Nat.div_add_mod i (zay cs);generalize hq:i / zay cs=q at *;generalize hr:i % zay cs=r at *;have hprod:zay (c :: cs)=c * zay cs:=rfl;by_cases h1:r+1<zay cs
  ·rw[if_pos h1];have e1:(i+1) / zay cs=q:=by
    rw[← hdm,qaV,Nat.mul_add_div hp,Nat.div_eq_of_lt h1,qa5]
   have e2:(i+1) % zay cs=r+1:=by
    rw[← hdm,qaV,Nat.mul_add_mod,qbl h1]
   have hqc:q<c:=by rw[← hq]; exact Nat.div_lt_of_lt_mul (by rw[qbE]; exact hi')
   have h2:i+1<zay (c :: cs):=by
    rw[hprod];have:(q+1)* zay cs≤c * zay cs:=qar _ hqc;rw[qaI,Nat.one_mul,qbE q]at this;omega
   rw[if_pos h2,e1,e2]
  rw[if_neg h1];have hr1:r+1=zay cs:=by omega
  have hi1:i+1=zay cs * (q+1):=by rw[Nat.mul_add,Nat.mul_one]; omega
  simp only;have h4:(q+1<c)↔(i+1<zay (c :: cs)):=by
   rw[hprod,hi1,qbE c];exact(Nat.mul_lt_mul_left hp).symm
  by_cases h5:q+1<c
  ·rw[if_pos h5,if_pos (h4.1 h5),hi1,Nat.mul_div_cancel_left _ hp,Nat.mul_mod_right,ziW,zkt]
  rw[if_neg h5,if_neg (fun h=>h5 (h4.2 h))]
theorem zc1{xs ys:List Nat}{x:Nat}{k:Nat}(h:xs.length=k):zbN (iL (xs ++ x :: ys)) (k:Int)=some (x:Int):=by
 subst h;rw[zfT (by simp)];simp
theorem zdU{xs ys:List Nat}{x y:Nat}{k:Nat}(h:xs.length=k):zgc (iL (xs ++ x :: ys)) (k:Int) (y:Int)=some (iL (xs ++ y :: ys)):=by
 subst h;rw[zlt (by rw[zbK]; simp)];simp[iL]
theorem zkf{xs:List Nat}{k:Nat}(h:xs.length=k+1):∃ ys y,xs=ys ++ [y]∧ys.length=k:=by
 have hne:xs≠[]:=by rintro rfl; simp at h
 exact⟨xs.dropLast,xs.getLast hne,(List.dropLast_concat_getLast hne).symm,by simp[h]⟩
theorem zlf:∀(k:Nat) (xs cx sx cy sy zs:List Nat) (e:Nat),xs.length=k→cx.length=k→sx.length=k→zc6 cx xs→(∀ s∈sx,s≤4096)→k≤12→e≤1000000 →
  ∃ r,zhH (iL (cx ++ cy)) (iL (sx ++ sy)) k (iL (xs ++ zs)) ((dot xs sx+e:Nat):Int)=some r∧match nxt cx xs with
   | none=>r.2.2 = -1
   | some xs'=>∃(j:Nat) (v st:Int),r.2.2=(j:Int)∧zbN r.1 (j:Int)=some v∧zgc r.1 (j:Int) (w64 (v+1))=some (iL (xs' ++ zs))∧zbN (iL (sx ++ sy)) (j:Int)=some st∧w64 (r.2.1+st)=((dot xs' sx+e:Nat):Int)
 | 0,xs,cx,sx,cy,sy,zs,e,hx,hc,hs,_,_,_,_=>by
  obtain rfl:xs=[]:=qaw.1 hx;obtain rfl:cx=[]:=qaw.1 hc;exact⟨_,rfl,rfl⟩
 | k+1,xs,cx,sx,cy,sy,zs,e,hx,hc,hs,hb,hsm,hk,he=>by
  obtain⟨xs,x,rfl,lx⟩:=zkf hx;obtain⟨cx,c,rfl,lc⟩:=zkf hc;obtain⟨sx,s,rfl,ls⟩:=zkf hs;obtain⟨hb1,hb2,hb3⟩:=hb.snoc (lx.trans lc.symm);have hd:=zpC hb1 fun t ht=>hsm t (qb6 _ ht)
  have hss:s≤4096:=hsm s (by simp);have hxs:x * s≤8 * 4096:=qbA (by omega) hss;have hlen:cx.length * 32768≤12 * 32768:=qar _ (by omega);simp only[qbi,qa7];unfold zhH;rw[zc1 lx,qae,zc1 lc,qae,zk7 (by omega) (by omega)];rw[ziz [x] [s] (lx.trans ls.symm),zkS];by_cases h1:x+1<c
  ·rw[show((x:Int)==(c:Int) - 1)=false from beq_false_of_ne (by omega),cond_false,zg6 (lx.trans lc.symm) h1];refine⟨_,rfl,k,(x:Int),(s:Int),rfl,zc1 lx,?_,zc1 ls,?_⟩
   ·rw[zcg (by omega),zdU lx]; simp
   rw[ziz [x+1] [s] (lx.trans ls.symm),zkS,← qb0,zfF (by omega),qaI];congr 1; omega
  rw[show((x:Int)==(c:Int) - 1)=true by rw[show(x:Int)=(c:Int) - 1 by omega]; exact beq_self_eq_true _,cond_true,zc1 ls,qae,show(0:Int)=((0:Nat):Int)from rfl,zdU lx,qae,← qa6,
   zfF (by omega),show(((dot xs sx+x * s+e:Nat):Int) - ((x * s:Nat):Int))=((dot xs sx+e:Nat):Int) by omega,zfF (by omega),zf4 (lx.trans lc.symm) h1]
  obtain⟨r,h2,h3⟩:=zlf k xs cx sx (c :: cy) (s :: sy) (0 :: zs) e lx lc ls hb1 (fun t ht=>hsm t (qb6 _ ht)) (by omega) he;refine⟨r,h2,?_⟩;cases hn:nxt cx xs with
  | none=>rw[hn]at h3; exact h3
  | some xs'=>
   rw[hn]at h3;obtain⟨j,v,st,g1,g2,g3,g4,g5⟩:=h3;have hl':xs'.length=sx.length:=by
    have:∀ {cs vs ws:List Nat},nxt cs vs=some ws→vs.length=cs.length→ws.length=vs.length:=by
     intro cs;induction cs with
     | nil=>intro vs ws h _; simp[nxt]at h
     | cons d cs ih=>
      intro vs ws h hl;cases vs with
      | nil=>simp[nxt]at h
      | cons u vs=>
       simp only[nxt]at h;cases hq:nxt cs vs with
       | some vs'=>
        rw[hq]at h;cases h;simp[ih hq (by simpa using hl)]
       | none=>
        rw[hq]at h;simp only at h;split at h
        ·cases h; simp
        cases h
    rw[this hn (lx.trans lc.symm),lx,ls]
   refine⟨j,v,st,g1,g2,by rw[g3]; simp,g4,?_⟩;rw[g5,ziz [0] [s] hl',zkS,qby,qa5]
def zhn(cs ss:List Nat)(i m:Nat):List (Int×Int×List Int):=(List.range' i m).map fun j:Nat=>((j:Int),((dot (dig cs j) ss:Nat):Int),iL (dig cs j))
theorem zrv{cs ss:List Nat}(hc:∀ c∈cs,1≤c∧c≤8)(hl:cs.length≤12)(hp:zay cs≤4096)(hs:ss.length=cs.length)(hsm:∀ s∈ss,s≤4096):∀(m i n:Nat),i+(m+1)=zay cs→m<n →
  zqU (iL cs) (iL ss) n (iL (dig cs i)) (i:Int) ((dot (dig cs i) ss:Nat):Int)=some (zhn cs ss i (m+1))
 | m,i,0,_,h=>absurd h (qba _)
 | m,i,n+1,hi,hn=>by
  have hb:=ze9 hc (show i<zay cs by omega);obtain⟨r,h1,h2⟩:=zlf cs.length (dig cs i) cs ss [] [] [] 0 (zkt _ _) rfl hs hb hsm hl (by omega);simp only[qa9,qa5]at h1 h2;unfold zqU;rw[zbK,h1,qae];rw[zoc hc (show i<zay cs by omega)]at h2;cases m with
  | zero=>
   rw[if_neg (by omega)]at h2;simp only at h2;rw[h2];rfl
  | succ m=>
   rw[if_pos (by omega)]at h2;simp only at h2;obtain⟨j,v,st,g1,g2,g3,g4,g5⟩:=h2;rw[g1,show decide ((j:Int)<0)=false from decide_eq_false (by omega),cond_false,g2,qae,g3,qae,g4,qae,g5,zcg (by omega),zrv hc hl hp hs hsm m (i+1) n (by omega) (by omega)];rfl
theorem znR(cs:List Nat):∀ a:Nat,(iL cs).foldl (· * ·) (a:Int)=((a * zay cs:Nat):Int):=by
 induction cs with
 | nil=>intro a; simp[iL,zay]
 | cons c cs ih=>
  intro a;show(iL cs).foldl (· * ·) ((a:Int)* (c:Int))=_;rw[← qa6,ih,qbP];rfl
theorem zrs{cs ss:List Nat}(hc:∀ c∈cs,1≤c∧c≤8)(hl:cs.length≤12)(hp:zay cs≤4096)(hs:ss.length=cs.length)(hsm:∀ s∈ss,s≤4096):zoy (iL cs) (iL ss)=some (zhn cs ss 0 (zay cs)):=by
 have hpos:=zfK hc;unfold zoy zk8;rw[if_pos (by rw[zbK]; omega),qae,zbK,zfP (by omega),qae];have h:=znR cs 1;rw[show((1:Nat):Int)=1 from rfl]at h;rw[h,Nat.one_mul,qaJ];obtain⟨m,hm⟩:∃ m,zay cs=m+1:=⟨zay cs - 1,by omega⟩;have e:=zrv hc hl hp hs hsm m 0 (m+1) (by omega) (by omega);have hz:∀(n:Nat) (ss:List Nat),dot (List.replicate n 0) ss=0:=by
  intro n;induction n with
  | zero=>intro ss; simp[dot]
  | succ n ih=>
   intro ss;cases ss with
   | nil=>simp[qaS,dot]
   | cons s ss=>simp[qaS,dot,ih]
 rw[ziW,hz,zgy]at e;rw[hm];exact e
theorem zo4{cs:List Nat}(hc:∀ c∈cs,1≤c)(hp:zay cs≤4096):∀ s∈zck cs,s≤4096:=by
 induction cs with
 | nil=>intro s hs; cases hs
 | cons c cs ih=>
  have h1:=hc c qau;have h2:zay cs≤4096:=qav (Nat.le_mul_of_pos_left (zay cs) h1) hp;intro s hs;rcases qaP.1 hs with rfl | hs
  ·exact h2
  exact ih (fun d hd=>hc d (qan _ hd)) h2 s hs
theorem zc6.drop:∀ {cs xs:List Nat} (k:Nat),zc6 cs xs→zc6 (cs.drop k) (xs.drop k)
 | cs,xs,0,h=>h
 | [],[],k+1,_=>trivial
 | c :: cs,x :: xs,k+1,h=>h.2.2.drop k
theorem zpH:∀ {cs ds:List Nat},zc6 cs ds→dot ds (zck cs)<zay cs
 | [],[],_=>by simp[dot,zay]
 | c :: cs,d :: ds,h=>by
  have h1:=zpH h.2.2;show d * zay cs+dot ds (zck cs)<c * zay cs;have h2:(d+1)* zay cs≤c * zay cs:=qar _ h.1;rw[qaI,Nat.one_mul]at h2;omega
def stp:List Nat→List Nat→Nat→Nat
 | v :: vs,_ :: cs,u=>bif v == u then zay cs else stp vs cs u
 | _,_,_=>0
def at_:List Nat→List Nat→Nat→Nat
 | v :: vs,d :: ds,u=>bif v == u then d else at_ vs ds u
 | _,_,_=>0
theorem zkQ:∀ {vs cs:List Nat} {u:Nat},vs.length=cs.length→stp vs cs u=(match pos vs u with | none=>0 | some k=>(zck cs).getD k 0)
 | [],_,u,_=>by simp[stp,pos]
 | v :: vs,[],_,h=>by simp at h
 | v :: vs,c :: cs,u,h=>by
  have ih:=zkQ (u:=u) (show vs.length=cs.length by simpa using h);unfold stp pos;cases hb:(v == u)with
  | true=>rfl
  | false=>
   rw[cond_false,cond_false,ih];cases pos vs u with
   | none=>rfl
   | some k=>simp[zck]
theorem znt{f:Fc}(hf:FcOk f){vs:List Nat}(hl:vs.length≤100):∀(n i:Nat),i≤vs.length→vs.length - i<n →
  zaV (iL vs) f.T n (i:Int) (iL ((vs.map (stp f.vs f.cs)).take i ++ List.replicate (vs.length - i) 0))=some (iL (vs.map (stp f.vs f.cs)))
 | 0,_,_,h=>absurd h (qba _)
 | n+1,i,hi,hn=>by
  unfold zaV;rw[zbK];rcases qa1 i vs.length with h3 | h3
  ·have ih:=znt hf hl n (i+1) h3 (by omega);have ht:((vs.map (stp f.vs f.cs)).take i).length=i:=by simp; omega
   have e:List.replicate (vs.length - i) 0=0 :: List.replicate (vs.length - (i+1)) 0:=by
    rw[show vs.length - i=(vs.length - (i+1))+1 by omega,qaS]
   have e2:(vs.map (stp f.vs f.cs)).take (i+1)=(vs.map (stp f.vs f.cs)).take i ++ [stp f.vs f.cs vs[i]]:=by
    rw[List.take_succ_eq_append_getElem (by simpa using h3)]; simp
   rw[e2,qbi,qa7]at ih;rw[zp6 h3,cond_true,zfT h3,qae,zlH hf,qae,zdR,zm4,e];rw[zkQ hf.len]at ih;cases hp:pos f.vs vs[i]with
   | none=>
    rw[hp]at ih;rw[Option.isSome_none,cond_false,qae,zcg (by omega)];exact ih
   | some k=>
    rw[hp]at ih;obtain⟨hk,_⟩:=zfw hp;rw[qbX,cond_true,show ixZ (some k)=(k:Int)from rfl,show f.T.steps=iL (zck f.cs)from rfl,zgU (by rw[zlX,← hf.len]; exact hk),qae,zc1 ht,qae,zdU ht,qae,qae,zcg (by omega)];exact ih
  obtain rfl:i=vs.length:=by omega
  rw[zp7,cond_false,Nat.sub_self,qbU,qa9,qaG (by simp)]
theorem zmO{f:Fc}(hf:FcOk f){vs:List Nat}(hl:vs.length≤100):zaI f.T (iL vs)=some (iL (vs.map (stp f.vs f.cs))):=by
 unfold zaI;have h:=znt hf hl (vs.length+2) 0 (qaU _) (by omega);rw[qbL,qa8,Nat.sub_zero,zgy,show((0:Nat):Int)=0 from rfl]at h;rw[zbK,zfP (by omega),qae,zdv,h];rfl
theorem znU(g h:Nat→Nat):∀(ds vs:List Nat),dot ds (vs.map fun v=>g v+h v)=dot ds (vs.map g)+dot ds (vs.map h)
 | [],_=>by simp[dot]
 | d :: ds,[]=>by simp[dot]
 | d :: ds,v :: vs=>by
  simp only[qay,dot,znU g h ds vs,Nat.mul_add];omega
theorem ziv:∀(ds vs:List Nat) (g:Nat→Nat),(∀ v∈vs,g v=0)→dot ds (vs.map g)=0
 | [],_,_,_=>by simp[dot]
 | d :: ds,[],_,_=>by simp[dot]
 | d :: ds,v :: vs,g,h=>by
  simp only[qay,dot,h v qau,Nat.mul_zero,ziv ds vs g fun u hu=>h u (qan _ hu)]
theorem znW{u p:Nat}:∀ {vs ds:List Nat},vs.Nodup→dot ds (vs.map fun v=>bif u == v then p else 0)=at_ vs ds u * p
 | [],ds,_=>by cases ds<;>simp[dot,at_]
 | v :: vs,[],_=>by simp[dot,at_]
 | v :: vs,d :: ds,h=>by
  obtain⟨h1,h2⟩:=qbD.1 h;simp only[qay,dot,at_];by_cases hb:u=v
  ·subst hb;rw[beq_self_eq_true,cond_true,cond_true,ziv ds vs _ (fun w hw=>by rw[show(u == w)=false from beq_false_of_ne (fun e=>h1 (e ▸ hw))]; rfl),qa5]
  rw[show(u == v)=false from beq_false_of_ne hb,show(v == u)=false from beq_false_of_ne (fun e=>hb e.symm),cond_false,cond_false,znW h2,Nat.mul_zero,qaM]
theorem zn5:∀ {us cs:List Nat} {u:Nat},u ∉ us→stp us cs u=0
 | [],_,_,_=>by simp[stp]
 | v :: us,[],_,_=>by simp[stp]
 | v :: us,c :: cs,u,h=>by
  unfold stp;rw[show(v == u)=false from beq_false_of_ne (fun e=>h (by rw[e]; exact qau)),cond_false,zn5 fun hm=>h (qan _ hm)]
theorem zng{vs ds:List Nat}(hv:vs.Nodup):∀ {us cs:List Nat},us.length=cs.length→us.Nodup→dot ds (vs.map (stp us cs))=dot (us.map (at_ vs ds)) (zck cs)
 | [],cs,_,_=>by
  rw[ziv ds vs _ fun v _=>by simp[stp]];simp[dot]
 | u :: us,[],h,_=>by simp at h
 | u :: us,c :: cs,h,hn=>by
  obtain⟨h1,h2⟩:=qbD.1 hn;have e:vs.map (stp (u :: us) (c :: cs))=vs.map fun v=>(bif u == v then zay cs else 0)+stp us cs v:=by
   refine List.map_congr_left fun v _=>?_
   rw[show stp (u :: us) (c :: cs) v=bif u == v then zay cs else stp us cs v from rfl];cases hb:(u == v)with
   | true=>
    have:u=v:=by simpa using hb
    subst this;rw[cond_true,cond_true,zn5 h1]; rfl
   | false=>
    rw[cond_false,cond_false,qaM]
  rw[e,znU,znW hv,zng hv (by simpa using h) h2];rfl
theorem zeu{vs:List Nat}(h:vs.Pairwise (· < ·)):vs.Nodup:=h.imp fun h=>Nat.ne_of_lt h
def znJ(vs ws:List Nat):List Nat→List Nat→Prop
 | [],[]=>True
 | u :: us,c :: cs=>(u∈vs∧at_ vs ws u=c)∧znJ vs ws us cs
 | _,_=>False
theorem zll:∀ {vs ws ds:List Nat} {u:Nat},vs.length=ws.length→zc6 ws ds→u∈vs→at_ vs ds u<at_ vs ws u∧at_ vs ws u≤8
 | v :: vs,w :: ws,d :: ds,u,hl,hb,hm=>by
  unfold at_;by_cases h:v=u
  ·subst h;rw[beq_self_eq_true,cond_true,cond_true];exact⟨hb.1,hb.2.1⟩
  ·rw[show(v == u)=false from beq_false_of_ne h,cond_false,cond_false];rcases qaP.1 hm with e | hm
   ·exact absurd e.symm h
   ·exact zll (by simpa using hl) hb.2.2 hm
 | [],_,_,_,_,_,hm=>by cases hm
 | v :: vs,[],_,_,hl,_,_=>by simp at hl
 | v :: vs,w :: ws,[],_,_,hb,_=>hb.elim
theorem znJ.below{vs ws ds:List Nat}(hl:vs.length=ws.length)(hb:zc6 ws ds):∀ {us cs:List Nat},znJ vs ws us cs→zc6 cs (us.map (at_ vs ds))
 | [],[],_=>trivial
 | u :: us,c :: cs,⟨⟨h1,h2⟩,h3⟩=>by
  have:=zll hl hb h1;rw[h2]at this;exact⟨this.1,this.2,znJ.below hl hb h3⟩
 | [],_ :: _,h=>h.elim
 | _ :: _,[],h=>h.elim
def Fc.at(f:Fc)(vs ds:List Nat):Nat:=f.ws.getD (dot (f.vs.map (at_ vs ds)) (zck f.cs)) 0
theorem zpY{a:Nat}(ha:a<18446744073709551616):zpE .u64 (a:Int) 4294967295=((a % 4294967296:Nat):Int):=by
 rw[show(4294967295:Int)=((4294967295:Nat):Int)from rfl,zsX ha (by omega)];congr 1
 exact Nat.and_two_pow_sub_one_eq_mod a 32
theorem zmM(a:Nat):zoq .u64 (a:Int) 32=some ((a / 4294967296:Nat):Int):=by
 have h:=zs4 (a:=a) (v:=32) (by omega);rw[show((32:Nat):Int)=32 from rfl]at h;rw[h,Nat.shiftRight_eq_div_pow]
theorem zsD{x y:Nat}(hx:x<18446744073709551616)(hy:y<18446744073709551616):zc4 (x:Int) (y:Int)=some (((x * y / 18446744073709551616:Nat):Int),((x * y % 18446744073709551616:Nat):Int)):=by
 unfold zc4;rw[zmM,qae,zmM,qae,zpY hx,zpY hy];have ex:x=x / 4294967296 * 4294967296+x % 4294967296:=by omega
 have ey:y=y / 4294967296 * 4294967296+y % 4294967296:=by omega
 have exy:x * y=(x / 4294967296)* (y / 4294967296)* 18446744073709551616+((x / 4294967296)* (y % 4294967296)+(x % 4294967296)* (y / 4294967296))* 4294967296+(x % 4294967296)* (y % 4294967296):=by
  have:∀ a b c d:Nat,(a * 4294967296+b)* (c * 4294967296+d)=a * c * 18446744073709551616+(a * d+b * c)* 4294967296+b * d:=by
   intro a b c d;rw[qaI,Nat.mul_add,Nat.mul_add,Nat.mul_mul_mul_comm,show b * (c * 4294967296)=b * c * 4294967296 from(qbP _ _ _).symm,show a * 4294967296 * d=a * d * 4294967296 by rw[qbP,qbE 4294967296 d,qbP]];omega
  calc x * y=(x / 4294967296 * 4294967296+x % 4294967296)* (y / 4294967296 * 4294967296+y % 4294967296):=by rw[← ex,← ey]
   _=_:=this _ _ _ _
 rw[show(x:Int)* (y:Int)=((x * y:Nat):Int)from(qa6 x y).symm,zqT];have ha:x / 4294967296≤4294967295:=by omega
 have hb:x % 4294967296≤4294967295:=by omega
 have hc:y / 4294967296≤4294967295:=by omega
 have hd:y % 4294967296≤4294967295:=by omega
 rw[exy];generalize x / 4294967296=a at *;generalize x % 4294967296=b at *;generalize y / 4294967296=c at *;generalize y % 4294967296=d at *;have h1:a * c≤4294967295 * 4294967295:=qbA ha hc;have h2:a * d≤4294967295 * 4294967295:=qbA ha hd;have h3:b * c≤4294967295 * 4294967295:=qbA hb hc;have h4:b * d≤4294967295 * 4294967295:=qbA hb hd;rw[← qa6,← qa6,← qa6,← qa6];generalize a * c=p at *;generalize a * d=q at *;generalize b * c=r at *;generalize b * d=s at *
 rw[zde (n:=s) (by omega),zmM,qae,zde (n:=q) (by omega),← qb0,zde (n:=q+s / 4294967296) (by omega),zmM,qae,zpY (by omega),zde (n:=r) (by omega),← qb0,zde (n:=(q+s / 4294967296) % 4294967296+r) (by omega),zmM,qae,
  zde (n:=p) (by omega),← qb0,zde (n:=p+(q+s / 4294967296) / 4294967296) (by omega),← qb0,zde (n:=p+(q+s / 4294967296) / 4294967296+((q+s / 4294967296) % 4294967296+r) / 4294967296) (by omega)]
 congr 2
 congr 1
 omega
theorem zol{xs:List Nat}{v:Nat}:(pos xs v).isSome=decide (v∈xs):=by
 cases h:pos xs v with
 | none=>exact(decide_eq_false (zim h)).symm
 | some k=>
  obtain⟨hk,e⟩:=zfw h;exact(decide_eq_true (e ▸ qbw hk)).symm
theorem zfL(u d:Nat)(us ds:List Nat)(v:Nat):at_ (u :: us) (d :: ds) v=bif u == v then d else at_ us ds v:=rfl
theorem znv:∀ {vs ds:List Nat} {v k:Nat},pos vs v=some k→at_ vs ds v=ds.getD k 0
 | [],_,_,_,h=>by cases h
 | u :: us,[],v,k,_=>by simp[at_]
 | u :: us,d :: ds,v,k,h=>by
  rw[zfL];rw[show pos (u :: us) v=bif u == v then some 0 else(pos us v).map (· + 1)from rfl]at h;cases hb:(u == v)with
  | true=>rw[hb,cond_true]at h; cases h; rw[cond_true]; rfl
  | false=>
   rw[hb,cond_false]at h;cases hp:pos us v with
   | none=>rw[hp]at h; cases h
   | some j=>rw[hp]at h; cases h; rw[cond_false,znv hp]; rfl
def inB(f g:Fc)(v:Nat):Bool:=decide (v∈f.vs)|| decide (v∈g.vs)
def cdF(f g:Fc)(v:Nat):Nat:=bif decide (v∈f.vs)then at_ f.vs f.cs v else at_ g.vs g.cs v
def uni(f g:Fc):List Nat:=(List.range' 0 64).filter (inB f g)
theorem zla:∀ {xs:List Nat} {l:Nat},xs.Pairwise (· < ·)→(∀ x∈xs,l≤x∧x<64)→xs.length≤64 - l
 | [],_,_,_=>by simp
 | x :: xs,l,h,hb=>by
  obtain⟨h1,h2⟩:=qa4.1 h;have hx:=hb x qau;have:=zla (l:=x+1) h2 fun y hy=>⟨h1 y hy,(hb y (qan _ hy)).2⟩
  rw[qaK]; omega
theorem zhv{f:Fc}(hf:FcOk f){v k:Nat}(hp:pos f.vs v=some k):zbN f.D.cards (ixZ (some k))=some ((at_ f.vs f.cs v:Nat):Int):=by
 obtain⟨hk,_⟩:=zfw hp;show zbN (iL f.cs) (k:Int)=_;rw[zgU (by rw[← hf.len]; exact hk),znv hp]
theorem zgt{f g:Fc}(hf:FcOk f)(hg:FcOk g){v:Nat}:v∈uni f g↔v∈f.vs∨v∈g.vs:=by
 unfold uni inB;simp only[qb1,List.mem_range'_1,qaR,decide_eq_true_eq];constructor
 ·exact fun h=>h.2
 rintro(h | h)
 ·exact⟨⟨qaU _,by have:=hf.var _ h; omega⟩,.inl h⟩
 exact⟨⟨qaU _,by have:=hg.var _ h; omega⟩,.inr h⟩
theorem zkT(f g:Fc):(uni f g).Pairwise (· < ·):=List.Pairwise.filter _ List.pairwise_lt_range'
theorem zrr{f g:Fc}:∀ v∈uni f g,v<64:=by
 intro v hv;have:=(qb1.1 hv).1;simp only[List.mem_range'_1]at this;omega
theorem zpu(f g:Fc):(uni f g).length≤64:=zla (l:=0) (zkT f g) fun x hx=>⟨qaU _,zrr x hx⟩
theorem zlh:∀ {a b:List Int},a.Pairwise (· < ·)→b.Pairwise (· < ·)→(∀ x,x∈a↔x∈b)→a=b
 | [],[],_,_,_=>rfl
 | [],b :: bs,_,_,h=>by have:=(h b).2 qau; simp at this
 | a :: xs,[],_,_,h=>by have:=(h a).1 qau; simp at this
 | a :: xs,b :: bs,ha,hb,h=>by
  obtain⟨ha1,ha2⟩:=qa4.1 ha;obtain⟨hb1,hb2⟩:=qa4.1 hb;have e:a=b:=by
   rcases qaP.1 ((h a).1 qau)with h1 | h1
   ·exact h1
   rcases qaP.1 ((h b).2 qau)with h2 | h2
   ·exact h2.symm
   have:=hb1 a h1; have:=ha1 b h2; omega
  subst e;refine congrArg (a :: ·) (zlh ha2 hb2 fun x=>⟨fun hx=>?_,fun hx=>?_⟩)
  ·rcases qaP.1 ((h x).1 (qan _ hx))with rfl | h1
   ·have:=ha1 x hx; omega
   exact h1
  rcases qaP.1 ((h x).2 (qan _ hx))with rfl | h1
  ·have:=hb1 x hx; omega
  exact h1
section
variable {s:List Int}
theorem ziy{j:Nat}(h:j<s.length):s.toArray[j]! = s[j]:=by simp[h]
theorem zpw(hs:s.Pairwise (· ≤ ·)){i j:Nat}(hij:i≤j)(hj:j<s.length):s.toArray[i]!≤s.toArray[j]!:=by
 rw[ziy (by omega),ziy hj];rcases Nat.eq_or_lt_of_le hij with h | h
 ·subst h; exact qbn _
 exact List.pairwise_iff_getElem.1 hs i j (by omega) hj h
theorem zqM(hs:s.Pairwise (· ≤ ·)):(Go.Lib.compact s).Pairwise (· < ·):=by
 unfold Go.Lib.compact Go.Lib.compactUpTo;refine List.pairwise_map.2 ((List.Pairwise.filter _ (List.pairwise_lt_range (n:=s.length))).imp_of_mem fun {a b} _ hb hab=>?_);obtain⟨h1,h2⟩:=qb1.1 hb;have hb:=qbM.1 h1;have h3:s.toArray[b]!≠s.toArray[b - 1]!:=by
  rcases of_decide_eq_true h2 with h | h
  ·omega
  exact h
 have h4:=zpw hs (show a≤b - 1 by omega) (by omega);have h5:=zpw hs (show b - 1≤b by omega) hb;omega
theorem zlO:∀ j:Nat,j<s.length→∃ i,i<s.length∧Go.Lib.keeps s.toArray i=true∧s.toArray[i]! = s.toArray[j]!
 | 0,h=>⟨0,h,decide_eq_true (.inl rfl),rfl⟩
 | j+1,h=>by
  by_cases e:s.toArray[j+1]! = s.toArray[j]!
  ·obtain⟨i,h1,h2,h3⟩:=zlO j (by omega);exact⟨i,h1,h2,h3.trans e.symm⟩
  exact⟨j+1,h,decide_eq_true (.inr e),rfl⟩
theorem zqu{x:Int}:x∈Go.Lib.compact s↔x∈s:=by
 unfold Go.Lib.compact Go.Lib.compactUpTo;constructor
 ·intro h;obtain⟨j,h1,rfl⟩:=qaQ.1 h;have hj:=qbM.1 (qb1.1 h1).1;rw[ziy hj];exact qbw hj
 intro h;obtain⟨j,hj,rfl⟩:=List.mem_iff_getElem.1 h;obtain⟨i,h1,h2,h3⟩:=zlO j hj;exact qaQ.2 ⟨i,qb1.2 ⟨qbM.2 h1,h2⟩,h3.trans (ziy hj)⟩
end
theorem zoS(zs:List Int):(zd7 zs).Pairwise (· ≤ ·):=by
 have:=List.pairwise_mergeSort (le:=fun x y:Int=>decide (x≤y)) (fun a b c h1 h2=>by simp at *; omega) (fun a b=>by simp; omega) zs;exact this.imp fun h=>by simpa using h
theorem znn{zs:List Int}{x:Int}:x∈zd7 zs↔x∈zs:=List.mem_mergeSort
theorem zrn{xs:List Nat}(h:xs.Pairwise (· < ·)):(iL xs).Pairwise (· < ·):=List.pairwise_map.2 (h.imp fun h=>Int.ofNat_lt.2 h)
theorem zpq{xs:List Nat}{x:Int}:x∈iL xs↔∃ k∈xs,(k:Int)=x:=qaQ
theorem zpP{f g:Fc}(hf:FcOk f)(hg:FcOk g):Go.Lib.compact (zd7 (iL f.vs ++ iL g.vs))=iL (uni f g):=by
 refine zlh (zqM (zoS _)) (zrn (zkT f g)) fun x=>?_
 rw[zqu,znn,← zkF,zpq,zpq];constructor
 ·rintro⟨k,h1,h2⟩; exact⟨k,(zgt hf hg).2 (qbW.1 h1),h2⟩
 rintro⟨k,h1,h2⟩; exact⟨k,qbW.2 ((zgt hf hg).1 h1),h2⟩
theorem znO{f g:Fc}(hf:FcOk f)(hg:FcOk g){vs:List Nat}(hl:vs.length≤100)(hm:∀ v∈vs,v∈f.vs∨v∈g.vs):∀(n i:Nat),i≤vs.length→vs.length - i<n →
  zbo (iL vs) f.T g.T n (i:Int) (iL ((vs.map (cdF f g)).take i ++ List.replicate (vs.length - i) 0))=some (iL (vs.map (cdF f g)))
 | 0,_,_,h=>absurd h (qba _)
 | n+1,i,hi,hn=>by
  unfold zbo;rw[zbK];rcases qa1 i vs.length with h3 | h3
  ·have ih:=znO hf hg hl hm n (i+1) h3 (by omega);have ht:((vs.map (cdF f g)).take i).length=i:=by simp; omega
   have e:List.replicate (vs.length - i) 0=0 :: List.replicate (vs.length - (i+1)) 0:=by
    rw[show vs.length - i=(vs.length - (i+1))+1 by omega,qaS]
   have e2:(vs.map (cdF f g)).take (i+1)=(vs.map (cdF f g)).take i ++ [cdF f g vs[i]]:=by
    rw[List.take_succ_eq_append_getElem (by simpa using h3)]; simp
   rw[e2,qbi,qa7]at ih;rw[zp6 h3,cond_true,zfT h3,qae,zlH hf,qae,zdR,zm4,e];cases hp:pos f.vs vs[i]with
   | some k=>
    have hm:decide (vs[i]∈f.vs)=true:=by rw[← zol,hp]; rfl
    rw[show cdF f g vs[i]=at_ f.vs f.cs vs[i] by unfold cdF; rw[hm]; rfl]at ih;rw[qbX,cond_true,show f.T.factor=f.D from rfl,zhv hf hp,qae,zc1 ht,qae,zdU ht,qae,qae,zcg (by omega)];exact ih
   | none=>
    have hm1:decide (vs[i]∈f.vs)=false:=by rw[← zol,hp]; rfl
    rw[show cdF f g vs[i]=at_ g.vs g.cs vs[i] by unfold cdF; rw[hm1]; rfl]at ih;have hm2:vs[i]∈g.vs:=(hm vs[i] (qbw h3)).resolve_left (of_decide_eq_false hm1);obtain⟨k,hq⟩:=zqL hm2;rw[Option.isSome_none,cond_false,zlH hg,qae,zdR,hq,show g.T.factor=g.D from rfl,zhv hg hq,qae,zc1 ht,qae,zdU ht,qae,qae,zcg (by omega)];exact ih
  obtain rfl:i=vs.length:=by omega
  rw[zp7,cond_false,Nat.sub_self,qbU,qa9,qaG (by simp)]
theorem zqK{f g:Fc}(hf:FcOk f)(hg:FcOk g):zbz f.T g.T=some (iL (uni f g),iL ((uni f g).map (cdF f g))):=by
 have hl:=zpu f g;have h1:=hf.le; have h2:=hg.le; have h3:=hf.len; have h4:=hg.len;unfold zbz
 rw[show f.T.factor.vars=iL f.vs from rfl,show g.T.factor.vars=iL g.vs from rfl,zoB (by rw[zbK]; omega),qae,zp4 (by rw[zbK,zbK]; omega),qae,
  show zhh 8 (iL f.vs ++ iL g.vs)=some (zd7 (iL f.vs ++ iL g.vs))from by unfold zhh; rw[if_pos (by rw[qas,zbK,zbK]; simp only[zar]; omega)],qae,
  show zq0 (zd7 (iL f.vs ++ iL g.vs))=some (Go.Lib.compact (zd7 (iL f.vs ++ iL g.vs)))from rfl,qae,zpP hf hg,zbK,zfP (by omega),qae,zdv]
 have:=znO hf hg (vs:=uni f g) (by omega) (fun v hv=>(zgt hf hg).1 hv) ((uni f g).length+2) 0 (qaU _) (by omega);rw[qbL,qa8,Nat.sub_zero,zgy]at this;rw[show zbo (iL (uni f g)) f.T g.T ((uni f g).length+2) 0 (List.replicate (uni f g).length 0)=_ from this];rfl
abbrev noF:S_api_Factor:=⟨[],[],[]⟩
theorem zq9{P:Nat}:((bif (((P / 18446744073709551616:Nat):Int)== 0)then some (decide ((4611686018427387903:Int)<((P % 18446744073709551616:Nat):Int)))else some true):Option Bool)=some (!decide (P≤zl0)):=by
 by_cases h:P / 18446744073709551616=0
 ·rw[h,show(((0:Nat):Int)== 0)=true from rfl,cond_true];congr 1
  by_cases h2:P≤zl0
  ·rw[decide_eq_true h2]; exact decide_eq_false (by have:P≤4611686018427387903:=h2; omega)
  rw[decide_eq_false h2]; exact decide_eq_true (by have:¬ P≤4611686018427387903:=h2; omega)
 rw[show(((P / 18446744073709551616:Nat):Int)== 0)=false from beq_eq_false_iff_ne.2 (by omega),cond_false,decide_eq_false (show ¬ P≤zl0 by intro(h2:P≤4611686018427387903); omega)];rfl
theorem zm9{x:Nat}(h:x≤zl0):IntKind.u64.wrap (x:Int)=(x:Int):=by
 have:x≤4611686018427387903:=h;rw[zqT,qbl (by omega)]
theorem zrE{P:Nat}(h:P≤zl0):w64 ((P % 18446744073709551616:Nat):Int)=(P:Int):=by
 have:P≤4611686018427387903:=h;rw[qbl (by omega),zfF (by omega)]
structure Dom (u c:List Nat):Prop where
 len:u.length=c.length
 nodup:u.Nodup
 card:∀ x∈c,1≤x∧x≤8
 le:c.length≤12
 prod:zay c≤4096
theorem zkG{cs:List Nat}(h:zcE (iL cs)=true):(∀ c∈cs,1≤c∧c≤8)∧zay cs≤4096∧cs.length≤12:=by
 obtain⟨ns,h1,h2⟩:=zgM h;have:cs=ns:=by rw[← zfy cs,h1,zfy]
 subst this;exact h2
theorem Fc.zrw{f:Fc}(hf:FcOk f)(u ds:List Nat):f.at u ds≤zl0:=by
 unfold Fc.at;generalize dot _ _=k;by_cases h:k<f.ws.length
 ·rw[qbm,qag h];exact hf.num _ (qbw h)
 rw[qbm,qbo (by omega)];exact qaU _
theorem wat{f:Fc}(hf:FcOk f){u c ds:List Nat}(hD:Dom u c)(hs:znJ u c f.vs f.cs)(hb:zc6 c ds):zbN f.D.w ((dot ds (u.map (stp f.vs f.cs)):Nat):Int)=some ((f.at u ds:Nat):Int):=by
 rw[zng hD.nodup hf.len (zeu hf.inc)];show zbN (iL f.ws) _=_;have:=zpH (znJ.below hD.len hb hs);rw[zgU (by rw[hf.size]; exact this)];rfl
theorem zhq(c ss:List Nat)(i m:Nat):zhn c ss i (m+1)=((i:Int),((dot (dig c i) ss:Nat):Int),iL (dig c i)):: zhn c ss (i+1) m:=by
 unfold zhn;rw[qbR,qay]
theorem zpD{f:Fc}(hf:FcOk f){r12:Int×Int}{u c:List Nat}{e:Int}(hD:Dom u c)(hs:znJ u c f.vs f.cs):∀(m i:Nat) (ys:List Nat),i+m=zay c→ys.length=i →
  zbT (f.T,e) r12 (zhn c (u.map (stp f.vs f.cs)) i m) (iL (ys ++ List.replicate m 0))=some (iL (ys ++ (List.range' i m).map fun j=>f.at u (dig c j)))
 | 0,i,ys,_,_=>by simp[zhn,zbT]
 | m+1,i,ys,h,hy=>by
  rw[zhq];show(zbN f.D.w ((dot (dig c i) (u.map (stp f.vs f.cs)):Nat):Int)).bind _=_;rw[wat hf hD hs (ze9 hD.card (by omega)),qae];simp only[];rw[qaS,zc1 hy,qae,zdU hy,qae,show ys ++ f.at u (dig c i):: List.replicate m 0=(ys ++ [f.at u (dig c i)])++ List.replicate m 0 by simp,zpD hf hD hs m (i+1) _ (by omega) (by simp[hy]),qbR,qay,qbi,qa7]
theorem zpz{g:Fc}(hg:FcOk g){r12:Int×Int}{u c:List Nat}{e:Int}(hD:Dom u c)(hs:znJ u c g.vs g.cs){fa:Nat→Nat}(hfa:∀ j,fa j≤zl0):∀(m i:Nat) (ys:List Nat),i+m=zay c→ys.length=i →
  zbS (g.T,e) r12 (zhn c (u.map (stp g.vs g.cs)) i m) (iL (ys ++ (List.range' i m).map fa))=
   some (bif (List.range' i m).all fun j=>decide (fa j * g.at u (dig c j)≤zl0)then .go (iL (ys ++ (List.range' i m).map fun j=>fa j * g.at u (dig c j)))else .ret (noF,6))
 | 0,i,ys,_,_=>by simp[zhn,zbS]
 | m+1,i,ys,h,hy=>by
  have h1:fa i≤4611686018427387903:=hfa i;have h2:g.at u (dig c i)≤4611686018427387903:=Fc.zrw hg u _;rw[zhq,qbR,qay,qb7];show(zbN (iL (ys ++ fa i :: _)) (i:Int)).bind _=_;rw[zc1 hy,qae];simp only[];rw[show(g.T,e).1.factor.w=g.D.w from rfl,wat hg hD hs (ze9 hD.card (by omega)),qae,zm9 h1,zm9 h2,zsD (by omega) (by omega),qae];simp only[];rw[zq9,qae];by_cases hp:fa i * g.at u (dig c i)≤zl0
  ·rw[decide_eq_true hp,qaO,cond_false,qae,zrE hp,zdU hy,qae,
    show ys ++ fa i * g.at u (dig c i)::(List.range' (i+1) m).map fa=(ys ++ [fa i * g.at u (dig c i)])++ (List.range' (i+1) m).map fa by simp,zpz hg hD hs hfa m (i+1) _ (by omega) (by simp[hy])]
   simp
  rw[decide_eq_false hp,qbd,cond_true,Bool.false_and,cond_false]
theorem znG{h:Nat→Nat}{v:Nat}:∀ {us:List Nat},v∈us→at_ us (us.map h) v=h v
 | [],hm=>by simp at hm
 | u :: us,hm=>by
  rw[qay,zfL];cases hb:(u == v)with
  | true=>rw[cond_true]; rw[beq_iff_eq]at hb; rw[hb]
  | false=>
   rw[cond_false];rcases qaP.1 hm with e | e
   ·rw[e]at hb; simp at hb
   exact znG e
theorem zpg:∀ {vs ds:List Nat} {i:Nat} (hn:vs.Nodup) (h:i<vs.length),at_ vs ds vs[i]=ds.getD i 0
 | v :: vs,[],i,_,_=>by simp[at_]
 | v :: vs,d :: ds,0,_,_=>by rw[zfL]; simp
 | v :: vs,d :: ds,i+1,hn,h=>by
  obtain⟨h1,h2⟩:=qbD.1 hn;have hi:i<vs.length:=by simpa using h
  rw[zfL,show(v :: vs)[i+1]=vs[i]from rfl,show(v == vs[i])=false from beq_false_of_ne (fun e=>h1 (e ▸ qbw hi)),cond_false,zpg h2 hi];rfl
theorem znI{vs ws:List Nat}:∀ {us cs:List Nat},us.length=cs.length→us.Nodup→(∀ u∈us,u∈vs∧at_ vs ws u=at_ us cs u)→znJ vs ws us cs
 | [],[],_,_,_=>trivial
 | [],c :: cs,h,_,_=>by simp at h
 | u :: us,[],h,_,_=>by simp at h
 | u :: us,c :: cs,hl,hn,h=>by
  obtain⟨h1,h2⟩:=qbD.1 hn;refine⟨⟨(h u qau).1,?_⟩,znI (by simpa using hl) h2 fun x hx=>⟨(h x (qan _ hx)).1,?_⟩⟩
  ·rw[(h u qau).2,zfL,beq_self_eq_true,cond_true]
  rw[(h x (qan _ hx)).2,zfL,show(u == x)=false from beq_false_of_ne (fun e=>h1 (e ▸ hx)),cond_false]
def Agr(f g:Fc):Prop:=∀ v,v∈f.vs→v∈g.vs→at_ f.vs f.cs v=at_ g.vs g.cs v
theorem zmE{f g:Fc}(hf:FcOk f)(hg:FcOk g):zdr f g 0 f.vs=true↔Agr f g:=by
 have key:∀(m i:Nat),i+m=f.vs.length→(zdr f g i (f.vs.drop i)=true↔∀ v∈f.vs.drop i,v∈g.vs→at_ f.vs f.cs v=at_ g.vs g.cs v):=by
  intro m;induction m with
  | zero=>intro i h; rw[qbv (by omega)]; simp[zdr]
  | succ m ih=>
   intro i h;have hi:i<f.vs.length:=by omega
   rw[qaB hi];rw[show zdr f g i (f.vs[i]:: f.vs.drop (i+1))=((match pos g.vs f.vs[i]with | none=>true | some k=>g.cs.getD k 0 == f.cs.getD i 0) && zdr f g (i+1) (f.vs.drop (i+1)))from rfl,qah,ih (i+1) (by omega),List.forall_mem_cons];refine and_congr ?_ Iff.rfl;rw[zpg (zeu hf.inc) hi];cases hp:pos g.vs f.vs[i]with
   | none=>exact⟨fun _ hm=>absurd hm (zim hp),fun _=>rfl⟩
   | some k=>
    obtain⟨hk,e⟩:=zfw hp;rw[znv hp];simp only[beq_iff_eq];exact⟨fun h _=>h.symm,fun h=>(h (e ▸ qbw hk)).symm⟩
 have:=key f.vs.length 0 (by omega)
 rwa [qbj]at this
def ucs(f g:Fc):List Nat:=(uni f g).map (cdF f g)
theorem zs5{f g:Fc}{v:Nat}(h:v∈f.vs):cdF f g v=at_ f.vs f.cs v:=by unfold cdF; rw[decide_eq_true h,cond_true]
theorem zsY{f g:Fc}(ha:Agr f g){v:Nat}(h:v∈g.vs):cdF f g v=at_ g.vs g.cs v:=by
 unfold cdF;by_cases h1:v∈f.vs
 ·rw[decide_eq_true h1,cond_true,ha v h1 h]
 rw[decide_eq_false h1,cond_false]
theorem zso{f g:Fc}(hf:FcOk f)(hg:FcOk g):znJ (uni f g) (ucs f g) f.vs f.cs:=
 znI hf.len (zeu hf.inc) fun u hu=>by
  have hm:=(zgt hf hg).2 (.inl hu);exact⟨hm,by unfold ucs; rw[znG hm,zs5 hu]⟩
theorem zsh{f g:Fc}(hf:FcOk f)(hg:FcOk g)(ha:Agr f g):znJ (uni f g) (ucs f g) g.vs g.cs:=
 znI hg.len (zeu hg.inc) fun u hu=>by
  have hm:=(zgt hf hg).2 (.inr hu);exact⟨hm,by unfold ucs; rw[znG hm,zsY ha hu]⟩
theorem zqs{f g:Fc}(h:zcE (iL (ucs f g))=true):Dom (uni f g) (ucs f g):=by
 obtain⟨h1,h2,h3⟩:=zkG h;exact⟨by unfold ucs; simp,zeu (zkT f g),h1,h3,h2⟩
def zqI(f g:Fc):Bool:=(List.range' 0 (zay (ucs f g))).all fun j=>decide (f.at (uni f g) (dig (ucs f g) j)* g.at (uni f g) (dig (ucs f g) j)≤zl0)
def zrH(f g:Fc):Fc:=⟨uni f g,ucs f g,(List.range' 0 (zay (ucs f g))).map fun j=>f.at (uni f g) (dig (ucs f g) j)* g.at (uni f g) (dig (ucs f g) j)⟩
def mulR(f g:Fc):S_api_Factor×Int:=bif zcE (iL (ucs f g))then bif zqI f g then((zrH f g).D,0)else(noF,6)else(noF,3)
theorem zmY{f:Fc}(hf:FcOk f)(v:Nat):stp f.vs f.cs v≤4096:=by
 rw[zkQ hf.len];cases hp:pos f.vs v with
 | none=>exact qaU _
 | some k=>
  simp only;by_cases h:k<(zck f.cs).length
  ·rw[qbm,qag h];exact zo4 (fun c hc=>(hf.card c hc).1) hf.prod _ (qbw h)
  rw[qbm,qbo (by omega)];exact qaU _
theorem zjj(a b:List Int):za1 a b=some (a,b):=by rfl
theorem zj0{f:Fc}(hf:FcOk f){u c:List Nat}(hD:Dom u c):zoy (iL c) (iL (u.map (stp f.vs f.cs)))=some (zhn c (u.map (stp f.vs f.cs)) 0 (zay c)):=
 zrs hD.card hD.le hD.prod (by rw[qbc,hD.len]) fun s hs=>by
  obtain⟨v,_,rfl⟩:=qaQ.1 hs;exact zmY hf v
theorem zqt{f g:Fc}(hf:FcOk f)(hg:FcOk g):zaD f.D g.D=some (bif zdr f g 0 f.vs then mulR f g else(noF,2)):=by
 unfold zaD mulR;rw[zlF hf,qae];simp only[];rw[show((0:Int)== 0)=true from rfl,cond_true,zlF hg,qae];simp only[];rw[show((0:Int)== 0)=true from rfl,cond_true,zqQ hf hg,qae];cases ha:zdr f g 0 f.vs with
 | false=>rfl
 | true=>
  have hA:=(zmE hf hg).1 ha;rw[cond_true,cond_true,zqK hf hg,qae];show(zce (iL (ucs f g))).bind _=_;rw[zpt,qae];cases hc:zcE (iL (ucs f g))with
  | false=>rfl
  | true=>
   have hD:=zqs hc;rw[cond_true,cond_true];have hlu:=zpu f g;have hp:=hD.prod;simp only[];rw[show((0:Int)== 0)=true from rfl,cond_true,zgT,zfP (by omega),qae,zmO hf (by omega),qae,zjj,qae];simp only[];rw[show iL ((uni f g).map (cdF f g))=iL (ucs f g)from rfl,zj0 hf hD,qae,← zgy];have e1:=zpD hf (r12:=((zay (ucs f g):Nat),0)) (e:=0) hD (zso hf hg) (zay (ucs f g)) 0 [] (by omega) rfl;rw[qa8]at e1;rw[e1,qae,zmO hg (by omega),qae,zjj,qae];simp only[];rw[zj0 hg hD,qae];have e2:=zpz hg (r12:=((zay (ucs f g):Nat),0)) (e:=0) hD (zsh hf hg hA) (fa:=fun j=>f.at (uni f g) (dig (ucs f g) j)) (fun j=>Fc.zrw hf _ _) (zay (ucs f g)) 0 [] (by omega) rfl;rw[e2,qae];unfold zqI;cases hk:(List.range' 0 (zay (ucs f g))).all fun j=>decide (f.at (uni f g) (dig (ucs f g) j)* g.at (uni f g) (dig (ucs f g) j)≤zl0)with
   | false=>rfl
   | true=>rfl
def Fc.get(f:Fc)(j:Nat):Nat:=f.ws.getD j 0
theorem znD{xs ys:List Int}(hl:xs.length=ys.length)(hb:xs.length<4611686018427387904):∀ n i:Nat,i≤xs.length→xs.length - i<n→zcr xs ys n (i:Int)=some (bif decide (xs.drop i=ys.drop i)then .go ()else .ret false)
 | 0,_,_,h=>absurd h (qba _)
 | n+1,i,h1,h2=>by
  unfold zcr;rw[zrz];by_cases hi:i<xs.length
  ·have hy:i<ys.length:=by omega
   have e:(xs.drop i=ys.drop i)↔(xs[i]=ys[i]∧xs.drop (i+1)=ys.drop (i+1)):=by
    rw[qaB hi,qaB hy,List.cons.injEq]
   rw[decide_eq_true hi,cond_true,zc5 hi,qae,zc5 hy,qae,zcg (by omega)];by_cases hx:xs[i]=ys[i]
   ·rw[show(xs[i]== ys[i])=true from beq_iff_eq.2 hx,cond_true,znD hl hb n (i+1) hi (by omega),decide_eq_decide.2 (show(xs.drop i=ys.drop i)↔(xs.drop (i+1)=ys.drop (i+1))from e.trans ⟨fun c=>c.2,fun c=>⟨hx,c⟩⟩)]
   rw[show(xs[i]== ys[i])=false from beq_false_of_ne hx,cond_false,decide_eq_false (fun c=>hx (e.1 c).1),cond_false]
  rw[decide_eq_false hi,cond_false,qbv (by omega),qbv (by omega),decide_eq_true rfl,cond_true]
theorem zkR{xs ys:List Int}(hb:xs.length<4611686018427387904):zcU xs ys=some (decide (xs=ys)):=by
 unfold zcU;by_cases hl:xs.length=ys.length
 ·rw[hl,beq_self_eq_true,cond_true,← hl,zdv];have:=znD hl hb (xs.length+2) 0 (qaU _) (by omega);rw[show zcr xs ys (xs.length+2) 0=_ from this,qbj,qbj,qae];cases decide (xs=ys)<;> rfl
 rw[show((xs.length:Int)==(ys.length:Int))=false from beq_false_of_ne (by omega),cond_false,decide_eq_false (fun e=>hl (by rw[e]))]
structure SzOk (x:S_api_Factor):Prop where
 vars:x.vars.length<4611686018427387904
 cards:x.cards.length<4611686018427387904
 w:x.w.length<4611686018427387904
theorem zk0{x y:S_api_Factor}:x=y↔x.vars=y.vars∧x.cards=y.cards∧x.w=y.w:=by
 cases x; cases y; simp
theorem zp8{x y:S_api_Factor}(h:SzOk x):zb3 x y=some (decide (x=y)):=by
 unfold zb3;rw[zkR h.vars,qae];by_cases h1:x.vars=y.vars
 ·rw[decide_eq_true h1,cond_true,zkR h.cards,qae];by_cases h2:x.cards=y.cards
  ·rw[decide_eq_true h2,cond_true,zkR h.w,qae,qae,decide_eq_decide.2 (show x=y↔x.w=y.w from zk0.trans ⟨fun c=>c.2.2,fun c=>⟨h1,h2,c⟩⟩)]
  rw[decide_eq_false h2,cond_false,qae,decide_eq_false (fun e=>h2 (zk0.1 e).2.1)]
 rw[decide_eq_false h1,cond_false,qae,decide_eq_false (fun e=>h1 (zk0.1 e).1)]
theorem FcOk.sz{f:Fc}(h:FcOk f):SzOk f.D:=by
 have h1:=h.le; have h2:=h.len; have h3:=h.size; have h4:=h.prod;refine⟨?_,?_,?_⟩
 ·show(iL f.vs).length<_; rw[zbK]; omega
 ·show(iL f.cs).length<_; rw[zbK]; omega
 show(iL f.ws).length<_; rw[zbK]; omega
theorem zqp(x:S_api_Factor):zaq x=some (bif zq5 x then 0 else 30):=by
 unfold zaq;rw[zpd,qae];cases zq5 x<;>rfl
def zqZ(x:Int):List Int→List Int
 | []=>[x]
 | y :: ys=>bif decide (x≤y)then x :: y :: ys else y :: zqZ x ys
def zq7:List Int→List Int
 | []=>[]
 | x :: xs=>zqZ x (zq7 xs)
theorem zgl(x:Int):∀ ys,(zqZ x ys).Perm (x :: ys)
 | []=>.refl _
 | y :: ys=>by
  unfold zqZ;cases decide (x≤y)with
  | true=>exact .refl _
  | false=>exact((zgl x ys).cons y).trans (.swap x y ys)
theorem zjo:∀ xs,(zq7 xs).Perm xs
 | []=>.refl _
 | x :: xs=>(zgl x _).trans ((zjo xs).cons x)
theorem znP(x:Int):∀ {ys:List Int},ys.Pairwise (· ≤ ·)→(zqZ x ys).Pairwise (· ≤ ·)
 | [],_=>List.pairwise_singleton _ _
 | y :: ys,h=>by
  obtain⟨h1,h2⟩:=qa4.1 h;unfold zqZ;cases hd:decide (x≤y)with
  | true=>
   have:=of_decide_eq_true hd;refine qa4.2 ⟨fun z hz=>?_,h⟩;rcases qaP.1 hz with rfl | hz
   ·exact this
   ·exact Int.le_trans this (h1 z hz)
  | false=>
   have:=of_decide_eq_false hd;refine qa4.2 ⟨fun z hz=>?_,znP x h2⟩;rcases qaP.1 ((zgl x ys).mem_iff.1 hz)with rfl | hz
   ·omega
   exact h1 z hz
theorem zn6:∀ xs,(zq7 xs).Pairwise (· ≤ ·)
 | []=>.nil
 | x :: xs=>znP x (zn6 xs)
theorem zoz:zd7=zq7:=by
 funext xs
 refine List.Perm.eq_of_pairwise (le:=fun a b:Int=>a≤b) (fun a b _ _ h1 h2=>Int.le_antisymm h1 h2) ?_ (zn6 xs) ((List.mergeSort_perm xs _).trans (zjo xs).symm);have:=List.pairwise_mergeSort (le:=fun x y:Int=>decide (x≤y)) (fun a b c h1 h2=>by simp at *; omega) (fun a b=>by simp; omega) xs;exact this.imp fun h=>by simpa using h
def zrO(b:Nat)(xs:List Int):Option (List Int):=if xs.length * b≤zar then some (zq7 xs)else none
theorem zlg:zhh=zrO:=by
 funext b xs
 unfold zhh zrO;rw[zoz]
theorem zrT:zcK=some true:=by
 delta zcK zaD zbz
 rw[zlg];decide +kernel
def zF(vs cs:List Nat)(n:Nat):Fc:=⟨vs,cs,List.replicate n 0⟩
theorem zrk{vs cs:List Nat}{n:Nat}(h1:vs.length=cs.length)(h2:cs.length≤12)(h3:∀ c∈cs,1≤c∧c≤8)(h4:zay cs=n)(h5:n≤4096)(h6:vs.Pairwise (· < ·))(h7:∀ v∈vs,v<64):FcOk (zF vs cs n):=
 ⟨h1,h2,h3,by show zay cs≤4096; omega,by show(List.replicate n 0).length=zay cs; rw[qb3,h4],h6,h7,fun w hw=>by rw[(List.mem_replicate.1 hw).2]; exact qaU _⟩
theorem zpl(vs cs:List Nat)(n j:Nat):(zF vs cs n).get j=0:=by
 show(List.replicate n 0).getD j 0=0;rw[qbm,List.getElem?_replicate];split<;>rfl
theorem zsK(vs cs:List Nat)(n:Nat):(zF vs cs n).D=⟨iL vs,iL cs,List.replicate n 0⟩:=by
 show(⟨iL vs,iL cs,iL (List.replicate n 0)⟩:S_api_Factor)=_;rw[zgy]
def zc8:Fc:=zF [0,1,2,3] [8,8,8,8] 4096
def zmi:Fc:=zF [0,1,2,3,4,5,6,7,8,9,10,11] [2,2,2,2,2,2,2,2,2,2,2,2] 4096
theorem zie:FcOk zc8:=zrk rfl (by decide) (by decide) (by decide) (by decide) (by decide) (by decide)
theorem zod:FcOk zmi:=zrk rfl (by decide) (by decide) (by decide +kernel) (by decide) (by decide) (by decide)
theorem zr2{zs:List Int}(h:zs=List.replicate 4096 0):(⟨[0,1,2,3],[8,8,8,8],zs⟩:S_api_Factor)=zc8.D:=by
 rw[h]; exact(zsK [0,1,2,3] [8,8,8,8] 4096).symm
theorem zrd{zs:List Int}(h:zs=List.replicate 4096 0):(⟨[0,1,2,3,4,5,6,7,8,9,10,11],[2,2,2,2,2,2,2,2,2,2,2,2],zs⟩:S_api_Factor)=zmi.D:=by
 rw[h]; exact(zsK [0,1,2,3,4,5,6,7,8,9,10,11] [2,2,2,2,2,2,2,2,2,2,2,2] 4096).symm
theorem zpA{f:Fc}(h:FcOk f):zaq f.D=some 0:=by rw[zqp,zns h,cond_true]
def c4:Fc:=⟨[4],[2],[1,1]⟩
def c12:Fc:=⟨[12],[1],[1]⟩
def cM:Fc:=⟨[],[],[4611686018427387903]⟩
theorem zsr:FcOk c4:=⟨rfl,by decide,by decide,by decide,rfl,by decide,by decide,by decide⟩
theorem zrM:FcOk c12:=⟨rfl,by decide,by decide,by decide,rfl,by decide,by decide,by decide⟩
theorem zst:FcOk cM:=⟨rfl,by decide,by decide,by decide,rfl,by decide,by decide,by decide⟩
theorem zmA:zaD zc8.D c4.D=some (noF,3):=by
 rw[zqt zie zsr,show zdr zc8 c4 0 zc8.vs=true by decide +kernel,cond_true];unfold mulR;rw[show zcE (iL (ucs zc8 c4))=false by decide +kernel,cond_false]
theorem zlR:zaD zmi.D c12.D=some (noF,3):=by
 rw[zqt zod zrM,show zdr zmi c12 0 zmi.vs=true by decide +kernel,cond_true];unfold mulR;rw[show zcE (iL (ucs zmi c12))=false by decide +kernel,cond_false]
theorem zrQ{vs cs:List Nat}{n:Nat}(g:Fc):zrH (zF vs cs n) g=zF (uni (zF vs cs n) g) (ucs (zF vs cs n) g) (zay (ucs (zF vs cs n) g)):=by
 unfold zrH;rw[List.map_congr_left (g:=fun _=>0) fun j _=>by rw[show(zF vs cs n).at (uni (zF vs cs n) g) (dig (ucs (zF vs cs n) g) j)=0 from zpl _ _ _ _,qby],List.map_const',List.length_range'];rfl
theorem zqP(us ds:List Nat):zc8.at us ds=0:=zpl _ _ _ _
theorem zm6:zaD zc8.D cM.D=some (zc8.D,0):=by
 have hu:ucs zc8 cM=[8,8,8,8]:=by decide +kernel
 have hv:uni zc8 cM=[0,1,2,3]:=by decide +kernel
 rw[zqt zie zst,show zdr zc8 cM 0 zc8.vs=true by decide +kernel,cond_true];unfold mulR;have hk:zqI zc8 cM=true:=qbf.2 fun j _=>decide_eq_true (by rw[zqP,qby]; exact qaU _)
 have hm:zrH zc8 cM=zc8:=by
  have e:zrH zc8 cM=zF (uni zc8 cM) (ucs zc8 cM) (zay (ucs zc8 cM)):=zrQ cM;rw[e,hv,hu,show zay [8,8,8,8]=4096 by decide];rfl
 rw[hu,show zcE (iL [8,8,8,8])=true by decide +kernel,cond_true,hk,cond_true,hm]
theorem zqo:zb3 zc8.D zc8.D=some true:=by rw[zp8 zie.sz,decide_eq_true rfl]
theorem zrZ{α β:Type}(a:α)(f:α→Option β):(some a).bind f=f a:=id rfl
theorem zrP(n:S_api_Factor):zbR n=some n:=id rfl
theorem zmP(n:Int):zaw n=some n:=id rfl
theorem zrY(a b c:List Int):zav a b c=some ⟨a,b,c⟩:=id rfl
theorem zkm:zch=some true:=by
 obtain⟨zs,hz⟩:∃ zs:List Int,zs=List.replicate 4096 0:=⟨_,rfl⟩;have hmk:zdD 8 4096 (0:Int)=some zs:=by rw[hz]; exact zfP (b:=8) (n:=4096) (by decide)
 unfold zch;rw[zrT,qae,cond_true,hmk,qae];simp only[zrY,zrZ];rw[zr2 hz,zrd hz];rw[show(⟨[4],[2],[1,1]⟩:S_api_Factor)=c4.D from rfl,show(⟨[12],[1],[1]⟩:S_api_Factor)=c12.D from rfl,show(⟨[],[],[4611686018427387903]⟩:S_api_Factor)=cM.D from rfl,zpA zie,zpA zod,zmA,zm6,zlR];clear hmk hz zs;have hs:∀ f:S_api_Factor,zaU zc8.D 0 f=(zb3 zc8.D f).bind fun r2=>some r2:=fun f=>by
  unfold zaU;rw[show((0:Int)== 0)=true from rfl,cond_true];cases zb3 zc8.D f<;>rfl
 simp only[zrZ,zrP,zmP,hs,zqo]
 delta zaD zbz
 rw[zlg];decide +kernel
end Go.Dc
