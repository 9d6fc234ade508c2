/-
 Plain laws: numbers and sets of bits. Conditions: none.
-/
import Derived.Test.YtnfgibomhkbcpaaFvJ6
set_option linter.unusedSimpArgs false
set_option linter.unusedVariables false
namespace Go.Dc
open Go Go.Mx Go.Lx
theorem zdK{n:Nat}(h:n<9223372036854775808):w64 (n:Int)=(n:Int):=wrap64 (by omega) (by omega)
theorem zmd{n:Int}(h1:-9223372036854775808≤n)(h2:n<9223372036854775808):w64 n=n:=wrap64 h1 h2
theorem zbf{n:Nat}(h:n+1<9223372036854775808):w64 ((n:Int)+1)=((n+1:Nat):Int):=by
 rw[zmd (by omega) (by omega)]; omega
theorem zrw(n:Nat):IntKind.u64.wrap (n:Int)=((n % 18446744073709551616:Nat):Int):=by
 simp only[IntKind.wrap,IntKind.bits,IntKind.signed]; simp
theorem zcY{n:Nat}(h:n<18446744073709551616):IntKind.u64.wrap (n:Int)=(n:Int):=by
 rw[zrw,qaY h]
theorem ztG{a b:Nat}(ha:a<18446744073709551616)(hb:b<18446744073709551616):zmY .u64 (a:Int) (b:Int)=((a &&& b:Nat):Int):=by
 have h:(BitVec.ofInt 64 (a:Int) &&& BitVec.ofInt 64 (b:Int)).toNat=a &&& b:=by
  simp only[qca,BitVec.toNat_and,BitVec.toNat_ofNat];rw[qaY ha,qaY hb]
 show IntKind.u64.wrap ((BitVec.ofInt 64 (a:Int) &&& BitVec.ofInt 64 (b:Int)).toNat:Int)=_;rw[h];exact zcY (qb4 Nat.and_le_left ha)
theorem ztP{a v:Nat}(hv:v<64):zl1 .u64 (a:Int) (v:Int)=some ((a >>> v:Nat):Int):=by
 unfold zl1;rw[if_pos (by omega)];congr 1
 have h1:min (v:Int).toNat IntKind.u64.bits=v:=by
  rw[show IntKind.u64.bits=64 from rfl,qaK]; exact qbH (by omega)
 rw[h1,qbp];have h2:((2:Int) ^ v)=((2 ^ v:Nat):Int):=by simp
 rw[h2,Int.fdiv_eq_ediv_of_nonneg _ (qbR _)];rfl
theorem ztH(a v:Nat):((a >>> v) &&& 1)=(a.testBit v).toNat:=by
 rw[Nat.and_one_is_mod,Nat.testBit_eq_decide_div_mod_eq,qbp];have h:=Nat.mod_two_eq_zero_or_one (a / 2 ^ v);rcases h with h | h<;>simp[h]
variable {α:Type}
theorem zpu{xs:List α}{i:Nat}:zbl xs (i:Int)=xs[i]?:=by
 unfold zbl;rw[if_pos (qbR i),qaK]
theorem zcF{xs:List α}{i:Nat}(h:i<xs.length):zbl xs (i:Int)=some (xs[i]'h):=by
 rw[zpu,qaf h]
theorem zl5{xs:List α}{i:Nat}{v:α}(h:i<xs.length):zgg xs (i:Int) v=some (xs.set i v):=by
 unfold zgg;rw[if_pos (by omega),qaK]
theorem zn3{b:Nat}{xs ys:List α}(h:(xs.length+ys.length)* b≤70368744177664):zgs b xs ys=some (xs ++ ys):=by
 unfold zgs;rw[if_pos (by simp only[zap]; omega)]
theorem zf6{b n:Nat}{z:α}(h:n * b≤70368744177664):zdY b (n:Int) z=some (List.replicate n z):=by
 have h2:(n:Int)* (b:Int)≤zap:=by
  rw[← qa4]; simp only[zap]; omega
 unfold zdY;rw[if_pos ⟨qbR n,h2⟩,qaK]
theorem zio{b:Nat}{xs:List α}(h:xs.length * b≤70368744177664):zc7 b xs=some xs:=by
 unfold zc7;rw[if_pos (by simp only[zap]; omega)]
theorem zst{i n:Nat}:decide ((i:Int)<(n:Int))=decide (i<n):=by simp
theorem zc2(n:Nat):((n:Int) - 0+2).toNat=n+2:=by omega
def iL(xs:List Nat):List Int:=xs.map (fun x:Nat=>(x:Int))
theorem zaM(xs:List Nat):(iL xs).length=xs.length:=by simp[iL]
theorem zqj{xs:List Nat}{i:Nat}(h:i<xs.length):(iL xs)[i]'(by rw[zaM]; exact h)=((xs[i]:Nat):Int):=by simp[iL]
theorem ze4{xs:List Nat}{i:Nat}(h:i<xs.length):zbl (iL xs) (i:Int)=some ((xs[i]:Nat):Int):=by
 rw[zcF (by rw[zaM]; exact h),zqj h]
def zan(xs:List Nat):Nat:=xs.foldr (· * ·) 1
theorem zjs{xs:List Nat}(h:∀ x∈xs,1≤x):1≤zan xs:=by
 induction xs with
 | nil=>exact qaj 1
 | cons x xs ih=>exact qbm (h x qao) (ih fun y hy=>h y (qal _ hy))
theorem znt{i n:Nat}(h:i<n):decide ((i:Int)<(n:Int))=true:=decide_eq_true (by omega)
theorem zoJ(n:Nat):decide ((n:Int)<(n:Int))=false:=decide_eq_false (by omega)
abbrev zgx:Nat:=4611686018427387903
def zd7:Nat→List Int→Bool
 | _,[]=>true
 | a,c :: cs=>decide (1≤c) && decide (c≤8) && decide (a * c.toNat≤4096) && zd7 (a * c.toNat) cs
theorem zhY:∀ {cs:List Int} {a:Nat},zd7 a cs=true→∃ ns:List Nat,cs=iL ns∧(∀ c∈ns,1≤c∧c≤8)∧(a≤4096→a * zan ns≤4096)
 | [],a,_=>⟨[],rfl,by simp,fun h=>by simpa [zan]using h⟩
 | c :: cs,a,h=>by
  simp only[zd7,qag,decide_eq_true_eq]at h;obtain⟨⟨⟨h1,h2⟩,h3⟩,h4⟩:=h;obtain⟨ns,e,g1,g2⟩:=zhY h4;refine⟨c.toNat :: ns,?_,?_,fun _=>?_⟩
  ·rw[e]; simp[iL]; omega
  ·intro d hd;rcases qaB.1 hd with rfl | hd
   ·omega
   exact g1 d hd
  have:=g2 h3;show a * (c.toNat * zan ns)≤4096;rw[← qbN]; exact this
theorem zg3:∀ {ns:List Nat} {a:Nat},(∀ c∈ns,1≤c∧c≤8)→a * zan ns≤4096→zd7 a (iL ns)=true
 | [],a,_,_=>rfl
 | n :: ns,a,h,hp=>by
  have h1:=h n qao;have hp':a * n * zan ns≤4096:=by rw[qbN]; exact hp
  have hpos:1≤zan ns:=zjs fun x hx=>(h x (qal _ hx)).1
  have hle:a * n≤4096:=qav (qbK _ hpos) hp';show(decide ((1:Int)≤(n:Int)) && decide ((n:Int)≤8) && decide (a * (n:Int).toNat≤4096) && zd7 (a * (n:Int).toNat) (iL ns))=true;rw[qaK,zg3 (fun c hc=>h c (qal _ hc)) hp',decide_eq_true (by omega),decide_eq_true (by omega),decide_eq_true hle];rfl
def zeV:List Int→Nat
 | []=>1
 | c :: cs=>c.toNat * zeV cs
theorem zek(ns:List Nat):zeV (iL ns)=zan ns:=by
 induction ns with
 | nil=>rfl
 | cons n ns ih=>show(n:Int).toNat * zeV (iL ns)=n * zan ns; rw[ih,qaK]
theorem znO(cs:List Int)(hl:cs.length≤12):∀(n i:Nat) (a:Nat),a≤4096→i≤cs.length→cs.length - i<n→zbX cs n ((a:Nat):Int) (i:Int)=some (bif zd7 a (cs.drop i)then(((a * zeV (cs.drop i):Nat):Int),true)else(0,false))
 | 0,_,_,_,_,h=>absurd h (qaV _)
 | n+1,i,a,ha,hi,hn=>by
  unfold zbX;rcases qaZ i cs.length with h3 | h3
  ·rw[znt h3,cond_true,zcF h3,qac,qaw h3];generalize cs[i]=c;simp only[zd7,zeV];by_cases h1:c<1
   ·rw[decide_eq_true h1,cond_true,qac,cond_true,decide_eq_false (show ¬ 1≤c by omega)];rfl
   rw[decide_eq_false h1,cond_false,decide_eq_true (show 1≤c by omega)];by_cases h2:8<c
   ·rw[decide_eq_true h2,cond_true,qac,cond_true,decide_eq_false (show ¬ c≤8 by omega)];rfl
   rw[decide_eq_false h2,cond_false,decide_eq_true (show c≤8 by omega)];obtain⟨m,rfl⟩:∃ m:Nat,c=(m:Int):=⟨c.toNat,by omega⟩;have hb:a * m≤4096 * 8:=qbm ha (by omega);rw[← qa4,zdK (by omega),qac,qaK];by_cases h4:a * m≤4096
   ·rw[show decide ((4096:Int)<((a * m:Nat):Int))=false from decide_eq_false (by omega),cond_false,zbf (by omega),znO cs hl n (i+1) (a * m) h4 h3 (by omega),decide_eq_true h4,qbN];rfl
   rw[show decide ((4096:Int)<((a * m:Nat):Int))=true from decide_eq_true (by omega),cond_true,decide_eq_false h4];rfl
  obtain rfl:i=cs.length:=by omega
  rw[zoJ,cond_false,qaW];simp[zd7,zeV]
def zbL(cs:List Int):Bool:=decide (cs.length≤12) && zd7 1 cs
theorem zp2(cs:List Int):zb6 cs=some (bif zbL cs then(((zeV cs:Nat):Int),0)else(0,20)):=by
 unfold zb6 zda zbL;by_cases hl:cs.length≤12
 ·rw[show decide ((12:Int)<(cs.length:Int))=false from decide_eq_false (by omega),cond_false,zc2];have:=znO cs hl (cs.length+2) 0 1 (by omega) (qaS _) (by omega);rw[show((1:Nat):Int)=1 from rfl,show((0:Nat):Int)=0 from rfl,qbb,qcf]at this;rw[this,decide_eq_true hl,qa6];cases zd7 1 cs<;>rfl
 rw[show decide ((12:Int)<(cs.length:Int))=true from decide_eq_true (by omega),cond_true,decide_eq_false hl];rfl
theorem zlU(cs:List Int)(hl:cs.length≤12):∀(n i:Nat) (a:Nat),a≤4096→zd7 a (cs.drop i)=true→i≤cs.length→cs.length - i<n→zcO cs n ((a:Nat):Int) (i:Int)=some (((a * zeV (cs.drop i):Nat):Int))
 | 0,_,_,_,_,_,h=>absurd h (qaV _)
 | n+1,i,a,ha,hc,hi,hn=>by
  unfold zcO;rcases qaZ i cs.length with h3 | h3
  ·rw[qaw h3]at hc ⊢;rw[znt h3,cond_true,zcF h3,qac];simp only[zd7,zeV,qag,decide_eq_true_eq]at hc ⊢;obtain⟨⟨⟨h1,h2⟩,h4⟩,h5⟩:=hc;obtain⟨m,hm⟩:∃ m:Nat,cs[i]=(m:Int):=⟨cs[i].toNat,by omega⟩;rw[hm,qaK]at h4 h5 ⊢;rw[← qa4,zdK (by omega),zbf (by omega),zlU cs hl n (i+1) (a * m) h4 h5 h3 (by omega),qbN]
  obtain rfl:i=cs.length:=by omega
  rw[zoJ,cond_false,qaW];simp[zeV]
theorem zmh{cs:List Int}(h:zbL cs=true):zdQ cs=some ((zeV cs:Nat):Int):=by
 unfold zbL at h;simp only[qag,decide_eq_true_eq]at h;unfold zdQ;rw[zc2];have:=zlU cs h.1 (cs.length+2) 0 1 (by omega) (by rw[qbb]; exact h.2) (qaS _) (by omega);rw[show((1:Nat):Int)=1 from rfl,show((0:Nat):Int)=0 from rfl,qbb,qcf]at this;rw[this];rfl
def zry:Int→List Int→Bool
 | _,[]=>true
 | l,v :: vs=>decide (l<v) && decide (v≤63) && zry v vs
def zqz:List Int→Bool
 | []=>true
 | w :: ws=>decide (0≤w) && decide (w≤4611686018427387903) && zqz ws
def zsN(x:S_api_Factor):Bool:=zbL x.zad && decide (x.vars.length=x.zad.length) && decide (x.w.length=zeV x.zad) && zry (-1) x.vars && zqz x.w
def zbO:List Nat→List Nat
 | []=>[]
 | _ :: cs=>zan cs :: zbO cs
theorem zmI(cs:List Nat):(zbO cs).length=cs.length:=by induction cs with | nil=>rfl | cons c cs ih=>simp[zbO,ih]
abbrev noT:S_factor_table×Int:=(⟨⟨[],[],[]⟩,[]⟩,30)
theorem zm5(x:S_api_Factor)(hl:x.vars.length≤12):∀(n i:Nat) (l:Int),i≤x.vars.length→x.vars.length - i<n→zbV x n l (i:Int)=some (bif zry l (x.vars.drop i)then .go ()else .ret noT)
 | 0,_,_,_,h=>absurd h (qaV _)
 | n+1,i,l,hi,hn=>by
  unfold zbV;rcases qaZ i x.vars.length with h3 | h3
  ·rw[znt h3,cond_true,zcF h3,qac,qaw h3];generalize x.vars[i]=v;simp only[zry];by_cases h1:v≤l
   ·rw[decide_eq_true h1,cond_true,qac,cond_true,decide_eq_false (show ¬ l<v by omega)];rfl
   rw[decide_eq_false h1,cond_false,qac,decide_eq_true (show l<v by omega)];by_cases h2:63<v
   ·rw[decide_eq_true h2,cond_true,decide_eq_false (show ¬ v≤63 by omega)];rfl
   rw[decide_eq_false h2,cond_false,decide_eq_true (show v≤63 by omega),zbf (by omega),zm5 x hl n (i+1) v h3 (by omega)];rfl
  obtain rfl:i=x.vars.length:=by omega
  rw[zoJ,cond_false,qaW];rfl
theorem znE(x:S_api_Factor)(hl:x.w.length≤4096):∀(n i:Nat),i≤x.w.length→x.w.length - i<n→zbT x n (i:Int)=some (bif zqz (x.w.drop i)then .go ()else .ret noT)
 | 0,_,_,h=>absurd h (qaV _)
 | n+1,i,hi,hn=>by
  unfold zbT;rcases qaZ i x.w.length with h3 | h3
  ·rw[znt h3,cond_true,zcF h3,qac,qaw h3];generalize x.w[i]=v;simp only[zqz];by_cases h1:v<0
   ·rw[decide_eq_true h1,cond_true,qac,cond_true,decide_eq_false (show ¬ 0≤v by omega)];rfl
   rw[decide_eq_false h1,cond_false,qac,decide_eq_true (show 0≤v by omega)];by_cases h2:4611686018427387903<v
   ·rw[decide_eq_true h2,cond_true,decide_eq_false (show ¬ v≤4611686018427387903 by omega)];rfl
   rw[decide_eq_false h2,cond_false,decide_eq_true (show v≤4611686018427387903 by omega),zbf (by omega),znE x hl n (i+1) h3 (by omega)];rfl
  obtain rfl:i=x.w.length:=by omega
  rw[zoJ,cond_false,qaW];rfl
theorem zi6{ns:List Nat}(h:∀ c∈ns,1≤c):∀ k,zan (ns.drop k)≤zan ns:=by
 induction ns with
 | nil=>intro k; simp
 | cons n ns ih=>
  intro k;cases k with
  | zero=>exact qaj _
  | succ k=>
   have h1:=ih (fun c hc=>h c (qal _ hc)) k;have h2:=h n qao;show zan (ns.drop k)≤n * zan ns;exact qav h1 (Nat.le_mul_of_pos_left _ h2)
theorem zlB(a b:List Nat):iL (a ++ b)=iL a ++ iL b:=by simp[iL]
theorem zgV(k:Nat):iL (List.replicate k 0)=List.replicate k 0:=by simp[iL]
theorem zlg(x:S_api_Factor){ns:List Nat}(hx:x.zad=iL ns)(hc:∀ c∈ns,1≤c)(hp:zan ns≤4096)(hl:ns.length≤12):∀(k n:Nat),k≤ns.length→k<n →
  zbu x n ((zan (ns.drop k):Nat):Int) ((k:Int) - 1) (iL (List.replicate k 0 ++ zbO (ns.drop k)))=some (iL (zbO ns))
 | k,0,_,h=>absurd h (qaV _)
 | 0,n+1,_,_=>by
  unfold zbu;rw[show decide ((0:Int)≤((0:Nat):Int) - 1)=false from rfl,cond_false];rfl
 | k+1,n+1,hk,hn=>by
  have ih:=zlg x hx hc hp hl k n (by omega) (by omega);have hk':k<ns.length:=hk;unfold zbu;have e:(((k+1:Nat):Int) - 1)=(k:Int):=by omega
  have hlen:k<(iL (List.replicate (k+1) 0 ++ zbO (ns.drop (k+1)))).length:=by rw[zaM]; simp; omega
  rw[e,show decide ((0:Int)≤(k:Int))=true from decide_eq_true (by omega),cond_true,zcF hlen,qac,zl5 hlen,qac,hx,ze4 hk',qac];have hd:ns.drop k=ns[k]:: ns.drop (k+1):=qaw hk';have h1:(iL (List.replicate (k+1) 0 ++ zbO (ns.drop (k+1)))).set k ((zan (ns.drop (k+1)):Nat):Int)=iL (List.replicate k 0 ++ zbO (ns.drop k)):=by
   rw[hd,zlB,zlB,zgV,zgV,List.replicate_succ',qbi,List.set_append_right _ _ (by simp)];simp[zbO,iL]
  have h2:((zan (ns.drop (k+1)):Nat):Int)* ((ns[k]:Nat):Int)=((zan (ns.drop k):Nat):Int):=by
   rw[hd,← qa4,qbE]; rfl
  have h3:=zi6 hc k;rw[h1,h2,zdK (by omega),zmd (by omega) (by omega)];exact ih
def znW(xs:List Int):List Nat:=xs.map Int.toNat
theorem zfz(ns:List Nat):znW (iL ns)=ns:=by
 induction ns with
 | nil=>rfl
 | cons n ns ih=>show(n:Int).toNat :: znW (iL ns)=n :: ns; rw[ih,qaK]
theorem zhr{cs:List Int}(h:zbL cs=true):∃ ns:List Nat,cs=iL ns∧(∀ c∈ns,1≤c∧c≤8)∧zan ns≤4096∧ns.length≤12:=by
 unfold zbL at h;simp only[qag,decide_eq_true_eq]at h;obtain⟨ns,rfl,h1,h2⟩:=zhY h.2;exact⟨ns,rfl,h1,by have:=h2 (by omega); omega,by have:=h.1; rw[zaM]at this; exact this⟩
theorem zsz(x:S_api_Factor):zav x=some (bif zsN x then(⟨x,iL (zbO (znW x.zad))⟩,0)else noT):=by
 unfold zav zsN;rw[zp2,qac];cases hc:zbL x.zad with
 | false=>
  rw[cond_false];rfl
 | true=>
  obtain⟨ns,hx,h1,h2,h3⟩:=zhr hc;rw[cond_true,show(((((zeV x.zad:Nat):Int),(0:Int)).2 == 0))=true from rfl,cond_true,qa6];by_cases hv:x.vars.length=x.zad.length
  ·rw[show(((x.vars.length:Nat):Int)==((x.zad.length:Nat):Int))=true by rw[hv]; exact beq_self_eq_true _,cond_true,qac,decide_eq_true hv,qa6];by_cases hw:x.w.length=zeV x.zad
   ·have hw':x.w.length≤4096:=by rw[hw,hx,zek]; exact h2
    have hl:x.vars.length≤12:=by rw[hv,hx,zaM]; exact h3
    rw[show(!(((x.w.length:Nat):Int)==((zeV x.zad:Nat):Int)))=false by rw[hw,beq_self_eq_true]; rfl,cond_false,decide_eq_true hw,qa6,zc2,zc2];have e1:=zm5 x hl (x.vars.length+2) 0 (-1) (qaS _) (by omega);have e2:=znE x hw' (x.w.length+2) 0 (qaS _) (by omega);rw[show((0:Nat):Int)=0 from rfl,qbb]at e1 e2;rw[e1,qac];cases zry (-1) x.vars with
    | false=>rfl
    | true=>
     rw[cond_true,qa6];simp only;rw[e2,qac];cases zqz x.w with
     | false=>rfl
     | true=>
      rw[cond_true];simp only;have hlen:x.zad.length=ns.length:=by rw[hx,zaM]
      have e3:=zlg x hx (fun c hc=>(h1 c hc).1) h2 h3 ns.length (ns.length+1+1) (qaj _) (by omega);rw[qaW]at e3;rw[zf6 (by omega),qac,qaK,hlen,zmd (by omega) (by omega),show((ns.length:Int) - 1 - 0+2).toNat=ns.length+1 by omega];have e4:=zlg x hx (fun c hc=>(h1 c hc).1) h2 h3 ns.length (ns.length+1) (qaj _) (by omega);rw[qaW]at e4;rw[show iL (List.replicate ns.length 0 ++ zbO [])=List.replicate ns.length 0 by simp[zbO,iL],show((zan []:Nat):Int)=1 from rfl]at e4;rw[e4,qac,cond_true,hx,zfz]
   rw[show(!(((x.w.length:Nat):Int)==((zeV x.zad:Nat):Int)))=true by rw[qbx]; exact beq_false_of_ne (by omega),cond_true,decide_eq_false hw];rfl
  rw[show(((x.vars.length:Nat):Int)==((x.zad.length:Nat):Int))=false from beq_false_of_ne (by omega),cond_false,qac,cond_true,decide_eq_false hv];rfl
structure Fc where
 vs:List Nat
 cs:List Nat
 ws:List Nat
def Fc.D(f:Fc):S_api_Factor:=⟨iL f.vs,iL f.cs,iL f.ws⟩
structure FcOk (f:Fc):Prop where
 len:f.vs.length=f.cs.length
 le:f.cs.length≤12
 zmK:∀ c∈f.cs,1≤c∧c≤8
 prod:zan f.cs≤4096
 size:f.ws.length=zan f.cs
 inc:f.vs.Pairwise (· < ·)
 var:∀ v∈f.vs,v<64
 num:∀ w∈f.ws,w≤zgx
theorem zor:∀ {ns:List Nat} {l:Int},ns.Pairwise (· < ·)→(∀ v∈ns,v<64∧l<(v:Int))→zry l (iL ns)=true
 | [],_,_,_=>rfl
 | n :: ns,l,h1,h2=>by
  have h3:=h2 n qao;obtain⟨h4,h5⟩:=qaQ.1 h1;show(decide (l<(n:Int)) && decide ((n:Int)≤63) && zry (n:Int) (iL ns))=true;rw[decide_eq_true h3.2,decide_eq_true (by omega),zor h5 fun v hv=>⟨(h2 v (qal _ hv)).1,by have:=h4 v hv; omega⟩];rfl
theorem zod:∀ {ns:List Nat},(∀ w∈ns,w≤zgx)→zqz (iL ns)=true
 | [],_=>rfl
 | n :: ns,h=>by
  have h1:n≤4611686018427387903:=h n qao;show(decide (0≤(n:Int)) && decide ((n:Int)≤4611686018427387903) && zqz (iL ns))=true;rw[decide_eq_true (by omega),decide_eq_true (by omega),zod fun w hw=>h w (qal _ hw)];rfl
theorem zru{f:Fc}(h:FcOk f):zsN f.D=true:=by
 unfold zsN Fc.D zbL;simp only[zaM];rw[decide_eq_true h.le,zg3 h.zmK (by have:=h.prod; omega),decide_eq_true h.len,decide_eq_true (by rw[zek]; exact h.size),zor h.inc fun v hv=>⟨h.var v hv,by omega⟩,zod h.num];rfl
def Fc.T(f:Fc):S_factor_table:=⟨f.D,iL (zbO f.cs)⟩
theorem ziE{f:Fc}(h:FcOk f):zav f.D=some (f.T,0):=by
 rw[zsz,zru h,cond_true,show f.D.zad=iL f.cs from rfl,zfz];rfl
def zky:List Int→Int→Option Nat
 | [],_=>none
 | x :: xs,v=>bif x == v then some 0 else(zky xs v).map (· + 1)
def ixZ:Option Nat→Int
 | none=>-1
 | some k=>(k:Int)
theorem zjP:∀ {xs:List Int} {v:Int} {k:Nat},zky xs v=some k→∃ h:k<xs.length,xs[k]=v
 | x :: xs,v,k,h=>by
  unfold zky at h;cases hb:(x == v)with
  | true=>
   rw[hb,cond_true]at h;cases h;exact⟨by simp,by simpa using hb⟩
  | false=>
   rw[hb,cond_false]at h;cases hp:zky xs v with
   | none=>rw[hp]at h; cases h
   | some j=>
    rw[hp]at h;cases h;obtain⟨g1,g2⟩:=zjP hp;exact⟨by simp; omega,by simpa using g2⟩
theorem zkp:∀ {xs:List Int} {v:Int},zky xs v=none→v ∉ xs
 | [],v,_=>by simp
 | x :: xs,v,h=>by
  unfold zky at h;cases hb:(x == v)with
  | true=>rw[hb,cond_true]at h; cases h
  | false=>
   rw[hb,cond_false]at h;have h1:zky xs v=none:=by
    cases hp:zky xs v with
    | none=>rfl
    | some j=>rw[hp]at h; cases h
   have h2:x≠v:=by simpa using hb
   intro hm;rcases qaB.1 hm with rfl | hm
   ·exact h2 rfl
   exact zkp h1 hm
theorem zoc(xs:List Int)(v:Int)(hl:xs.length<4611686018427387904):∀(n i:Nat),i≤xs.length→xs.length - i<n→zaG xs v n (i:Int)=some (match zky (xs.drop i) v with | none=>.go ()| some k=>.ret ((i+k:Nat):Int))
 | 0,_,_,h=>absurd h (qaV _)
 | n+1,i,hi,hn=>by
  unfold zaG;rcases qaZ i xs.length with h3 | h3
  ·rw[znt h3,cond_true,zcF h3,qac,qaw h3];generalize xs[i]=x;unfold zky;by_cases h:v=x
   ·subst h;rw[beq_self_eq_true,cond_true,cond_true];rfl
   rw[show(v == x)=false from beq_false_of_ne h,show(x == v)=false from beq_false_of_ne (fun e=>h e.symm),cond_false,cond_false,zbf (by omega),zoc xs v hl n (i+1) h3 (by omega)];cases zky (xs.drop (i+1)) v with
   | none=>rfl
   | some k=>
    simp only[qaG];rw[show i+1+k=i+(k+1) by omega]
  obtain rfl:i=xs.length:=by omega
  rw[zoJ,cond_false,qaW];rfl
theorem zqK{xs:List Int}(hl:xs.length<4611686018427387904)(v:Int):zaY xs v=some (ixZ (zky xs v)):=by
 unfold zaY;have h:=zoc xs v hl (xs.length+2) 0 (qaS _) (by omega);rw[show((0:Nat):Int)=0 from rfl,qbb]at h;rw[zc2,h,qac];cases zky xs v with
 | none=>rfl
 | some k=>simp only[qaT]; rfl
theorem FcOk.vl{f:Fc}(h:FcOk f):(iL f.vs).length<4611686018427387904:=by rw[zaM,h.len]; have:=h.le; omega
theorem zjJ{f:Fc}(h:FcOk f)(v:Int):zaj f.T v=some (ixZ (zky (iL f.vs) v)):=by
 unfold zaj;rw[show f.T.factor.vars=iL f.vs from rfl,zqK h.vl,qac]
theorem zns(o:Option Nat):decide ((0:Int)≤ixZ o)=o.isSome:=by
 cases o with
 | none=>rfl
 | some k=>exact decide_eq_true (qbR k)
theorem zqD(o:Option Nat):decide (ixZ o<(0:Int))=!o.isSome:=by
 cases o with
 | none=>rfl
 | some k=>exact decide_eq_false (by show ¬ (k:Int)<0; omega)
def pos:List Nat→Nat→Option Nat
 | [],_=>none
 | x :: xs,v=>bif x == v then some 0 else(pos xs v).map (· + 1)
theorem zdx:∀(xs:List Nat) (v:Nat),zky (iL xs) (v:Int)=pos xs v
 | [],v=>rfl
 | x :: xs,v=>by
  show(bif ((x:Int)==(v:Int))then some 0 else(zky (iL xs) (v:Int)).map (· + 1))=pos (x :: xs) v;rw[zdx xs v];show _=(bif x == v then some 0 else(pos xs v).map (· + 1));cases hb:(x == v)with
  | true=>
   have:x=v:=by simpa using hb
   subst this;rw[beq_self_eq_true]
  | false=>
   have h1:x≠v:=by simpa using hb
   have h2:((x:Int)==(v:Int))=false:=beq_false_of_ne (by omega);rw[h2]
theorem zeR{xs:List Nat}{v k:Nat}(h:pos xs v=some k):∃ hk:k<xs.length,xs[k]=v:=by
 rw[← zdx]at h;obtain⟨h1,h2⟩:=zjP h;rw[zaM]at h1;refine⟨h1,?_⟩;rw[zqj h1]at h2;omega
theorem zjc{xs:List Nat}{v:Nat}(h:pos xs v=none):v ∉ xs:=by
 rw[← zdx]at h;have:=zkp h;intro hm;exact this (qaH.2 ⟨v,hm,rfl⟩)
theorem zra{xs:List Nat}{v:Nat}(h:v∈xs):∃ k,pos xs v=some k:=by
 cases hp:pos xs v with
 | none=>exact absurd h (zjc hp)
 | some k=>exact⟨k,rfl⟩
def zdv(f g:Fc):Nat→List Nat→Bool
 | _,[]=>true
 | i,v :: vs=>(match pos g.vs v with | none=>true | some k=>g.cs.getD k 0 == f.cs.getD i 0) && zdv f g (i+1) vs
theorem zeE{xs:List Nat}{i:Nat}(h:i<xs.length):zbl (iL xs) (i:Int)=some ((xs.getD i 0:Nat):Int):=by
 rw[ze4 h]; simp[List.getD,h]
theorem ziK(a b:Nat):((a:Int)==(b:Int))=(a == b):=by
 rw[Bool.eq_iff_iff,beq_iff_eq,beq_iff_eq];exact Int.ofNat_inj
theorem zoA{f g:Fc}(hf:FcOk f)(hg:FcOk g):∀(n i:Nat),i≤f.vs.length→f.vs.length - i<n→zbA f.T g.T n (i:Int)=some (bif zdv f g i (f.vs.drop i)then .go ()else .ret false)
 | 0,_,_,h=>absurd h (qaV _)
 | n+1,i,hi,hn=>by
  have hle:=hf.le;have hlen:=hf.len;unfold zbA;rw[show f.T.factor.vars=iL f.vs from rfl,show f.T.factor.zad=iL f.cs from rfl,show g.T.factor.zad=iL g.cs from rfl,zaM];rcases qaZ i f.vs.length with h3 | h3
  ·rw[znt h3,cond_true,ze4 h3,qac,zjJ hg,zdx,qac,zns,qaw h3];simp only[zdv];have ih:=zoA hf hg n (i+1) h3 (by omega);cases hp:pos g.vs f.vs[i]with
   | none=>
    rw[Option.isSome_none,cond_false,qac,cond_false,zbf (by omega),ih,qa6]
   | some k=>
    obtain⟨hk,_⟩:=zeR hp;rw[qb2,cond_true,show ixZ (some k)=(k:Int)from rfl,zeE (by rw[← hg.len]; exact hk),qac,zeE (by omega),qac,qac,ziK];cases hb:(g.cs.getD k 0 == f.cs.getD i 0)with
    | true=>simp only[hb]; rw[qaP,cond_false,zbf (by omega),ih,qa6]
    | false=>simp only[hb]; rw[qbh,cond_true,Bool.false_and]; rfl
  obtain rfl:i=f.vs.length:=by omega
  rw[zoJ,cond_false,qaW];rfl
theorem zov{f g:Fc}(hf:FcOk f)(hg:FcOk g):zbW f.T g.T=some (zdv f g 0 f.vs):=by
 unfold zbW;have h:=zoA hf hg (f.vs.length+2) 0 (qaS _) (by omega);rw[show((0:Nat):Int)=0 from rfl,qbb]at h;rw[show f.T.factor.vars=iL f.vs from rfl,zaM,zc2,h,qac];cases zdv f g 0 f.vs<;>rfl
def hasB(vs:List Nat):List Nat→Bool
 | []=>true
 | v :: us=>(pos vs v).isSome && hasB vs us
theorem zp3{f g:Fc}(hf:FcOk f)(hg:FcOk g):∀(n i:Nat),i≤g.vs.length→g.vs.length - i<n→zbd (g.T,0) (f.T,0) n (i:Int)=some (bif hasB f.vs (g.vs.drop i)then .go ()else .ret (⟨[],[],[]⟩,2))
 | 0,_,_,h=>absurd h (qaV _)
 | n+1,i,hi,hn=>by
  have hle:=hg.le;have hlen:=hg.len;unfold zbd;simp only;rw[show g.T.factor.vars=iL g.vs from rfl,zaM];rcases qaZ i g.vs.length with h3 | h3
  ·rw[znt h3,cond_true,ze4 h3,qac,zjJ hf,zdx,qac,zqD,qaw h3];simp only[hasB];cases(pos f.vs g.vs[i]).isSome with
   | false=>rw[qbh,cond_true,Bool.false_and]; rfl
   | true=>rw[qaP,cond_false,zbf (by omega),zp3 hf hg n (i+1) h3 (by omega),qa6]
  obtain rfl:i=g.vs.length:=by omega
  rw[zoJ,cond_false,qaW];rfl
def dig:List Nat→Nat→List Nat
 | [],_=>[]
 | _ :: cs,i=>i / zan cs :: dig cs (i % zan cs)
theorem ziy:∀(cs:List Nat) (i:Nat),(dig cs i).length=cs.length
 | [],_=>rfl
 | _ :: cs,i=>by simp[dig,ziy cs]
def dot:List Nat→List Nat→Nat
 | x :: xs,s :: ss=>x * s+dot xs ss
 | _,_=>0
theorem zij:∀ {xs ss:List Nat} (ys ts:List Nat),xs.length=ss.length→dot (xs ++ ys) (ss ++ ts)=dot xs ss+dot ys ts
 | [],[],ys,ts,_=>by simp[dot]
 | x :: xs,s :: ss,ys,ts,h=>by
  simp only[qa7,dot];rw[zij ys ts (by simpa using h)]; omega
 | [],_ :: _,_,_,h=>by simp at h
 | _ :: _,[],_,_,h=>by simp at h
theorem zlj(x s:Nat):dot [x] [s]=x * s:=by simp[dot]
def zcA:List Nat→List Nat→Prop
 | [],[]=>True
 | c :: cs,x :: xs=>x<c∧c≤8∧zcA cs xs
 | _,_=>False
theorem zcA.len:∀ {cs xs:List Nat},zcA cs xs→xs.length=cs.length
 | [],[],_=>rfl
 | c :: cs,x :: xs,h=>by simp[h.2.2.len]
theorem zcA.snoc:∀ {cs xs:List Nat} {c x:Nat},zcA (cs ++ [c]) (xs ++ [x])→xs.length=cs.length→zcA cs xs∧x<c∧c≤8
 | [],[],c,x,h,_=>⟨qci,h.1,h.2.1⟩
 | c :: cs,x :: xs,_,_,h,hl=>by
  obtain⟨h1,h2,h3⟩:=h;obtain⟨g1,g2⟩:=h3.snoc (by simpa using hl);exact⟨⟨h1,h2,g1⟩,g2⟩
theorem zeP{cs:List Nat}(h:∀ c∈cs,1≤c∧c≤8):0<zan cs:=zjs fun c hc=>(h c hc).1
theorem zeC:∀ {cs:List Nat} {i:Nat},(∀ c∈cs,1≤c∧c≤8)→i<zan cs→zcA cs (dig cs i)
 | [],_,_,_=>trivial
 | c :: cs,i,h,hi=>by
  have hc:=h c qao;have hp:=zeP fun d hd=>h d (qal c hd)
  refine⟨?_,hc.2,zeC (fun d hd=>h d (qal c hd)) (qbZ _ hp)⟩;have h1:i<c * zan cs:=hi;exact Nat.div_lt_of_lt_mul (by rw[qbE]; exact h1)
theorem zqr:∀ {cs xs ss:List Nat},zcA cs xs→(∀ s∈ss,s≤4096)→dot xs ss≤cs.length * 32768
 | [],[],_,_,_=>by simp[dot]
 | c :: cs,x :: xs,[],_,_=>by simp[dot]
 | c :: cs,x :: xs,s :: ss,h,hs=>by
  have h1:=zqr h.2.2 fun t ht=>hs t (qal _ ht)
  have h2:=hs s qao;have h3:x * s≤8 * 4096:=qbm (by have:=h.1; have:=h.2.1; omega) h2;simp only[dot,qaR];omega
def nxt:List Nat→List Nat→Option (List Nat)
 | c :: cs,v :: vs=>match nxt cs vs with
  | some vs'=>some (v :: vs')
  | none=>if v+1<c then some ((v+1):: List.replicate vs.length 0)else none
 | _,_=>none
theorem zhg:∀ {cs vs:List Nat} {c v:Nat},vs.length=cs.length→v+1<c→nxt (cs ++ [c]) (vs ++ [v])=some (vs ++ [v+1])
 | [],[],c,v,_,h=>by simp[nxt,h]
 | d :: cs,u :: vs,c,v,hl,h=>by
  simp only[qa7,nxt,zhg (show vs.length=cs.length by simpa using hl) h]
theorem zgi:∀ {cs vs:List Nat} {c v:Nat},vs.length=cs.length→¬ v+1<c→nxt (cs ++ [c]) (vs ++ [v])=(nxt cs vs).map (· ++ [0])
 | [],[],c,v,_,h=>by simp[nxt,h]
 | d :: cs,u :: vs,c,v,hl,h=>by
  simp only[qa7,nxt,zgi (show vs.length=cs.length by simpa using hl) h];cases hn:nxt cs vs with
  | some vs'=>rfl
  | none=>
   simp only[qce];by_cases hu:u+1<d
   ·rw[if_pos hu,if_pos hu];simp[List.replicate_succ']
   rw[if_neg hu,if_neg hu]; rfl
theorem ziw:∀(cs:List Nat),dig cs 0=List.replicate cs.length 0
 | []=>rfl
 | c :: cs=>by simp[dig,ziw cs,qaI]
theorem znA:∀ {cs:List Nat} {i:Nat},(∀ c∈cs,1≤c∧c≤8)→i<zan cs→nxt cs (dig cs i)=if i+1<zan cs then some (dig cs (i+1))else none
 | [],i,_,hi=>by
  have:i=0:=by simpa [zan]using hi
  subst this;simp[nxt,zan]
 | c :: cs,i,h,hi=>by
  have hp:=zeP fun d hd=>h d (qal c hd)
  have hm:=qbZ i hp;have ih:=znA (fun d hd=>h d (qal c hd)) hm;have hi':i<c * zan cs:=hi;simp only[dig,nxt,ih];have hdm:=qcg i (zan cs);generalize hq:i / zan cs=q at *;generalize hr:i % zan cs=r at *;have hprod:zan (c :: cs)=c * zan cs:=rfl;by_cases h1:r+1<zan cs
  ·rw[if_pos h1];have e1:(i+1) / zan cs=q:=by
    rw[← hdm,qa0,Nat.mul_add_div hp,Nat.div_eq_of_lt h1,qbj]
   have e2:(i+1) % zan cs=r+1:=by
    rw[← hdm,qa0,Nat.mul_add_mod,qaY h1]
   have hqc:q<c:=by rw[← hq]; exact Nat.div_lt_of_lt_mul (by rw[qbE]; exact hi')
   have h2:i+1<zan (c :: cs):=by
    rw[hprod];have:(q+1)* zan cs≤c * zan cs:=qau _ hqc;rw[qaN,qcf,qbE q]at this;omega
   rw[if_pos h2,e1,e2]
  rw[if_neg h1];have hr1:r+1=zan cs:=by omega
  have hi1:i+1=zan cs * (q+1):=by rw[Nat.mul_add,Nat.mul_one]; omega
  simp only;have h4:(q+1<c)↔(i+1<zan (c :: cs)):=by
   rw[hprod,hi1,qbE c];exact(Nat.mul_lt_mul_left hp).symm
  by_cases h5:q+1<c
  ·rw[if_pos h5,if_pos (h4.1 h5),hi1,Nat.mul_div_cancel_left _ hp,Nat.mul_mod_right,ziw,ziy]
  rw[if_neg h5,if_neg (fun h=>h5 (h4.2 h))]
theorem zcj{xs ys:List Nat}{x:Nat}{k:Nat}(h:xs.length=k):zbl (iL (xs ++ x :: ys)) (k:Int)=some (x:Int):=by
 subst h;rw[ze4 (by simp)];simp
theorem zc8{xs ys:List Nat}{x y:Nat}{k:Nat}(h:xs.length=k):zgg (iL (xs ++ x :: ys)) (k:Int) (y:Int)=some (iL (xs ++ y :: ys)):=by
 subst h;rw[zl5 (by rw[zaM]; simp)];simp[iL]
theorem zkZ{xs:List Nat}{k:Nat}(h:xs.length=k+1):∃ ys y,xs=ys ++ [y]∧ys.length=k:=by
 have hne:xs≠[]:=by rintro rfl; simp at h
 exact⟨xs.dropLast,xs.getLast hne,(List.dropLast_concat_getLast hne).symm,by simp[h]⟩
theorem zl4:∀(k:Nat) (xs cx sx cy sy zs:List Nat) (e:Nat),xs.length=k→cx.length=k→sx.length=k→zcA cx xs→(∀ s∈sx,s≤4096)→k≤12→e≤1000000 →
  ∃ r,zh6 (iL (cx ++ cy)) (iL (sx ++ sy)) k (iL (xs ++ zs)) ((dot xs sx+e:Nat):Int)=some r∧match nxt cx xs with
   | none=>r.2.2 = -1
   | some xs'=>∃(j:Nat) (v st:Int),r.2.2=(j:Int)∧zbl r.1 (j:Int)=some v∧zgg r.1 (j:Int) (w64 (v+1))=some (iL (xs' ++ zs))∧zbl (iL (sx ++ sy)) (j:Int)=some st∧w64 (r.2.1+st)=((dot xs' sx+e:Nat):Int)
 | 0,xs,cx,sx,cy,sy,zs,e,hx,hc,hs,_,_,_,_=>by
  obtain rfl:xs=[]:=qaz.1 hx;obtain rfl:cx=[]:=qaz.1 hc;exact⟨_,rfl,rfl⟩
 | k+1,xs,cx,sx,cy,sy,zs,e,hx,hc,hs,hb,hsm,hk,he=>by
  obtain⟨xs,x,rfl,lx⟩:=zkZ hx;obtain⟨cx,c,rfl,lc⟩:=zkZ hc;obtain⟨sx,s,rfl,ls⟩:=zkZ hs;obtain⟨hb1,hb2,hb3⟩:=hb.snoc (lx.trans lc.symm);have hd:=zqr hb1 fun t ht=>hsm t (qcb _ ht)
  have hss:s≤4096:=hsm s (by simp);have hxs:x * s≤8 * 4096:=qbm (by omega) hss;have hlen:cx.length * 32768≤12 * 32768:=qau _ (by omega);simp only[qbi,qa5];unfold zh6;rw[zcj lx,qac,zcj lc,qac,zmd (by omega) (by omega)];rw[zij [x] [s] (lx.trans ls.symm),zlj];by_cases h1:x+1<c
  ·rw[show((x:Int)==(c:Int) - 1)=false from beq_false_of_ne (by omega),cond_false,zhg (lx.trans lc.symm) h1];refine⟨_,rfl,k,(x:Int),(s:Int),rfl,zcj lx,?_,zcj ls,?_⟩
   ·rw[zbf (by omega),zc8 lx]; simp
   rw[zij [x+1] [s] (lx.trans ls.symm),zlj,← qb5,zdK (by omega),qaN];congr 1; omega
  rw[show((x:Int)==(c:Int) - 1)=true by rw[show(x:Int)=(c:Int) - 1 by omega]; exact beq_self_eq_true _,cond_true,zcj ls,qac,show(0:Int)=((0:Nat):Int)from rfl,zc8 lx,qac,← qa4,
   zdK (by omega),show(((dot xs sx+x * s+e:Nat):Int) - ((x * s:Nat):Int))=((dot xs sx+e:Nat):Int) by omega,zdK (by omega),zgi (lx.trans lc.symm) h1]
  obtain⟨r,h2,h3⟩:=zl4 k xs cx sx (c :: cy) (s :: sy) (0 :: zs) e lx lc ls hb1 (fun t ht=>hsm t (qcb _ ht)) (by omega) he;refine⟨r,h2,?_⟩;cases hn:nxt cx xs with
  | none=>rw[hn]at h3; exact h3
  | some xs'=>
   rw[hn]at h3;obtain⟨j,v,st,g1,g2,g3,g4,g5⟩:=h3;have hl':xs'.length=sx.length:=by
    have:∀ {cs vs ws:List Nat},nxt cs vs=some ws→vs.length=cs.length→ws.length=vs.length:=by
     intro cs;induction cs with
     | nil=>intro vs ws h _; simp[nxt]at h
     | cons d cs ih=>
      intro vs ws h hl;cases vs with
      | nil=>simp[nxt]at h
      | cons u vs=>
       simp only[nxt]at h;cases hq:nxt cs vs with
       | some vs'=>
        rw[hq]at h;cases h;simp[ih hq (by simpa using hl)]
       | none=>
        rw[hq]at h;simp only at h;split at h
        ·cases h; simp
        cases h
    rw[this hn (lx.trans lc.symm),lx,ls]
   refine⟨j,v,st,g1,g2,by rw[g3]; simp,g4,?_⟩;rw[g5,zij [0] [s] hl',zlj,qbT,qbj]
def zf9(cs ss:List Nat)(i m:Nat):List (Int×Int×List Int):=(List.range' i m).map fun j:Nat=>((j:Int),((dot (dig cs j) ss:Nat):Int),iL (dig cs j))
theorem zsv{cs ss:List Nat}(hc:∀ c∈cs,1≤c∧c≤8)(hl:cs.length≤12)(hp:zan cs≤4096)(hs:ss.length=cs.length)(hsm:∀ s∈ss,s≤4096):∀(m i n:Nat),i+(m+1)=zan cs→m<n →
  zrI (iL cs) (iL ss) n (iL (dig cs i)) (i:Int) ((dot (dig cs i) ss:Nat):Int)=some (zf9 cs ss i (m+1))
 | m,i,0,_,h=>absurd h (qaV _)
 | m,i,n+1,hi,hn=>by
  have hb:=zeC hc (show i<zan cs by omega);obtain⟨r,h1,h2⟩:=zl4 cs.length (dig cs i) cs ss [] [] [] 0 (ziy _ _) rfl hs hb hsm hl (by omega);simp only[qa9,qbj]at h1 h2;unfold zrI;rw[zaM,h1,qac];rw[znA hc (show i<zan cs by omega)]at h2;cases m with
  | zero=>
   rw[if_neg (by omega)]at h2;simp only at h2;rw[h2];rfl
  | succ m=>
   rw[if_pos (by omega)]at h2;simp only at h2;obtain⟨j,v,st,g1,g2,g3,g4,g5⟩:=h2;rw[g1,show decide ((j:Int)<0)=false from decide_eq_false (by omega),cond_false,g2,qac,g3,qac,g4,qac,g5,zbf (by omega),zsv hc hl hp hs hsm m (i+1) n (by omega) (by omega)];rfl
theorem zoF(cs:List Nat):∀ a:Nat,(iL cs).foldl (· * ·) (a:Int)=((a * zan cs:Nat):Int):=by
 induction cs with
 | nil=>intro a; simp[iL,zan]
 | cons c cs ih=>
  intro a;show(iL cs).foldl (· * ·) ((a:Int)* (c:Int))=_;rw[← qa4,ih,qbN];rfl
theorem zse{cs ss:List Nat}(hc:∀ c∈cs,1≤c∧c≤8)(hl:cs.length≤12)(hp:zan cs≤4096)(hs:ss.length=cs.length)(hsm:∀ s∈ss,s≤4096):zo3 (iL cs) (iL ss)=some (zf9 cs ss 0 (zan cs)):=by
 have hpos:=zeP hc;unfold zo3 zlT;rw[if_pos (by rw[zaM]; omega),qac,zaM,zf6 (by omega),qac];have h:=zoF cs 1;rw[show((1:Nat):Int)=1 from rfl]at h;rw[h,qcf,qaK];obtain⟨m,hm⟩:∃ m,zan cs=m+1:=⟨zan cs - 1,by omega⟩;have e:=zsv hc hl hp hs hsm m 0 (m+1) (by omega) (by omega);have hz:∀(n:Nat) (ss:List Nat),dot (List.replicate n 0) ss=0:=by
  intro n;induction n with
  | zero=>intro ss; simp[dot]
  | succ n ih=>
   intro ss;cases ss with
   | nil=>simp[qaI,dot]
   | cons s ss=>simp[qaI,dot,ih]
 rw[ziw,hz,zgV]at e;rw[hm];exact e
theorem zpa{cs:List Nat}(hc:∀ c∈cs,1≤c)(hp:zan cs≤4096):∀ s∈zbO cs,s≤4096:=by
 induction cs with
 | nil=>intro s hs; cases hs
 | cons c cs ih=>
  have h1:=hc c qao;have h2:zan cs≤4096:=qav (Nat.le_mul_of_pos_left (zan cs) h1) hp;intro s hs;rcases qaB.1 hs with rfl | hs
  ·exact h2
  exact ih (fun d hd=>hc d (qal _ hd)) h2 s hs
theorem zcA.drop:∀ {cs xs:List Nat} (k:Nat),zcA cs xs→zcA (cs.drop k) (xs.drop k)
 | cs,xs,0,h=>h
 | [],[],k+1,_=>trivial
 | c :: cs,x :: xs,k+1,h=>h.2.2.drop k
theorem zp6:∀ {cs ds:List Nat},zcA cs ds→dot ds (zbO cs)<zan cs
 | [],[],_=>by simp[dot,zan]
 | c :: cs,d :: ds,h=>by
  have h1:=zp6 h.2.2;show d * zan cs+dot ds (zbO cs)<c * zan cs;have h2:(d+1)* zan cs≤c * zan cs:=qau _ h.1;rw[qaN,qcf]at h2;omega
theorem zoz:∀ {cs:List Nat} {i:Nat},(∀ c∈cs,1≤c∧c≤8)→i<zan cs→dot (dig cs i) (zbO cs)=i
 | [],i,_,h=>by
  have:i=0:=by simpa [zan]using h
  subst this; rfl
 | c :: cs,i,hc,h=>by
  have hp:=zeP fun d hd=>hc d (qal c hd)
  show i / zan cs * zan cs+dot (dig cs (i % zan cs)) (zbO cs)=i;rw[zoz (fun d hd=>hc d (qal c hd)) (qbZ _ hp),qbE];exact qcg i (zan cs)
def stp:List Nat→List Nat→Nat→Nat
 | v :: vs,_ :: cs,u=>bif v == u then zan cs else stp vs cs u
 | _,_,_=>0
def at_:List Nat→List Nat→Nat→Nat
 | v :: vs,d :: ds,u=>bif v == u then d else at_ vs ds u
 | _,_,_=>0
theorem zld:∀ {vs cs:List Nat} {u:Nat},vs.length=cs.length→stp vs cs u=(match pos vs u with | none=>0 | some k=>(zbO cs).getD k 0)
 | [],_,u,_=>by simp[stp,pos]
 | v :: vs,[],_,h=>by simp at h
 | v :: vs,c :: cs,u,h=>by
  have ih:=zld (u:=u) (show vs.length=cs.length by simpa using h);unfold stp pos;cases hb:(v == u)with
  | true=>rfl
  | false=>
   rw[cond_false,cond_false,ih];cases pos vs u with
   | none=>rfl
   | some k=>simp[zbO]
theorem znM{f:Fc}(hf:FcOk f){vs:List Nat}(hl:vs.length≤100):∀(n i:Nat),i≤vs.length→vs.length - i<n →
  zaO (iL vs) f.T n (i:Int) (iL ((vs.map (stp f.vs f.cs)).take i ++ List.replicate (vs.length - i) 0))=some (iL (vs.map (stp f.vs f.cs)))
 | 0,_,_,h=>absurd h (qaV _)
 | n+1,i,hi,hn=>by
  unfold zaO;rw[zaM];rcases qaZ i vs.length with h3 | h3
  ·have ih:=znM hf hl n (i+1) h3 (by omega);have ht:((vs.map (stp f.vs f.cs)).take i).length=i:=by simp; omega
   have e:List.replicate (vs.length - i) 0=0 :: List.replicate (vs.length - (i+1)) 0:=by
    rw[show vs.length - i=(vs.length - (i+1))+1 by omega,qaI]
   have e2:(vs.map (stp f.vs f.cs)).take (i+1)=(vs.map (stp f.vs f.cs)).take i ++ [stp f.vs f.cs vs[i]]:=by
    rw[List.take_succ_eq_append_getElem (by simpa using h3)]; simp
   rw[e2,qbi,qa5]at ih;rw[znt h3,cond_true,ze4 h3,qac,zjJ hf,qac,zdx,zns,e];rw[zld hf.len]at ih;cases hp:pos f.vs vs[i]with
   | none=>
    rw[hp]at ih;rw[Option.isSome_none,cond_false,qac,zbf (by omega)];exact ih
   | some k=>
    rw[hp]at ih;obtain⟨hk,_⟩:=zeR hp;rw[qb2,cond_true,show ixZ (some k)=(k:Int)from rfl,show f.T.steps=iL (zbO f.cs)from rfl,zeE (by rw[zmI,← hf.len]; exact hk),qac,zcj ht,qac,zc8 ht,qac,qac,zbf (by omega)];exact ih
  obtain rfl:i=vs.length:=by omega
  rw[zoJ,cond_false,Nat.sub_self,qbY,qa9,qaL (by simp)]
theorem zk3{f:Fc}(hf:FcOk f){vs:List Nat}(hl:vs.length≤100):zaA f.T (iL vs)=some (iL (vs.map (stp f.vs f.cs))):=by
 unfold zaA;have h:=znM hf hl (vs.length+2) 0 (qaS _) (by omega);rw[qbP,qa8,Nat.sub_zero,zgV,show((0:Nat):Int)=0 from rfl]at h;rw[zaM,zf6 (by omega),qac,zc2,h];rfl
theorem zne(g h:Nat→Nat):∀(ds vs:List Nat),dot ds (vs.map fun v=>g v+h v)=dot ds (vs.map g)+dot ds (vs.map h)
 | [],_=>by simp[dot]
 | d :: ds,[]=>by simp[dot]
 | d :: ds,v :: vs=>by
  simp only[qaA,dot,zne g h ds vs,Nat.mul_add];omega
theorem zih:∀(ds vs:List Nat) (g:Nat→Nat),(∀ v∈vs,g v=0)→dot ds (vs.map g)=0
 | [],_,_,_=>by simp[dot]
 | d :: ds,[],_,_=>by simp[dot]
 | d :: ds,v :: vs,g,h=>by
  simp only[qaA,dot,h v qao,qb7,zih ds vs g fun u hu=>h u (qal _ hu)]
theorem zoN{u p:Nat}:∀ {vs ds:List Nat},vs.Nodup→dot ds (vs.map fun v=>bif u == v then p else 0)=at_ vs ds u * p
 | [],ds,_=>by cases ds<;>simp[dot,at_]
 | v :: vs,[],_=>by simp[dot,at_]
 | v :: vs,d :: ds,h=>by
  obtain⟨h1,h2⟩:=qbz.1 h;simp only[qaA,dot,at_];by_cases hb:u=v
  ·subst hb;rw[beq_self_eq_true,cond_true,cond_true,zih ds vs _ (fun w hw=>by rw[show(u == w)=false from beq_false_of_ne (fun e=>h1 (e ▸ hw))]; rfl),qbj]
  rw[show(u == v)=false from beq_false_of_ne hb,show(v == u)=false from beq_false_of_ne (fun e=>hb e.symm),cond_false,cond_false,zoN h2,qb7,qaT]
theorem znx:∀ {us cs:List Nat} {u:Nat},u ∉ us→stp us cs u=0
 | [],_,_,_=>by simp[stp]
 | v :: us,[],_,_=>by simp[stp]
 | v :: us,c :: cs,u,h=>by
  unfold stp;rw[show(v == u)=false from beq_false_of_ne (fun e=>h (by rw[e]; exact qao)),cond_false,znx fun hm=>h (qal _ hm)]
theorem znj{vs ds:List Nat}(hv:vs.Nodup):∀ {us cs:List Nat},us.length=cs.length→us.Nodup→dot ds (vs.map (stp us cs))=dot (us.map (at_ vs ds)) (zbO cs)
 | [],cs,_,_=>by
  rw[zih ds vs _ fun v _=>by simp[stp]];simp[dot]
 | u :: us,[],h,_=>by simp at h
 | u :: us,c :: cs,h,hn=>by
  obtain⟨h1,h2⟩:=qbz.1 hn;have e:vs.map (stp (u :: us) (c :: cs))=vs.map fun v=>(bif u == v then zan cs else 0)+stp us cs v:=by
   refine List.map_congr_left fun v _=>?_
   rw[show stp (u :: us) (c :: cs) v=bif u == v then zan cs else stp us cs v from rfl];cases hb:(u == v)with
   | true=>
    have:u=v:=by simpa using hb
    subst this;rw[cond_true,cond_true,znx h1]; rfl
   | false=>
    rw[cond_false,cond_false,qaT]
  rw[e,zne,zoN hv,znj hv (by simpa using h) h2];rfl
theorem zcx{vs:List Nat}(h:vs.Pairwise (· < ·)):vs.Nodup:=h.imp fun h=>Nat.ne_of_lt h
def Sub(vs ws:List Nat):List Nat→List Nat→Prop
 | [],[]=>True
 | u :: us,c :: cs=>(u∈vs∧at_ vs ws u=c)∧Sub vs ws us cs
 | _,_=>False
theorem zlw:∀ {vs ws ds:List Nat} {u:Nat},vs.length=ws.length→zcA ws ds→u∈vs→at_ vs ds u<at_ vs ws u∧at_ vs ws u≤8
 | v :: vs,w :: ws,d :: ds,u,hl,hb,hm=>by
  unfold at_;by_cases h:v=u
  ·subst h;rw[beq_self_eq_true,cond_true,cond_true];exact⟨hb.1,hb.2.1⟩
  ·rw[show(v == u)=false from beq_false_of_ne h,cond_false,cond_false];rcases qaB.1 hm with e | hm
   ·exact absurd e.symm h
   ·exact zlw (by simpa using hl) hb.2.2 hm
 | [],_,_,_,_,_,hm=>by cases hm
 | v :: vs,[],_,_,hl,_,_=>by simp at hl
 | v :: vs,w :: ws,[],_,_,hb,_=>hb.elim
theorem Sub.below{vs ws ds:List Nat}(hl:vs.length=ws.length)(hb:zcA ws ds):∀ {us cs:List Nat},Sub vs ws us cs→zcA cs (us.map (at_ vs ds))
 | [],[],_=>trivial
 | u :: us,c :: cs,⟨⟨h1,h2⟩,h3⟩=>by
  have:=zlw hl hb h1;rw[h2]at this;exact⟨this.1,this.2,Sub.below hl hb h3⟩
 | [],_ :: _,h=>h.elim
 | _ :: _,[],h=>h.elim
def Fc.at(f:Fc)(vs ds:List Nat):Nat:=f.ws.getD (dot (f.vs.map (at_ vs ds)) (zbO f.cs)) 0
theorem zrt{a:Nat}(ha:a<18446744073709551616):zmY .u64 (a:Int) 4294967295=((a % 4294967296:Nat):Int):=by
 rw[show(4294967295:Int)=((4294967295:Nat):Int)from rfl,ztG ha (by omega)];congr 1
 exact Nat.and_two_pow_sub_one_eq_mod a 32
theorem zow(a:Nat):zl1 .u64 (a:Int) 32=some ((a / 4294967296:Nat):Int):=by
 have h:=ztP (a:=a) (v:=32) (by omega);rw[show((32:Nat):Int)=32 from rfl]at h;rw[h,qbp]
theorem zs5{x y:Nat}(hx:x<18446744073709551616)(hy:y<18446744073709551616):zc6 (x:Int) (y:Int)=some (((x * y / 18446744073709551616:Nat):Int),((x * y % 18446744073709551616:Nat):Int)):=by
 unfold zc6;rw[zow,qac,zow,qac,zrt hx,zrt hy];have ex:x=x / 4294967296 * 4294967296+x % 4294967296:=by omega
 have ey:y=y / 4294967296 * 4294967296+y % 4294967296:=by omega
 have exy:x * y=(x / 4294967296)* (y / 4294967296)* 18446744073709551616+((x / 4294967296)* (y % 4294967296)+(x % 4294967296)* (y / 4294967296))* 4294967296+(x % 4294967296)* (y % 4294967296):=by
  have:∀ a b c d:Nat,(a * 4294967296+b)* (c * 4294967296+d)=a * c * 18446744073709551616+(a * d+b * c)* 4294967296+b * d:=by
   intro a b c d;rw[qaN,Nat.mul_add,Nat.mul_add,Nat.mul_mul_mul_comm,show b * (c * 4294967296)=b * c * 4294967296 from(qbN _ _ _).symm,show a * 4294967296 * d=a * d * 4294967296 by rw[qbN,qbE 4294967296 d,qbN]];omega
  calc x * y=(x / 4294967296 * 4294967296+x % 4294967296)* (y / 4294967296 * 4294967296+y % 4294967296):=by rw[← ex,← ey]
   _=_:=this _ _ _ _
 rw[show(x:Int)* (y:Int)=((x * y:Nat):Int)from(qa4 x y).symm,zrw];have ha:x / 4294967296≤4294967295:=by omega
 have hb:x % 4294967296≤4294967295:=by omega
 have hc:y / 4294967296≤4294967295:=by omega
 have hd:y % 4294967296≤4294967295:=by omega
 rw[exy];generalize x / 4294967296=a at *;generalize x % 4294967296=b at *;generalize y / 4294967296=c at *;generalize y % 4294967296=d at *;have h1:a * c≤4294967295 * 4294967295:=qbm ha hc;have h2:a * d≤4294967295 * 4294967295:=qbm ha hd;have h3:b * c≤4294967295 * 4294967295:=qbm hb hc;have h4:b * d≤4294967295 * 4294967295:=qbm hb hd;rw[← qa4,← qa4,← qa4,← qa4];generalize a * c=p at *;generalize a * d=q at *;generalize b * c=r at *;generalize b * d=s at *
 rw[zcY (n:=s) (by omega),zow,qac,zcY (n:=q) (by omega),← qb5,zcY (n:=q+s / 4294967296) (by omega),zow,qac,zrt (by omega),zcY (n:=r) (by omega),← qb5,zcY (n:=(q+s / 4294967296) % 4294967296+r) (by omega),zow,qac,
  zcY (n:=p) (by omega),← qb5,zcY (n:=p+(q+s / 4294967296) / 4294967296) (by omega),← qb5,zcY (n:=p+(q+s / 4294967296) / 4294967296+((q+s / 4294967296) % 4294967296+r) / 4294967296) (by omega)]
 congr 2
 congr 1
 omega
theorem zla{xs:List Nat}{v:Nat}:(pos xs v).isSome=decide (v∈xs):=by
 cases h:pos xs v with
 | none=>exact(decide_eq_false (zjc h)).symm
 | some k=>
  obtain⟨hk,e⟩:=zeR h;exact(decide_eq_true (e ▸ qbn hk)).symm
theorem zep(u d:Nat)(us ds:List Nat)(v:Nat):at_ (u :: us) (d :: ds) v=bif u == v then d else at_ us ds v:=rfl
theorem zlP:∀ {vs ds:List Nat} {v k:Nat},pos vs v=some k→at_ vs ds v=ds.getD k 0
 | [],_,_,_,h=>by cases h
 | u :: us,[],v,k,_=>by simp[at_]
 | u :: us,d :: ds,v,k,h=>by
  rw[zep];rw[show pos (u :: us) v=bif u == v then some 0 else(pos us v).map (· + 1)from rfl]at h;cases hb:(u == v)with
  | true=>rw[hb,cond_true]at h; cases h; rw[cond_true]; rfl
  | false=>
   rw[hb,cond_false]at h;cases hp:pos us v with
   | none=>rw[hp]at h; cases h
   | some j=>rw[hp]at h; cases h; rw[cond_false,zlP hp]; rfl
def inB(f g:Fc)(v:Nat):Bool:=decide (v∈f.vs)|| decide (v∈g.vs)
def cdF(f g:Fc)(v:Nat):Nat:=bif decide (v∈f.vs)then at_ f.vs f.cs v else at_ g.vs g.cs v
def uni(f g:Fc):List Nat:=(List.range' 0 64).filter (inB f g)
theorem zqu{xs:List Nat}{v:Nat}(h:xs.length≤100000):zgs 8 (iL xs) [(v:Int)]=some (iL (xs ++ [v])):=by
 rw[zn3 (by rw[zaM]; simp; omega),zlB]; rfl
theorem zn5:∀ {xs:List Nat} {l:Nat},xs.Pairwise (· < ·)→(∀ x∈xs,l≤x∧x<64)→xs.length≤64 - l
 | [],_,_,_=>by simp
 | x :: xs,l,h,hb=>by
  obtain⟨h1,h2⟩:=qaQ.1 h;have hx:=hb x qao;have:=zn5 (l:=x+1) h2 fun y hy=>⟨h1 y hy,(hb y (qal _ hy)).2⟩
  rw[qaR]; omega
theorem zh0{f:Fc}(hf:FcOk f){v k:Nat}(hp:pos f.vs v=some k):zbl f.D.zad (ixZ (some k))=some ((at_ f.vs f.cs v:Nat):Int):=by
 obtain⟨hk,_⟩:=zeR hp;show zbl (iL f.cs) (k:Int)=_;rw[zeE (by rw[← hf.len]; exact hk),zlP hp]
theorem zey{f g:Fc}(hf:FcOk f)(hg:FcOk g){v:Nat}:v∈uni f g↔v∈f.vs∨v∈g.vs:=by
 unfold uni inB;simp only[qbA,qbI,qbd,decide_eq_true_eq];constructor
 ·exact fun h=>h.2
 rintro(h | h)
 ·exact⟨⟨qaS _,by have:=hf.var _ h; omega⟩,.inl h⟩
 exact⟨⟨qaS _,by have:=hg.var _ h; omega⟩,.inr h⟩
theorem zf1(f g:Fc):(uni f g).Pairwise (· < ·):=qcc _ List.pairwise_lt_range'
theorem zqc{f g:Fc}:∀ v∈uni f g,v<64:=by
 intro v hv;have:=(qbA.1 hv).1;simp only[qbI]at this;omega
theorem zpR(f g:Fc):(uni f g).length≤64:=zn5 (l:=0) (zf1 f g) fun x hx=>⟨qaS _,zqc x hx⟩
theorem znR:∀ {a b:List Nat},a.Pairwise (· < ·)→b.Pairwise (· < ·)→(∀ x,x∈a↔x∈b)→a=b
 | [],[],_,_,_=>rfl
 | [],b :: bs,_,_,h=>by have:=(h b).2 qao; simp at this
 | a :: xs,[],_,_,h=>by have:=(h a).1 qao; simp at this
 | a :: xs,b :: bs,ha,hb,h=>by
  obtain⟨ha1,ha2⟩:=qaQ.1 ha;obtain⟨hb1,hb2⟩:=qaQ.1 hb;have e:a=b:=by
   rcases qaB.1 ((h a).1 qao)with h1 | h1
   ·exact h1
   rcases qaB.1 ((h b).2 qao)with h2 | h2
   ·exact h2.symm
   have:=hb1 a h1; have:=ha1 b h2; omega
  subst e;refine congrArg (a :: ·) (znR ha2 hb2 fun x=>⟨fun hx=>?_,fun hx=>?_⟩)
  ·rcases qaB.1 ((h x).1 (qal _ hx))with rfl | h1
   ·have:=ha1 x hx; omega
   exact h1
  rcases qaB.1 ((h x).2 (qal _ hx))with rfl | h1
  ·have:=hb1 x hx; omega
  exact h1
theorem zme:∀ {a b:List Int},a.Pairwise (· < ·)→b.Pairwise (· < ·)→(∀ x,x∈a↔x∈b)→a=b
 | [],[],_,_,_=>rfl
 | [],b :: bs,_,_,h=>by have:=(h b).2 qao; simp at this
 | a :: xs,[],_,_,h=>by have:=(h a).1 qao; simp at this
 | a :: xs,b :: bs,ha,hb,h=>by
  obtain⟨ha1,ha2⟩:=qaQ.1 ha;obtain⟨hb1,hb2⟩:=qaQ.1 hb;have e:a=b:=by
   rcases qaB.1 ((h a).1 qao)with h1 | h1
   ·exact h1
   rcases qaB.1 ((h b).2 qao)with h2 | h2
   ·exact h2.symm
   have:=hb1 a h1; have:=ha1 b h2; omega
  subst e;refine congrArg (a :: ·) (zme ha2 hb2 fun x=>⟨fun hx=>?_,fun hx=>?_⟩)
  ·rcases qaB.1 ((h x).1 (qal _ hx))with rfl | h1
   ·have:=ha1 x hx; omega
   exact h1
  rcases qaB.1 ((h x).2 (qal _ hx))with rfl | h1
  ·have:=hb1 x hx; omega
  exact h1
section
variable {s:List Int}
theorem zix{j:Nat}(h:j<s.length):s.toArray[j]! = s[j]:=by simp[h]
theorem zqp(hs:s.Pairwise (· ≤ ·)){i j:Nat}(hij:i≤j)(hj:j<s.length):s.toArray[i]!≤s.toArray[j]!:=by
 rw[zix (by omega),zix hj];rcases Nat.eq_or_lt_of_le hij with h | h
 ·subst h; exact qbv _
 exact List.pairwise_iff_getElem.1 hs i j (by omega) hj h
theorem zrc(hs:s.Pairwise (· ≤ ·)):(Go.Lib.compact s).Pairwise (· < ·):=by
 unfold Go.Lib.compact Go.Lib.compactUpTo;refine List.pairwise_map.2 ((qcc _ (List.pairwise_lt_range (n:=s.length))).imp_of_mem fun {a b} _ hb hab=>?_);obtain⟨h1,h2⟩:=qbA.1 hb;have hb:=qbQ.1 h1;have h3:s.toArray[b]!≠s.toArray[b - 1]!:=by
  rcases of_decide_eq_true h2 with h | h
  ·omega
  exact h
 have h4:=zqp hs (show a≤b - 1 by omega) (by omega);have h5:=zqp hs (show b - 1≤b by omega) hb;omega
theorem zlI:∀ j:Nat,j<s.length→∃ i,i<s.length∧Go.Lib.keeps s.toArray i=true∧s.toArray[i]! = s.toArray[j]!
 | 0,h=>⟨0,h,decide_eq_true (.inl rfl),rfl⟩
 | j+1,h=>by
  by_cases e:s.toArray[j+1]! = s.toArray[j]!
  ·obtain⟨i,h1,h2,h3⟩:=zlI j (by omega);exact⟨i,h1,h2,h3.trans e.symm⟩
  exact⟨j+1,h,decide_eq_true (.inr e),rfl⟩
theorem zrb{x:Int}:x∈Go.Lib.compact s↔x∈s:=by
 unfold Go.Lib.compact Go.Lib.compactUpTo;constructor
 ·intro h;obtain⟨j,h1,rfl⟩:=qaH.1 h;have hj:=qbQ.1 (qbA.1 h1).1;rw[zix hj];exact qbn hj
 intro h;obtain⟨j,hj,rfl⟩:=List.mem_iff_getElem.1 h;obtain⟨i,h1,h2,h3⟩:=zlI j hj;exact qaH.2 ⟨i,qbA.2 ⟨qbQ.2 h1,h2⟩,h3.trans (zix hj)⟩
end
theorem zpr(zs:List Int):(zed zs).Pairwise (· ≤ ·):=by
 have:=List.pairwise_mergeSort (le:=fun x y:Int=>decide (x≤y)) (fun a b c h1 h2=>by simp at *; omega) (fun a b=>by simp; omega) zs;exact this.imp fun h=>by simpa using h
theorem zoW{zs:List Int}{x:Int}:x∈zed zs↔x∈zs:=List.mem_mergeSort
theorem zrY{xs:List Nat}(h:xs.Pairwise (· < ·)):(iL xs).Pairwise (· < ·):=List.pairwise_map.2 (h.imp fun h=>Int.ofNat_lt.2 h)
theorem zp7{xs:List Nat}{x:Int}:x∈iL xs↔∃ k∈xs,(k:Int)=x:=qaH
theorem zrs{f g:Fc}(hf:FcOk f)(hg:FcOk g):Go.Lib.compact (zed (iL f.vs ++ iL g.vs))=iL (uni f g):=by
 refine zme (zrc (zpr _)) (zrY (zf1 f g)) fun x=>?_
 rw[zrb,zoW,← zlB,zp7,zp7];constructor
 ·rintro⟨k,h1,h2⟩; exact⟨k,(zey hf hg).2 (qb1.1 h1),h2⟩
 rintro⟨k,h1,h2⟩; exact⟨k,qb1.2 ((zey hf hg).1 h1),h2⟩
theorem zot{f g:Fc}(hf:FcOk f)(hg:FcOk g){vs:List Nat}(hl:vs.length≤100)(hm:∀ v∈vs,v∈f.vs∨v∈g.vs):∀(n i:Nat),i≤vs.length→vs.length - i<n →
  zbj (iL vs) f.T g.T n (i:Int) (iL ((vs.map (cdF f g)).take i ++ List.replicate (vs.length - i) 0))=some (iL (vs.map (cdF f g)))
 | 0,_,_,h=>absurd h (qaV _)
 | n+1,i,hi,hn=>by
  unfold zbj;rw[zaM];rcases qaZ i vs.length with h3 | h3
  ·have ih:=zot hf hg hl hm n (i+1) h3 (by omega);have ht:((vs.map (cdF f g)).take i).length=i:=by simp; omega
   have e:List.replicate (vs.length - i) 0=0 :: List.replicate (vs.length - (i+1)) 0:=by
    rw[show vs.length - i=(vs.length - (i+1))+1 by omega,qaI]
   have e2:(vs.map (cdF f g)).take (i+1)=(vs.map (cdF f g)).take i ++ [cdF f g vs[i]]:=by
    rw[List.take_succ_eq_append_getElem (by simpa using h3)]; simp
   rw[e2,qbi,qa5]at ih;rw[znt h3,cond_true,ze4 h3,qac,zjJ hf,qac,zdx,zns,e];cases hp:pos f.vs vs[i]with
   | some k=>
    have hm:decide (vs[i]∈f.vs)=true:=by rw[← zla,hp]; rfl
    rw[show cdF f g vs[i]=at_ f.vs f.cs vs[i] by unfold cdF; rw[hm]; rfl]at ih;rw[qb2,cond_true,show f.T.factor=f.D from rfl,zh0 hf hp,qac,zcj ht,qac,zc8 ht,qac,qac,zbf (by omega)];exact ih
   | none=>
    have hm1:decide (vs[i]∈f.vs)=false:=by rw[← zla,hp]; rfl
    rw[show cdF f g vs[i]=at_ g.vs g.cs vs[i] by unfold cdF; rw[hm1]; rfl]at ih;have hm2:vs[i]∈g.vs:=(hm vs[i] (qbn h3)).resolve_left (of_decide_eq_false hm1);obtain⟨k,hq⟩:=zra hm2;rw[Option.isSome_none,cond_false,zjJ hg,qac,zdx,hq,show g.T.factor=g.D from rfl,zh0 hg hq,qac,zcj ht,qac,zc8 ht,qac,qac,zbf (by omega)];exact ih
  obtain rfl:i=vs.length:=by omega
  rw[zoJ,cond_false,Nat.sub_self,qbY,qa9,qaL (by simp)]
theorem zqC{f g:Fc}(hf:FcOk f)(hg:FcOk g):zbQ f.T g.T=some (iL (uni f g),iL ((uni f g).map (cdF f g))):=by
 have hl:=zpR f g;have h1:=hf.le; have h2:=hg.le; have h3:=hf.len; have h4:=hg.len;unfold zbQ
 rw[show f.T.factor.vars=iL f.vs from rfl,show g.T.factor.vars=iL g.vs from rfl,zio (by rw[zaM]; omega),qac,zn3 (by rw[zaM,zaM]; omega),qac,
  show zhv 8 (iL f.vs ++ iL g.vs)=some (zed (iL f.vs ++ iL g.vs))from by unfold zhv; rw[if_pos (by rw[qat,zaM,zaM]; simp only[zap]; omega)],qac,
  show zrH (zed (iL f.vs ++ iL g.vs))=some (Go.Lib.compact (zed (iL f.vs ++ iL g.vs)))from rfl,qac,zrs hf hg,zaM,zf6 (by omega),qac,zc2]
 have:=zot hf hg (vs:=uni f g) (by omega) (fun v hv=>(zey hf hg).1 hv) ((uni f g).length+2) 0 (qaS _) (by omega);rw[qbP,qa8,Nat.sub_zero,zgV]at this;rw[show zbj (iL (uni f g)) f.T g.T ((uni f g).length+2) 0 (List.replicate (uni f g).length 0)=_ from this];rfl
abbrev noF:S_api_Factor:=⟨[],[],[]⟩
theorem zsy{P:Nat}:((bif (((P / 18446744073709551616:Nat):Int)== 0)then some (decide ((4611686018427387903:Int)<((P % 18446744073709551616:Nat):Int)))else some true):Option Bool)=some (!decide (P≤zgx)):=by
 by_cases h:P / 18446744073709551616=0
 ·rw[h,show(((0:Nat):Int)== 0)=true from rfl,cond_true];congr 1
  by_cases h2:P≤zgx
  ·rw[decide_eq_true h2]; exact decide_eq_false (by have:P≤4611686018427387903:=h2; omega)
  rw[decide_eq_false h2]; exact decide_eq_true (by have:¬ P≤4611686018427387903:=h2; omega)
 rw[show(((P / 18446744073709551616:Nat):Int)== 0)=false from beq_eq_false_iff_ne.2 (by omega),cond_false,decide_eq_false (show ¬ P≤zgx by intro(h2:P≤4611686018427387903); omega)];rfl
theorem zoP{x:Nat}(h:x≤zgx):IntKind.u64.wrap (x:Int)=(x:Int):=by
 have:x≤4611686018427387903:=h;rw[zrw,qaY (by omega)]
theorem zsu{P:Nat}(h:P≤zgx):w64 ((P % 18446744073709551616:Nat):Int)=(P:Int):=by
 have:P≤4611686018427387903:=h;rw[qaY (by omega),zdK (by omega)]
structure Dom (u c:List Nat):Prop where
 len:u.length=c.length
 nodup:u.Nodup
 zmK:∀ x∈c,1≤x∧x≤8
 le:c.length≤12
 prod:zan c≤4096
theorem zhb{cs:List Nat}(h:zbL (iL cs)=true):(∀ c∈cs,1≤c∧c≤8)∧zan cs≤4096∧cs.length≤12:=by
 obtain⟨ns,h1,h2⟩:=zhr h;have:cs=ns:=by rw[← zfz cs,h1,zfz]
 subst this;exact h2
theorem Fc.zsK{f:Fc}(hf:FcOk f)(u ds:List Nat):f.at u ds≤zgx:=by
 unfold Fc.at;generalize dot _ _=k;by_cases h:k<f.ws.length
 ·rw[qaC,qaf h];exact hf.num _ (qbn h)
 rw[qaC,qbc (by omega)];exact qaS _
theorem wat{f:Fc}(hf:FcOk f){u c ds:List Nat}(hD:Dom u c)(hs:Sub u c f.vs f.cs)(hb:zcA c ds):zbl f.D.w ((dot ds (u.map (stp f.vs f.cs)):Nat):Int)=some ((f.at u ds:Nat):Int):=by
 rw[znj hD.nodup hf.len (zcx hf.inc)];show zbl (iL f.ws) _=_;have:=zp6 (Sub.below hD.len hb hs);rw[zeE (by rw[hf.size]; exact this)];rfl
theorem zf8(c ss:List Nat)(i m:Nat):zf9 c ss i (m+1)=((i:Int),((dot (dig c i) ss:Nat):Int),iL (dig c i)):: zf9 c ss (i+1) m:=by
 unfold zf9;rw[qbu,qaA]
theorem zqo{f:Fc}(hf:FcOk f){r12:Int×Int}{u c:List Nat}{e:Int}(hD:Dom u c)(hs:Sub u c f.vs f.cs):∀(m i:Nat) (ys:List Nat),i+m=zan c→ys.length=i →
  zbJ (f.T,e) r12 (zf9 c (u.map (stp f.vs f.cs)) i m) (iL (ys ++ List.replicate m 0))=some (iL (ys ++ (List.range' i m).map fun j=>f.at u (dig c j)))
 | 0,i,ys,_,_=>by simp[zf9,zbJ]
 | m+1,i,ys,h,hy=>by
  rw[zf8];show(zbl f.D.w ((dot (dig c i) (u.map (stp f.vs f.cs)):Nat):Int)).bind _=_;rw[wat hf hD hs (zeC hD.zmK (by omega)),qac];simp only[];rw[qaI,zcj hy,qac,zc8 hy,qac,show ys ++ f.at u (dig c i):: List.replicate m 0=(ys ++ [f.at u (dig c i)])++ List.replicate m 0 by simp,zqo hf hD hs m (i+1) _ (by omega) (by simp[hy]),qbu,qaA,qbi,qa5]
theorem zp9{g:Fc}(hg:FcOk g){r12:Int×Int}{u c:List Nat}{e:Int}(hD:Dom u c)(hs:Sub u c g.vs g.cs){fa:Nat→Nat}(hfa:∀ j,fa j≤zgx):∀(m i:Nat) (ys:List Nat),i+m=zan c→ys.length=i →
  zbK (g.T,e) r12 (zf9 c (u.map (stp g.vs g.cs)) i m) (iL (ys ++ (List.range' i m).map fa))=
   some (bif (List.range' i m).all fun j=>decide (fa j * g.at u (dig c j)≤zgx)then .go (iL (ys ++ (List.range' i m).map fun j=>fa j * g.at u (dig c j)))else .ret (noF,6))
 | 0,i,ys,_,_=>by simp[zf9,zbK]
 | m+1,i,ys,h,hy=>by
  have h1:fa i≤4611686018427387903:=hfa i;have h2:g.at u (dig c i)≤4611686018427387903:=Fc.zsK hg u _;rw[zf8,qbu,qaA,qbU];show(zbl (iL (ys ++ fa i :: _)) (i:Int)).bind _=_;rw[zcj hy,qac];simp only[];rw[show(g.T,e).1.factor.w=g.D.w from rfl,wat hg hD hs (zeC hD.zmK (by omega)),qac,zoP h1,zoP h2,zs5 (by omega) (by omega),qac];simp only[];rw[zsy,qac];by_cases hp:fa i * g.at u (dig c i)≤zgx
  ·rw[decide_eq_true hp,qaP,cond_false,qac,zsu hp,zc8 hy,qac,
    show ys ++ fa i * g.at u (dig c i)::(List.range' (i+1) m).map fa=(ys ++ [fa i * g.at u (dig c i)])++ (List.range' (i+1) m).map fa by simp,zp9 hg hD hs hfa m (i+1) _ (by omega) (by simp[hy])]
   simp
  rw[decide_eq_false hp,qbh,cond_true,Bool.false_and,cond_false]
theorem zlE{h:Nat→Nat}{v:Nat}:∀ {us:List Nat},v∈us→at_ us (us.map h) v=h v
 | [],hm=>by simp at hm
 | u :: us,hm=>by
  rw[qaA,zep];cases hb:(u == v)with
  | true=>rw[cond_true]; rw[beq_iff_eq]at hb; rw[hb]
  | false=>
   rw[cond_false];rcases qaB.1 hm with e | e
   ·rw[e]at hb; simp at hb
   exact zlE e
theorem znV:∀ {vs ds:List Nat} {i:Nat} (hn:vs.Nodup) (h:i<vs.length),at_ vs ds vs[i]=ds.getD i 0
 | v :: vs,[],i,_,_=>by simp[at_]
 | v :: vs,d :: ds,0,_,_=>by rw[zep]; simp
 | v :: vs,d :: ds,i+1,hn,h=>by
  obtain⟨h1,h2⟩:=qbz.1 hn;have hi:i<vs.length:=by simpa using h
  rw[zep,show(v :: vs)[i+1]=vs[i]from rfl,show(v == vs[i])=false from beq_false_of_ne (fun e=>h1 (e ▸ qbn hi)),cond_false,znV h2 hi];rfl
theorem zsn{vs ds:List Nat}(hn:vs.Nodup)(hl:vs.length=ds.length):vs.map (at_ vs ds)=ds:=by
 refine List.ext_getElem (by simpa using hl) fun i h1 h2=>?_
 rw[List.getElem_map,znV hn (by simpa using h1),qaC,qaf h2];rfl
theorem zlM{vs ws:List Nat}:∀ {us cs:List Nat},us.length=cs.length→us.Nodup→(∀ u∈us,u∈vs∧at_ vs ws u=at_ us cs u)→Sub vs ws us cs
 | [],[],_,_,_=>trivial
 | [],c :: cs,h,_,_=>by simp at h
 | u :: us,[],h,_,_=>by simp at h
 | u :: us,c :: cs,hl,hn,h=>by
  obtain⟨h1,h2⟩:=qbz.1 hn;refine⟨⟨(h u qao).1,?_⟩,zlM (by simpa using hl) h2 fun x hx=>⟨(h x (qal _ hx)).1,?_⟩⟩
  ·rw[(h u qao).2,zep,beq_self_eq_true,cond_true]
  rw[(h x (qal _ hx)).2,zep,show(u == x)=false from beq_false_of_ne (fun e=>h1 (e ▸ hx)),cond_false]
def Agr(f g:Fc):Prop:=∀ v,v∈f.vs→v∈g.vs→at_ f.vs f.cs v=at_ g.vs g.cs v
theorem zft{f g:Fc}(hf:FcOk f)(hg:FcOk g):zdv f g 0 f.vs=true↔Agr f g:=by
 have key:∀(m i:Nat),i+m=f.vs.length→(zdv f g i (f.vs.drop i)=true↔∀ v∈f.vs.drop i,v∈g.vs→at_ f.vs f.cs v=at_ g.vs g.cs v):=by
  intro m;induction m with
  | zero=>intro i h; rw[qbB (by omega)]; simp[zdv]
  | succ m ih=>
   intro i h;have hi:i<f.vs.length:=by omega
   rw[qaw hi];rw[show zdv f g i (f.vs[i]:: f.vs.drop (i+1))=((match pos g.vs f.vs[i]with | none=>true | some k=>g.cs.getD k 0 == f.cs.getD i 0) && zdv f g (i+1) (f.vs.drop (i+1)))from rfl,qag,ih (i+1) (by omega),List.forall_mem_cons];refine and_congr ?_ Iff.rfl;rw[znV (zcx hf.inc) hi];cases hp:pos g.vs f.vs[i]with
   | none=>exact⟨fun _ hm=>absurd hm (zjc hp),fun _=>rfl⟩
   | some k=>
    obtain⟨hk,e⟩:=zeR hp;rw[zlP hp];simp only[beq_iff_eq];exact⟨fun h _=>h.symm,fun h=>(h (e ▸ qbn hk)).symm⟩
 have:=key f.vs.length 0 (by omega)
 rwa [qbb]at this
def ucs(f g:Fc):List Nat:=(uni f g).map (cdF f g)
theorem ztv{f g:Fc}{v:Nat}(h:v∈f.vs):cdF f g v=at_ f.vs f.cs v:=by unfold cdF; rw[decide_eq_true h,cond_true]
theorem zty{f g:Fc}(ha:Agr f g){v:Nat}(h:v∈g.vs):cdF f g v=at_ g.vs g.cs v:=by
 unfold cdF;by_cases h1:v∈f.vs
 ·rw[decide_eq_true h1,cond_true,ha v h1 h]
 rw[decide_eq_false h1,cond_false]
theorem ztc{f g:Fc}(hf:FcOk f)(hg:FcOk g):Sub (uni f g) (ucs f g) f.vs f.cs:=
 zlM hf.len (zcx hf.inc) fun u hu=>by
  have hm:=(zey hf hg).2 (.inl hu);exact⟨hm,by unfold ucs; rw[zlE hm,ztv hu]⟩
theorem ztm{f g:Fc}(hf:FcOk f)(hg:FcOk g)(ha:Agr f g):Sub (uni f g) (ucs f g) g.vs g.cs:=
 zlM hg.len (zcx hg.inc) fun u hu=>by
  have hm:=(zey hf hg).2 (.inr hu);exact⟨hm,by unfold ucs; rw[zlE hm,zty ha hu]⟩
theorem zng{f g:Fc}(h:zbL (iL (ucs f g))=true):Dom (uni f g) (ucs f g):=by
 obtain⟨h1,h2,h3⟩:=zhb h;exact⟨by unfold ucs; simp,zcx (zf1 f g),h1,h3,h2⟩
def zlm(f g:Fc):Bool:=(List.range' 0 (zan (ucs f g))).all fun j=>decide (f.at (uni f g) (dig (ucs f g) j)* g.at (uni f g) (dig (ucs f g) j)≤zgx)
def zb9(f g:Fc):Fc:=⟨uni f g,ucs f g,(List.range' 0 (zan (ucs f g))).map fun j=>f.at (uni f g) (dig (ucs f g) j)* g.at (uni f g) (dig (ucs f g) j)⟩
def mulR(f g:Fc):S_api_Factor×Int:=bif zbL (iL (ucs f g))then bif zlm f g then((zb9 f g).D,0)else(noF,6)else(noF,3)
theorem zoQ{f:Fc}(hf:FcOk f)(v:Nat):stp f.vs f.cs v≤4096:=by
 rw[zld hf.len];cases hp:pos f.vs v with
 | none=>exact qaS _
 | some k=>
  simp only;by_cases h:k<(zbO f.cs).length
  ·rw[qaC,qaf h];exact zpa (fun c hc=>(hf.zmK c hc).1) hf.prod _ (qbn h)
  rw[qaC,qbc (by omega)];exact qaS _
theorem zg8(a b:List Int):zaW a b=some (a,b):=by rfl
theorem zhm{f:Fc}(hf:FcOk f){u c:List Nat}(hD:Dom u c):zo3 (iL c) (iL (u.map (stp f.vs f.cs)))=some (zf9 c (u.map (stp f.vs f.cs)) 0 (zan c)):=
 zse hD.zmK hD.le hD.prod (by rw[qbe,hD.len]) fun s hs=>by
  obtain⟨v,_,rfl⟩:=qaH.1 hs;exact zoQ hf v
theorem zpt{f g:Fc}(hf:FcOk f)(hg:FcOk g):za8 f.D g.D=some (bif zdv f g 0 f.vs then mulR f g else(noF,2)):=by
 unfold za8 mulR;rw[ziE hf,qac];simp only[];rw[show((0:Int)== 0)=true from rfl,cond_true,ziE hg,qac];simp only[];rw[show((0:Int)== 0)=true from rfl,cond_true,zov hf hg,qac];cases ha:zdv f g 0 f.vs with
 | false=>rfl
 | true=>
  have hA:=(zft hf hg).1 ha;rw[cond_true,cond_true,zqC hf hg,qac];show(zb6 (iL (ucs f g))).bind _=_;rw[zp2,qac];cases hc:zbL (iL (ucs f g))with
  | false=>rfl
  | true=>
   have hD:=zng hc;rw[cond_true,cond_true];have hlu:=zpR f g;have hp:=hD.prod;simp only[];rw[show((0:Int)== 0)=true from rfl,cond_true,zek,zf6 (by omega),qac,zk3 hf (by omega),qac,zg8,qac];simp only[];rw[show iL ((uni f g).map (cdF f g))=iL (ucs f g)from rfl,zhm hf hD,qac,← zgV];have e1:=zqo hf (r12:=((zan (ucs f g):Nat),0)) (e:=0) hD (ztc hf hg) (zan (ucs f g)) 0 [] (by omega) rfl;rw[qa8]at e1;rw[e1,qac,zk3 hg (by omega),qac,zg8,qac];simp only[];rw[zhm hg hD,qac];have e2:=zp9 hg (r12:=((zan (ucs f g):Nat),0)) (e:=0) hD (ztm hf hg hA) (fa:=fun j=>f.at (uni f g) (dig (ucs f g) j)) (fun j=>Fc.zsK hf _ _) (zan (ucs f g)) 0 [] (by omega) rfl;rw[e2,qac];unfold zlm;cases hk:(List.range' 0 (zan (ucs f g))).all fun j=>decide (f.at (uni f g) (dig (ucs f g) j)* g.at (uni f g) (dig (ucs f g) j)≤zgx)with
   | false=>rfl
   | true=>rfl
end Go.Dc
