/-
 Plain laws: numbers and sets of bits. Conditions: none.
-/
import Derived.Test.YtbjogdohfhdaiaaGreatENJ6
set_option linter.unusedSimpArgs false
set_option linter.unusedVariables false
namespace Go.Dc
open Go Go.Mx Go.Lx
variable{n:Nat}
theorem zaJ(h:n<9223372036854775808):w64 (n:Int)=(n:Int):=wrap64 (by omega) (by omega)
theorem zfk{n:Int}(h1:-9223372036854775808<=n)(h2:n<9223372036854775808):w64 n=n:=wrap64 h1 h2
theorem zah(h:n+1<9223372036854775808):w64 ((n:Int)+1)=((n+1:Nat):Int):=by
 rw[zfk (by omega) (by omega)]; omega
theorem zCs(n:Nat):IntKind.u64.wrap (n:Int)=((n % 18446744073709551616:Nat):Int):=by
 simp only[IntKind.wrap,IntKind.bits,IntKind.signed]; simp
theorem zcZ(h:n<18446744073709551616):IntKind.u64.wrap (n:Int)=(n:Int):=by
 rw[zCs,qbm h]
variable{a b:Nat}
theorem zEb(ha:a<18446744073709551616)(hb:b<18446744073709551616):zkd .u64 (a:Int) (b:Int)=((a &&& b:Nat):Int):=by
 have h:(BitVec.ofInt 64 (a:Int) &&& BitVec.ofInt 64 (b:Int)).toNat=a &&& b:=by
  simp only[qc7,BitVec.toNat_and,BitVec.toNat_ofNat];rw[qbm ha,qbm hb]
 show IntKind.u64.wrap ((BitVec.ofInt 64 (a:Int) &&& BitVec.ofInt 64 (b:Int)).toNat:Int)=_;rw[h];exact zcZ (qb7 Nat.and_le_left ha)
theorem orU(ha:a<18446744073709551616)(hb:b<18446744073709551616):orI .u64 (a:Int) (b:Int)=((a ||| b:Nat):Int):=by
 have h:(BitVec.ofInt 64 (a:Int)||| BitVec.ofInt 64 (b:Int)).toNat=a ||| b:=by
  simp only[qc7,BitVec.toNat_or,BitVec.toNat_ofNat];rw[qbm ha,qbm hb]
 show IntKind.u64.wrap ((BitVec.ofInt 64 (a:Int)||| BitVec.ofInt 64 (b:Int)).toNat:Int)=_;rw[h];exact zcZ (qbc (n:=64) ha hb)
def diff(a b:Nat):Nat:=(BitVec.ofNat 64 a &&& ~~~ BitVec.ofNat 64 b).toNat
theorem zjg(a b:Nat):diff a b<18446744073709551616:=(BitVec.ofNat 64 a &&& ~~~ BitVec.ofNat 64 b).isLt
theorem zCD(a b:Nat):zyt .u64 (a:Int) (b:Int)=((diff a b:Nat):Int):=by
 show IntKind.u64.wrap ((BitVec.ofInt 64 (a:Int) &&& ~~~ BitVec.ofInt 64 (b:Int)).toNat:Int)=_;rw[qc7,qc7];exact zcZ (zjg a b)
variable{i:Nat}
theorem zgN(ha:a<18446744073709551616)(hb:b<18446744073709551616):(diff a b).testBit i=(a.testBit i && !b.testBit i):=by
 unfold diff;rw[BitVec.testBit_toNat,BitVec.getLsbD_and,BitVec.getLsbD_not,BitVec.getLsbD_ofNat,BitVec.getLsbD_ofNat];by_cases hi:i<64
 .simp[hi]
 have:a.testBit i=false:=Nat.testBit_lt_two_pow (qbE ha (qbV (n:=2) (by decide) (show 64<=i by omega)));simp[hi,this]
variable{v:Nat}
theorem zoy(hv:v<64):zjl .u64 1 (v:Int)=some ((2 ^ v:Nat):Int):=by
 unfold zjl;rw[if_pos (by omega)];congr 1
 have h1:min (v:Int).toNat IntKind.u64.bits=v:=by
  rw[show IntKind.u64.bits=64 from rfl,qaG]; exact qb6 (by omega)
 rw[h1,Int.one_mul];have h2:((2:Int) ^ v)=((2 ^ v:Nat):Int):=by simp
 rw[h2];exact zcZ (qa0 (by decide) hv)
theorem zFO(hv:v<64):zl6 .u64 (a:Int) (v:Int)=some ((a >>> v:Nat):Int):=by
 unfold zl6;rw[if_pos (by omega)];congr 1
 have h1:min (v:Int).toNat IntKind.u64.bits=v:=by
  rw[show IntKind.u64.bits=64 from rfl,qaG]; exact qb6 (by omega)
 rw[h1,qc9];have h2:((2:Int) ^ v)=((2 ^ v:Nat):Int):=by simp
 rw[h2,Int.fdiv_eq_ediv_of_nonneg _ (qbL _)];rfl
theorem zEO(a v:Nat):((a >>> v) &&& 1)=(a.testBit v).toNat:=by
 rw[Nat.and_one_is_mod,Nat.testBit_eq_decide_div_mod_eq,qc9];have h:=Nat.mod_two_eq_zero_or_one (a / 2 ^ v);rcases h with h | h<;>simp[h]
theorem zzM(ha:a<18446744073709551616)(hv:v<64):∃ q:Int,zl6 .u64 (a:Int) (v:Int)=some q/\zkd .u64 q 1=((a.testBit v).toNat:Int):=by
 refine⟨_,zFO hv,?_⟩;rw[show(1:Int)=((1:Nat):Int)from rfl,zEb (qb7 (by rw[qc9]; exact Nat.div_le_self _ _) ha) (by decide),zEO]
variable {α:Type}
theorem zv2{xs:List α}:zaz xs (i:Int)=xs[i]?:=by
 unfold zaz;rw[if_pos (qbL i),qaG]
theorem zay{xs:List α}(h:i<xs.length):zaz xs (i:Int)=some (xs[i]'h):=by
 rw[zv2,qac h]
theorem zfd{xs:List α}{v:α}(h:i<xs.length):zeU xs (i:Int) v=some (xs.set i v):=by
 unfold zeU;rw[if_pos (by omega),qaG]
theorem zdt{xs ys:List α}(h:(xs.length+ys.length)* b<=70368744177664):zd1 b xs ys=some (xs ++ ys):=by
 unfold zd1;rw[if_pos (by simp only[zac]; omega)]
theorem zdh{z:α}(h:n * b<=70368744177664):zem b (n:Int) z=some (List.replicate n z):=by
 have h2:(n:Int)* (b:Int)<=zac:=by
  rw[<- qbo]; simp only[zac]; omega
 unfold zem;rw[if_pos ⟨qbL n,h2⟩,qaG]
theorem zir{xs:List α}(h:xs.length * b<=70368744177664):zfW b xs=some xs:=by
 unfold zfW;rw[if_pos (by simp only[zac]; omega)]
theorem zam:decide ((i:Int)<(n:Int))=decide (i<n):=by simp
theorem zaq(n:Nat):((n:Int) - 0+2).toNat=n+2:=by omega
theorem zse{p0:S_api_Net}(hl:p0.nodes.length<=8):∀(n i:Nat) (acc:List Int),i<=p0.nodes.length->acc.length<=i->p0.nodes.length - i<n ->
  zc6 p0 n (i:Int) acc=some (acc ++ (p0.nodes.drop i).map (·.zap))
 | 0,_,_,_,_,h=>absurd h (qak _)
 | n+1,i,acc,h1,h2,h3=>by
  unfold zc6;by_cases hi:i<p0.nodes.length
  .rw[zam,qdB hi,qdz,zay hi,qaa,zdt (by simp; omega),qaa,zah (by omega),
    zse hl n (i+1) _ hi (by simp; omega) (by omega),qas hi]
   rw[qa5]; rfl
  rw[zam,qdC hi,qdA,qaY (by omega)];simp
theorem zqC{p0:S_api_Net}(hl:p0.nodes.length<=8):zea p0=some (p0.nodes.map (·.zap)):=by
 unfold zea;rw[zaq];have h:=zse hl (p0.nodes.length+2) 0 [] (qau _) (qap _) (by omega);rw[show((0:Nat):Int)=0 from rfl]at h;rw[h];simp
def Pl(n:Nat)(xs:List Nat):Prop:=∀ x∈xs,x<n
def iL(xs:List Nat):List Int:=xs.map (λx:Nat=>(x:Int))
theorem zak(xs:List Nat):(iL xs).length=xs.length:=by simp[iL]
variable{xs:List Nat}
theorem ztp(h:i<xs.length):(iL xs)[i]'(by rw[zak]; exact h)=((xs[i]:Nat):Int):=by simp[iL]
theorem zbf(h:i<xs.length):zaz (iL xs) (i:Int)=some ((xs[i]:Nat):Int):=by
 rw[zay (by rw[zak]; exact h),ztp h]
theorem zEm{cs:List Int}{ps:List Nat}(hp:Pl cs.length ps)(hl:ps.length<=8):∀(n i:Nat) (acc:List Int),i<=ps.length->acc.length<=i->ps.length - i<n ->
  zeT (iL ps) cs n (i:Int) acc=some (acc ++ (ps.drop i).map λp=>cs.getD p 0)
 | 0,_,_,_,_,h=>absurd h (qak _)
 | n+1,i,acc,h1,h2,h3=>by
  unfold zeT;rw[zak];by_cases hi:i<ps.length
  .have hb:ps[i]<cs.length:=hp _ (qao hi)
   rw[zam,qdB hi,qdz,zbf hi,qaa,zay hb,qaa,zdt (by simp; omega),qaa,zah (by omega),
    zEm hp hl n (i+1) _ hi (by simp; omega) (by omega),qas hi]
   rw[qa5,qaF,show cs.getD ps[i] 0=cs[ps[i]] by simp[hb]]; rfl
  rw[zam,qdC hi,qdA,qaY (by omega)];simp
theorem zBQ{cs:List Int}{ps:List Nat}(hp:Pl cs.length ps)(hl:ps.length<=8):zg9 cs (iL ps)=some (ps.map λp=>cs.getD p 0):=by
 unfold zg9;rw[zak,zaq];have h:=zEm hp hl (ps.length+2) 0 [] (qau _) (qap _) (by omega);rw[show((0:Nat):Int)=0 from rfl]at h;rw[h];simp
def zab(xs:List Nat):Nat:=xs.foldr (· * ·) 1
theorem zdQ{xs:List Nat}(h:∀ x∈xs,1<=x):1<=zab xs:=by
 induction xs with
 | nil=>exact qap 1
 | cons x xs ih=>exact qbG (h x qam) (ih λy hy=>h y (qai _ hy))
theorem zxU{cs:List Nat}(hc:∀ x∈cs,1<=x)(hl:cs.length<=8):∀(n i a:Nat),i<=cs.length->a * zab (cs.drop i)<=65536->cs.length - i<n ->
  zdv (iL cs) n (a:Int) (i:Int)=some ((a * zab (cs.drop i):Nat):Int)
 | 0,_,_,_,_,h=>absurd h (qak _)
 | n+1,i,a,h1,h2,h3=>by
  unfold zdv;rw[zak];by_cases hi:i<cs.length
  .have e:cs.drop i=cs[i]:: cs.drop (i+1):=qas hi;have e2:a * zab (cs.drop i)=a * cs[i] * zab (cs.drop (i+1)):=by rw[e]; exact(qbd _ _ _).symm
   rw[e2]at h2;have hq:1<=zab (cs.drop (i+1)):=zdQ λx hx=>hc x (qcC hx)
   have hle:a * cs[i]<=65536:=qaq (qa6 _ hq) h2
   rw[zam,qdB hi,qdz,zbf hi,qaa,zah (by omega),show((a:Int)* ((cs[i]:Nat):Int))=((a * cs[i]:Nat):Int) by simp,
    zaJ (by omega),zxU hc hl n (i+1) _ hi h2 (by omega),e2]
  rw[zam,qdC hi,qdA,qaY (by omega)];simp[zab]
theorem zt8{cs:List Nat}(hc:∀ x∈cs,1<=x)(hl:cs.length<=8)(hp:zab cs<=65536):zd9 (iL cs)=some ((zab cs:Nat):Int):=by
 unfold zd9;rw[zak,zaq];have h:=zxU hc hl (cs.length+2) 0 1 (qau _) (by simpa using hp) (by omega);rw[show((0:Nat):Int)=0 from rfl,show((1:Nat):Int)=1 from rfl]at h;rw[h];simp
theorem zAi(h:i<n):decide ((i:Int)<(n:Int))=true:=qdB (by omega)
theorem zAm(n:Nat):decide ((n:Int)<(n:Int))=false:=qdC (by omega)
abbrev zdW:Nat:=4611686018427387903
def zgh:Nat->List Int->Bool
 | _,[]=>true
 | a,c :: cs=>decide (1<=c) && decide (c<=8) && decide (a * c.toNat<=4096) && zgh (a * c.toNat) cs
theorem zj8:∀ {cs:List Int} {a:Nat},zgh a cs=true->∃ ns:List Nat,cs=iL ns/\(∀ c∈ns,1<=c/\c<=8)/\(a<=4096->a * zab ns<=4096)
 | [],a,_=>⟨[],rfl,by simp,λh=>by simpa [zab]using h⟩
 | c :: cs,a,h=>by
  simp only[zgh,qag,decide_eq_true_eq]at h;obtain⟨⟨⟨h1,h2⟩,h3⟩,h4⟩:=h;obtain⟨ns,e,g1,g2⟩:=zj8 h4;refine⟨c.toNat :: ns,?_,?_,λ_=>?_⟩
  .rw[e]; simp[iL]; omega
  .intro d hd;rcases qax.1 hd with rfl | hd
   .omega
   exact g1 d hd
  have:=g2 h3;show a * (c.toNat * zab ns)<=4096;rw[<- qbd]; exact this
theorem zhl:∀ {ns:List Nat} {a:Nat},(∀ c∈ns,1<=c/\c<=8)->a * zab ns<=4096->zgh a (iL ns)=true
 | [],a,_,_=>rfl
 | n :: ns,a,h,hp=>by
  have h1:=h n qam;have hp':a * n * zab ns<=4096:=by rw[qbd]; exact hp
  have hpos:1<=zab ns:=zdQ λx hx=>(h x (qai _ hx)).1
  have hle:a * n<=4096:=qaq (qa6 _ hpos) hp';show(decide ((1:Int)<=(n:Int)) && decide ((n:Int)<=8) && decide (a * (n:Int).toNat<=4096) && zgh (a * (n:Int).toNat) (iL ns))=true;rw[qaG,zhl (λc hc=>h c (qai _ hc)) hp',qdB (by omega),qdB (by omega),qdB hle];rfl
def zif:List Int->Nat
 | []=>1
 | c :: cs=>c.toNat * zif cs
theorem znH(ns:List Nat):zif (iL ns)=zab ns:=by
 induction ns with
 | nil=>rfl
 | cons n ns ih=>show(n:Int).toNat * zif (iL ns)=n * zab ns; rw[ih,qaG]
theorem zpx(cs:List Int)(hl:cs.length<=12):∀(n i:Nat) (a:Nat),a<=4096->i<=cs.length->cs.length - i<n->zdI cs n ((a:Nat):Int) (i:Int)=some (bif zgh a (cs.drop i)then(((a * zif (cs.drop i):Nat):Int),true)else(0,false))
 | 0,_,_,_,_,h=>absurd h (qak _)
 | n+1,i,a,ha,hi,hn=>by
  unfold zdI;rcases qbh i cs.length with h3 | h3
  .rw[zAi h3,qdz,zay h3,qaa,qas h3];generalize cs[i]=c;simp only[zgh,zif];by_cases h1:c<1
   .rw[qdB h1,qdz,qaa,qdz,qdC (show ¬ 1<=c by omega)];rfl
   rw[qdC h1,qdA,qdB (show 1<=c by omega)];by_cases h2:8<c
   .rw[qdB h2,qdz,qaa,qdz,qdC (show ¬ c<=8 by omega)];rfl
   rw[qdC h2,qdA,qdB (show c<=8 by omega)];obtain⟨m,rfl⟩:∃ m:Nat,c=(m:Int):=⟨c.toNat,by omega⟩;have hb:a * m<=4096 * 8:=qbG ha (by omega);rw[<- qbo,zaJ (by omega),qaa,qaG];by_cases h4:a * m<=4096
   .rw[show decide ((4096:Int)<((a * m:Nat):Int))=false from qdC (by omega),qdA,zah (by omega),zpx cs hl n (i+1) (a * m) h4 h3 (by omega),qdB h4,qbd];rfl
   rw[show decide ((4096:Int)<((a * m:Nat):Int))=true from qdB (by omega),qdz,qdC h4];rfl
  obtain rfl:i=cs.length:=by omega
  rw[zAm,qdA,qcm];simp[zgh,zif]
def zcs(cs:List Int):Bool:=decide (cs.length<=12) && zgh 1 cs
theorem zAQ(cs:List Int):zfN cs=some (bif zcs cs then(((zif cs:Nat):Int),0)else(0,20)):=by
 unfold zfN zg4 zcs;by_cases hl:cs.length<=12
 .rw[show decide ((12:Int)<(cs.length:Int))=false from qdC (by omega),qdA,zaq];have:=zpx cs hl (cs.length+2) 0 1 (by omega) (qau _) (by omega);rw[show((1:Nat):Int)=1 from rfl,show((0:Nat):Int)=0 from rfl,qa9,qbl]at this;rw[this,qdB hl,qbS];cases zgh 1 cs<;>rfl
 rw[show decide ((12:Int)<(cs.length:Int))=true from qdB (by omega),qdz,qdC hl];rfl
def zy2:Int->List Int->Bool
 | _,[]=>true
 | l,v :: vs=>decide (l<v) && decide (v<=63) && zy2 v vs
def zyj:List Int->Bool
 | []=>true
 | w :: ws=>decide (0<=w) && decide (w<=4611686018427387903) && zyj ws
def zCQ(x:S_api_Factor):Bool:=zcs x.zaK && decide (x.vars.length=x.zaK.length) && decide (x.w.length=zif x.zaK) && zy2 (-1) x.vars && zyj x.w
def zaB:List Nat->List Nat
 | []=>[]
 | _ :: cs=>zab cs :: zaB cs
theorem zf2(cs:List Nat):(zaB cs).length=cs.length:=by induction cs with | nil=>rfl | cons c cs ih=>simp[zaB,ih]
abbrev noT:S_factor_table×Int:=(⟨⟨[],[],[]⟩,[]⟩,30)
theorem zpH(x:S_api_Factor)(hl:x.vars.length<=12):∀(n i:Nat) (l:Int),i<=x.vars.length->x.vars.length - i<n->zdL x n l (i:Int)=some (bif zy2 l (x.vars.drop i)then .go ()else .ret noT)
 | 0,_,_,_,h=>absurd h (qak _)
 | n+1,i,l,hi,hn=>by
  unfold zdL;rcases qbh i x.vars.length with h3 | h3
  .rw[zAi h3,qdz,zay h3,qaa,qas h3];generalize x.vars[i]=v;simp only[zy2];by_cases h1:v<=l
   .rw[qdB h1,qdz,qaa,qdz,qdC (show ¬ l<v by omega)];rfl
   rw[qdC h1,qdA,qaa,qdB (show l<v by omega)];by_cases h2:63<v
   .rw[qdB h2,qdz,qdC (show ¬ v<=63 by omega)];rfl
   rw[qdC h2,qdA,qdB (show v<=63 by omega),zah (by omega),zpH x hl n (i+1) v h3 (by omega)];rfl
  obtain rfl:i=x.vars.length:=by omega
  rw[zAm,qdA,qcm];rfl
theorem zpM(x:S_api_Factor)(hl:x.w.length<=4096):∀(n i:Nat),i<=x.w.length->x.w.length - i<n->zdE x n (i:Int)=some (bif zyj (x.w.drop i)then .go ()else .ret noT)
 | 0,_,_,h=>absurd h (qak _)
 | n+1,i,hi,hn=>by
  unfold zdE;rcases qbh i x.w.length with h3 | h3
  .rw[zAi h3,qdz,zay h3,qaa,qas h3];generalize x.w[i]=v;simp only[zyj];by_cases h1:v<0
   .rw[qdB h1,qdz,qaa,qdz,qdC (show ¬ 0<=v by omega)];rfl
   rw[qdC h1,qdA,qaa,qdB (show 0<=v by omega)];by_cases h2:4611686018427387903<v
   .rw[qdB h2,qdz,qdC (show ¬ v<=4611686018427387903 by omega)];rfl
   rw[qdC h2,qdA,qdB (show v<=4611686018427387903 by omega),zah (by omega),zpM x hl n (i+1) h3 (by omega)];rfl
  obtain rfl:i=x.w.length:=by omega
  rw[zAm,qdA,qcm];rfl
theorem zhy{ns:List Nat}(h:∀ c∈ns,1<=c):∀ k,zab (ns.drop k)<=zab ns:=by
 induction ns with
 | nil=>intro k; simp
 | cons n ns ih=>
  intro k;cases k with
  | zero=>exact qap _
  | succ k=>
   have h1:=ih (λc hc=>h c (qai _ hc)) k;have h2:=h n qam;show zab (ns.drop k)<=n * zab ns;exact qaq h1 (qcR _ h2)
theorem zui(a b:List Nat):iL (a ++ b)=iL a ++ iL b:=by simp[iL]
theorem zh2(k:Nat):iL (List.replicate k 0)=List.replicate k 0:=by simp[iL]
theorem zlK(x:S_api_Factor){ns:List Nat}(hx:x.zaK=iL ns)(hc:∀ c∈ns,1<=c)(hp:zab ns<=4096)(hl:ns.length<=12):∀(k n:Nat),k<=ns.length->k<n ->
  zcT x n ((zab (ns.drop k):Nat):Int) ((k:Int) - 1) (iL (List.replicate k 0 ++ zaB (ns.drop k)))=some (iL (zaB ns))
 | k,0,_,h=>absurd h (qak _)
 | 0,n+1,_,_=>by
  unfold zcT;rw[show decide ((0:Int)<=((0:Nat):Int) - 1)=false from rfl,qdA];rfl
 | k+1,n+1,hk,hn=>by
  have ih:=zlK x hx hc hp hl k n (by omega) (by omega);have hk':k<ns.length:=hk;unfold zcT;have e:(((k+1:Nat):Int) - 1)=(k:Int):=by omega
  have hlen:k<(iL (List.replicate (k+1) 0 ++ zaB (ns.drop (k+1)))).length:=by rw[zak]; simp; omega
  rw[e,show decide ((0:Int)<=(k:Int))=true from qdB (by omega),qdz,zay hlen,qaa,zfd hlen,qaa,hx,zbf hk',qaa];have hd:ns.drop k=ns[k]:: ns.drop (k+1):=qas hk';have h1:(iL (List.replicate (k+1) 0 ++ zaB (ns.drop (k+1)))).set k ((zab (ns.drop (k+1)):Nat):Int)=iL (List.replicate k 0 ++ zaB (ns.drop k)):=by
   rw[hd,zui,zui,zh2,zh2,List.replicate_succ',qa5,List.set_append_right _ _ (by simp)];simp[zaB,iL]
  have h2:((zab (ns.drop (k+1)):Nat):Int)* ((ns[k]:Nat):Int)=((zab (ns.drop k):Nat):Int):=by
   rw[hd,<- qbo,qaX]; rfl
  have h3:=zhy hc k;rw[h1,h2,zaJ (by omega),zfk (by omega) (by omega)];exact ih
def zu8(xs:List Int):List Nat:=xs.map Int.toNat
theorem zhj(ns:List Nat):zu8 (iL ns)=ns:=by
 induction ns with
 | nil=>rfl
 | cons n ns ih=>show(n:Int).toNat :: zu8 (iL ns)=n :: ns; rw[ih,qaG]
theorem ziP{cs:List Int}(h:zcs cs=true):∃ ns:List Nat,cs=iL ns/\(∀ c∈ns,1<=c/\c<=8)/\zab ns<=4096/\ns.length<=12:=by
 unfold zcs at h;simp only[qag,decide_eq_true_eq]at h;obtain⟨ns,rfl,h1,h2⟩:=zj8 h.2;exact⟨ns,rfl,h1,by have:=h2 (by omega); omega,by have:=h.1; rw[zak]at this; exact this⟩
theorem zAK(x:S_api_Factor):zdj x=some (bif zCQ x then(⟨x,iL (zaB (zu8 x.zaK))⟩,0)else noT):=by
 unfold zdj zCQ;rw[zAQ,qaa];cases hc:zcs x.zaK with
 | false=>
  rw[qdA];rfl
 | true=>
  obtain⟨ns,hx,h1,h2,h3⟩:=ziP hc;rw[qdz,show(((((zif x.zaK:Nat):Int),(0:Int)).2 == 0))=true from rfl,qdz,qbS];by_cases hv:x.vars.length=x.zaK.length
  .rw[show(((x.vars.length:Nat):Int)==((x.zaK.length:Nat):Int))=true by rw[hv]; exact qdD _,qdz,qaa,qdB hv,qbS];by_cases hw:x.w.length=zif x.zaK
   .have hw':x.w.length<=4096:=by rw[hw,hx,znH]; exact h2
    have hl:x.vars.length<=12:=by rw[hv,hx,zak]; exact h3
    rw[show(!(((x.w.length:Nat):Int)==((zif x.zaK:Nat):Int)))=false by rw[hw,qdD]; rfl,qdA,qdB hw,qbS,zaq,zaq];have e1:=zpH x hl (x.vars.length+2) 0 (-1) (qau _) (by omega);have e2:=zpM x hw' (x.w.length+2) 0 (qau _) (by omega);rw[show((0:Nat):Int)=0 from rfl,qa9]at e1 e2;rw[e1,qaa];cases zy2 (-1) x.vars with
    | false=>rfl
    | true=>
     rw[qdz,qbS];simp only;rw[e2,qaa];cases zyj x.w with
     | false=>rfl
     | true=>
      rw[qdz];simp only;have hlen:x.zaK.length=ns.length:=by rw[hx,zak]
      have e3:=zlK x hx (λc hc=>(h1 c hc).1) h2 h3 ns.length (ns.length+1+1) (qap _) (by omega);rw[qcm]at e3;rw[zdh (by omega),qaa,qaG,hlen,zfk (by omega) (by omega),show((ns.length:Int) - 1 - 0+2).toNat=ns.length+1 by omega];have e4:=zlK x hx (λc hc=>(h1 c hc).1) h2 h3 ns.length (ns.length+1) (qap _) (by omega);rw[qcm]at e4;rw[show iL (List.replicate ns.length 0 ++ zaB [])=List.replicate ns.length 0 by simp[zaB,iL],show((zab []:Nat):Int)=1 from rfl]at e4;rw[e4,qaa,qdz,hx,zhj]
   rw[show(!(((x.w.length:Nat):Int)==((zif x.zaK:Nat):Int)))=true by rw[qbC]; exact qdI (by omega),qdz,qdC hw];rfl
  rw[show(((x.vars.length:Nat):Int)==((x.zaK.length:Nat):Int))=false from qdI (by omega),qdA,qaa,qdz,qdC hv];rfl
structure Fc where
 vs:List Nat
 cs:List Nat
 ws:List Nat
def Fc.D(f:Fc):S_api_Factor:=⟨iL f.vs,iL f.cs,iL f.ws⟩
structure FcOk (f:Fc):Prop where
 len:f.vs.length=f.cs.length
 le:f.cs.length<=12
 zap:∀ c∈f.cs,1<=c/\c<=8
 prod:zab f.cs<=4096
 size:f.ws.length=zab f.cs
 inc:f.vs.Pairwise (· < ·)
 var:∀ v∈f.vs,v<64
 num:∀ w∈f.ws,w<=zdW
theorem zuC:∀ {ns:List Nat} {l:Int},ns.Pairwise (· < ·)->(∀ v∈ns,v<64/\l<(v:Int))->zy2 l (iL ns)=true
 | [],_,_,_=>rfl
 | n :: ns,l,h1,h2=>by
  have h3:=h2 n qam;obtain⟨h4,h5⟩:=qbp.1 h1;show(decide (l<(n:Int)) && decide ((n:Int)<=63) && zy2 (n:Int) (iL ns))=true;rw[qdB h3.2,qdB (by omega),zuC h5 λv hv=>⟨(h2 v (qai _ hv)).1,by have:=h4 v hv; omega⟩];rfl
theorem zvk:∀ {ns:List Nat},(∀ w∈ns,w<=zdW)->zyj (iL ns)=true
 | [],_=>rfl
 | n :: ns,h=>by
  have h1:n<=4611686018427387903:=h n qam;show(decide (0<=(n:Int)) && decide ((n:Int)<=4611686018427387903) && zyj (iL ns))=true;rw[qdB (by omega),qdB (by omega),zvk λw hw=>h w (qai _ hw)];rfl
variable{f:Fc}
theorem zyo(h:FcOk f):zCQ f.D=true:=by
 unfold zCQ Fc.D zcs;simp only[zak];rw[qdB h.le,zhl h.zap (by have:=h.prod; omega),qdB h.len,qdB (by rw[znH]; exact h.size),zuC h.inc λv hv=>⟨h.var v hv,by omega⟩,zvk h.num];rfl
def Fc.T(f:Fc):S_factor_table:=⟨f.D,iL (zaB f.cs)⟩
theorem zpN(h:FcOk f):zdj f.D=some (f.T,0):=by
 rw[zAK,zyo h,qdz,show f.D.zaK=iL f.cs from rfl,zhj];rfl
def zob:List Int->Int->Option Nat
 | [],_=>none
 | x :: xs,v=>bif x == v then some 0 else(zob xs v).map (· + 1)
def ixZ:Option Nat->Int
 | none=>-1
 | some k=>(k:Int)
theorem zmo:∀ {xs:List Int} {v:Int} {k:Nat},zob xs v=some k->∃ h:k<xs.length,xs[k]=v
 | x :: xs,v,k,h=>by
  unfold zob at h;cases hb:(x == v)with
  | true=>
   rw[hb,qdz]at h;cases h;exact⟨by simp,by simpa using hb⟩
  | false=>
   rw[hb,qdA]at h;cases hp:zob xs v with
   | none=>rw[hp]at h; cases h
   | some j=>
    rw[hp]at h;cases h;obtain⟨g1,g2⟩:=zmo hp;exact⟨by simp; omega,by simpa using g2⟩
theorem znz:∀ {xs:List Int} {v:Int},zob xs v=none->v ∉ xs
 | [],v,_=>by simp
 | x :: xs,v,h=>by
  unfold zob at h;cases hb:(x == v)with
  | true=>rw[hb,qdz]at h; cases h
  | false=>
   rw[hb,qdA]at h;have h1:zob xs v=none:=by
    cases hp:zob xs v with
    | none=>rfl
    | some j=>rw[hp]at h; cases h
   have h2:x≠v:=by simpa using hb
   intro hm;rcases qax.1 hm with rfl | hm
   .exact h2 rfl
   exact znz h1 hm
theorem zqk(xs:List Int)(v:Int)(hl:xs.length<4611686018427387904):∀(n i:Nat),i<=xs.length->xs.length - i<n->zbq xs v n (i:Int)=some (match zob (xs.drop i) v with | none=>.go ()| some k=>.ret ((i+k:Nat):Int))
 | 0,_,_,h=>absurd h (qak _)
 | n+1,i,hi,hn=>by
  unfold zbq;rcases qbh i xs.length with h3 | h3
  .rw[zAi h3,qdz,zay h3,qaa,qas h3];generalize xs[i]=x;unfold zob;by_cases h:v=x
   .subst h;rw[qdD,qdz,qdz];rfl
   rw[show(v == x)=false from qdI h,show(x == v)=false from qdI (λe=>h e.symm),qdA,qdA,zah (by omega),zqk xs v hl n (i+1) h3 (by omega)];cases zob (xs.drop (i+1)) v with
   | none=>rfl
   | some k=>
    simp only[qaU];rw[show i+1+k=i+(k+1) by omega]
  obtain rfl:i=xs.length:=by omega
  rw[zAm,qdA,qcm];rfl
theorem zzC{xs:List Int}(hl:xs.length<4611686018427387904)(v:Int):zcl xs v=some (ixZ (zob xs v)):=by
 unfold zcl;have h:=zqk xs v hl (xs.length+2) 0 (qau _) (by omega);rw[show((0:Nat):Int)=0 from rfl,qa9]at h;rw[zaq,h,qaa];cases zob xs v with
 | none=>rfl
 | some k=>simp only[qaR]; rfl
theorem FcOk.vl(h:FcOk f):(iL f.vs).length<4611686018427387904:=by rw[zak,h.len]; have:=h.le; omega
theorem znZ(h:FcOk f)(v:Int):zaZ f.T v=some (ixZ (zob (iL f.vs) v)):=by
 unfold zaZ;rw[show f.T.factor.vars=iL f.vs from rfl,zzC h.vl,qaa]
theorem zBz(o:Option Nat):decide ((0:Int)<=ixZ o)=o.isSome:=by
 cases o with
 | none=>rfl
 | some k=>exact qdB (qbL k)
def pos:List Nat->Nat->Option Nat
 | [],_=>none
 | x :: xs,v=>bif x == v then some 0 else(pos xs v).map (· + 1)
theorem zey:∀(xs:List Nat) (v:Nat),zob (iL xs) (v:Int)=pos xs v
 | [],v=>rfl
 | x :: xs,v=>by
  show(bif ((x:Int)==(v:Int))then some 0 else(zob (iL xs) (v:Int)).map (· + 1))=pos (x :: xs) v;rw[zey xs v];show _=(bif x == v then some 0 else(pos xs v).map (· + 1));cases hb:(x == v)with
  | true=>
   have:x=v:=by simpa using hb
   subst this;rw[qdD]
  | false=>
   have h1:x≠v:=by simpa using hb
   have h2:((x:Int)==(v:Int))=false:=qdI (by omega);rw[h2]
theorem zdm{xs:List Nat}{k:Nat}(h:pos xs v=some k):∃ hk:k<xs.length,xs[k]=v:=by
 rw[<- zey]at h;obtain⟨h1,h2⟩:=zmo h;rw[zak]at h1;refine⟨h1,?_⟩;rw[ztp h1]at h2;omega
theorem zww(h:pos xs v=none):v ∉ xs:=by
 rw[<- zey]at h;have:=znz h;intro hm;exact this (qaz.2 ⟨v,hm,rfl⟩)
theorem zl5(h:v∈xs):∃ k,pos xs v=some k:=by
 cases hp:pos xs v with
 | none=>exact absurd h (zww hp)
 | some k=>exact⟨k,rfl⟩
theorem zgt(h:i<xs.length):zaz (iL xs) (i:Int)=some ((xs.getD i 0:Nat):Int):=by
 rw[zbf h]; simp[List.getD,h]
theorem zyY(a b:Nat):((a:Int)==(b:Int))=(a == b):=by
 rw[qb8,qdH,qdH];exact Int.ofNat_inj
def dig:List Nat->Nat->List Nat
 | [],_=>[]
 | _ :: cs,i=>i / zab cs :: dig cs (i % zab cs)
theorem zfc:∀(cs:List Nat) (i:Nat),(dig cs i).length=cs.length
 | [],_=>rfl
 | _ :: cs,i=>by simp[dig,zfc cs]
def dot:List Nat->List Nat->Nat
 | x :: xs,s :: ss=>x * s+dot xs ss
 | _,_=>0
theorem zk6:∀ {xs ss:List Nat} (ys ts:List Nat),xs.length=ss.length->dot (xs ++ ys) (ss ++ ts)=dot xs ss+dot ys ts
 | [],[],ys,ts,_=>by simp[dot]
 | x :: xs,s :: ss,ys,ts,h=>by
  simp only[qbq,dot];rw[zk6 ys ts (by simpa using h)]; omega
 | [],_ :: _,_,_,h=>by simp at h
 | _ :: _,[],_,_,h=>by simp at h
theorem zoj(x s:Nat):dot [x] [s]=x * s:=by simp[dot]
def zcP:List Nat->List Nat->Prop
 | [],[]=>True
 | c :: cs,x :: xs=>x<c/\c<=8/\zcP cs xs
 | _,_=>False
theorem zcP.len:∀ {cs xs:List Nat},zcP cs xs->xs.length=cs.length
 | [],[],_=>rfl
 | c :: cs,x :: xs,h=>by simp[h.2.2.len]
theorem zcP.snoc:∀ {cs xs:List Nat} {c x:Nat},zcP (cs ++ [c]) (xs ++ [x])->xs.length=cs.length->zcP cs xs/\x<c/\c<=8
 | [],[],c,x,h,_=>⟨qdy,h.1,h.2.1⟩
 | c :: cs,x :: xs,_,_,h,hl=>by
  obtain⟨h1,h2,h3⟩:=h;obtain⟨g1,g2⟩:=h3.snoc (by simpa using hl);exact⟨⟨h1,h2,g1⟩,g2⟩
theorem zb1{cs:List Nat}(h:∀ c∈cs,1<=c/\c<=8):0<zab cs:=zdQ λc hc=>(h c hc).1
theorem zgO:∀ {cs:List Nat} {i:Nat},(∀ c∈cs,1<=c/\c<=8)->i<zab cs->zcP cs (dig cs i)
 | [],_,_,_=>trivial
 | c :: cs,i,h,hi=>by
  have hc:=h c qam;have hp:=zb1 λd hd=>h d (qai c hd)
  refine⟨?_,hc.2,zgO (λd hd=>h d (qai c hd)) (qbk _ hp)⟩;have h1:i<c * zab cs:=hi;exact qbW (by rw[qaX]; exact h1)
theorem zxn:∀ {cs xs ss:List Nat},zcP cs xs->(∀ s∈ss,s<=4096)->dot xs ss<=cs.length * 32768
 | [],[],_,_,_=>by simp[dot]
 | c :: cs,x :: xs,[],_,_=>by simp[dot]
 | c :: cs,x :: xs,s :: ss,h,hs=>by
  have h1:=zxn h.2.2 λt ht=>hs t (qai _ ht)
  have h2:=hs s qam;have h3:x * s<=8 * 4096:=qbG (by have:=h.1; have:=h.2.1; omega) h2;simp only[dot,qaP];omega
def nxt:List Nat->List Nat->Option (List Nat)
 | c :: cs,v :: vs=>match nxt cs vs with
  | some vs'=>some (v :: vs')
  | none=>if v+1<c then some ((v+1):: List.replicate vs.length 0)else none
 | _,_=>none
theorem ziD:∀ {cs vs:List Nat} {c v:Nat},vs.length=cs.length->v+1<c->nxt (cs ++ [c]) (vs ++ [v])=some (vs ++ [v+1])
 | [],[],c,v,_,h=>by simp[nxt,h]
 | d :: cs,u :: vs,c,v,hl,h=>by
  simp only[qbq,nxt,ziD (show vs.length=cs.length by simpa using hl) h]
theorem zh7:∀ {cs vs:List Nat} {c v:Nat},vs.length=cs.length->¬ v+1<c->nxt (cs ++ [c]) (vs ++ [v])=(nxt cs vs).map (· ++ [0])
 | [],[],c,v,_,h=>by simp[nxt,h]
 | d :: cs,u :: vs,c,v,hl,h=>by
  simp only[qbq,nxt,zh7 (show vs.length=cs.length by simpa using hl) h];cases hn:nxt cs vs with
  | some vs'=>rfl
  | none=>
   simp only[qdv];by_cases hu:u+1<d
   .rw[if_pos hu,if_pos hu];simp[List.replicate_succ']
   rw[if_neg hu,if_neg hu]; rfl
theorem zkY:∀(cs:List Nat),dig cs 0=List.replicate cs.length 0
 | []=>rfl
 | c :: cs=>by simp[dig,zkY cs,qa1]
theorem zsR:∀ {cs:List Nat} {i:Nat},(∀ c∈cs,1<=c/\c<=8)->i<zab cs->nxt cs (dig cs i)=if i+1<zab cs then some (dig cs (i+1))else none
 | [],i,_,hi=>by
  have:i=0:=by simpa [zab]using hi
  subst this;simp[nxt,zab]
 | c :: cs,i,h,hi=>by
  have hp:=zb1 λd hd=>h d (qai c hd)
  have hm:=qbk i hp;have ih:=zsR (λd hd=>h d (qai c hd)) hm;have hi':i<c * zab cs:=hi;simp only[dig,nxt,ih];have hdm:=qch i (zab cs);generalize hq:i / zab cs=q at *;generalize hr:i % zab cs=r at *;have hprod:zab (c :: cs)=c * zab cs:=rfl;by_cases h1:r+1<zab cs
  .rw[if_pos h1];have e1:(i+1) / zab cs=q:=by
    rw[<- hdm,qby,Nat.mul_add_div hp,qcc h1,qbH]
   have e2:(i+1) % zab cs=r+1:=by
    rw[<- hdm,qby,Nat.mul_add_mod,qbm h1]
   have hqc:q<c:=by rw[<- hq]; exact qbW (by rw[qaX]; exact hi')
   have h2:i+1<zab (c :: cs):=by
    rw[hprod];have:(q+1)* zab cs<=c * zab cs:=qav _ hqc;rw[qaN,qbl,qaX q]at this;omega
   rw[if_pos h2,e1,e2]
  rw[if_neg h1];have hr1:r+1=zab cs:=by omega
  have hi1:i+1=zab cs * (q+1):=by rw[Nat.mul_add,qde]; omega
  simp only;have h4:(q+1<c)↔(i+1<zab (c :: cs)):=by
   rw[hprod,hi1,qaX c];exact(Nat.mul_lt_mul_left hp).symm
  by_cases h5:q+1<c
  .rw[if_pos h5,if_pos (h4.1 h5),hi1,Nat.mul_div_cancel_left _ hp,Nat.mul_mod_right,zkY,zfc]
  rw[if_neg h5,if_neg (λh=>h5 (h4.2 h))]
variable{ys:List Nat}{k:Nat}
theorem zeA{x:Nat}(h:xs.length=k):zaz (iL (xs ++ x :: ys)) (k:Int)=some (x:Int):=by
 subst h;rw[zbf (by simp)];simp
theorem zgV{x y:Nat}(h:xs.length=k):zeU (iL (xs ++ x :: ys)) (k:Int) (y:Int)=some (iL (xs ++ y :: ys)):=by
 subst h;rw[zfd (by rw[zak]; simp)];simp[iL]
theorem zoO(h:xs.length=k+1):∃ ys y,xs=ys ++ [y]/\ys.length=k:=by
 have hne:xs≠[]:=by rintro rfl; simp at h
 exact⟨xs.dropLast,xs.getLast hne,(List.dropLast_concat_getLast hne).symm,by simp[h]⟩
theorem zpZ:∀(k:Nat) (xs cx sx cy sy zs:List Nat) (e:Nat),xs.length=k->cx.length=k->sx.length=k->zcP cx xs->(∀ s∈sx,s<=4096)->k<=12->e<=1000000 ->
  ∃ r,zqX (iL (cx ++ cy)) (iL (sx ++ sy)) k (iL (xs ++ zs)) ((dot xs sx+e:Nat):Int)=some r/\match nxt cx xs with
   | none=>r.2.2 = -1
   | some xs'=>∃(j:Nat) (v st:Int),r.2.2=(j:Int)/\zaz r.1 (j:Int)=some v/\zeU r.1 (j:Int) (w64 (v+1))=some (iL (xs' ++ zs))/\zaz (iL (sx ++ sy)) (j:Int)=some st/\w64 (r.2.1+st)=((dot xs' sx+e:Nat):Int)
 | 0,xs,cx,sx,cy,sy,zs,e,hx,hc,hs,_,_,_,_=>by
  obtain rfl:xs=[]:=qcn.1 hx;obtain rfl:cx=[]:=qcn.1 hc;exact⟨_,rfl,rfl⟩
 | k+1,xs,cx,sx,cy,sy,zs,e,hx,hc,hs,hb,hsm,hk,he=>by
  obtain⟨xs,x,rfl,lx⟩:=zoO hx;obtain⟨cx,c,rfl,lc⟩:=zoO hc;obtain⟨sx,s,rfl,ls⟩:=zoO hs;obtain⟨hb1,hb2,hb3⟩:=hb.snoc (lx.trans lc.symm);have hd:=zxn hb1 λt ht=>hsm t (qc8 _ ht)
  have hss:s<=4096:=hsm s (by simp);have hxs:x * s<=8 * 4096:=qbG (by omega) hss;have hlen:cx.length * 32768<=12 * 32768:=qav _ (by omega);simp only[qa5,qbP];unfold zqX;rw[zeA lx,qaa,zeA lc,qaa,zfk (by omega) (by omega)];rw[zk6 [x] [s] (lx.trans ls.symm),zoj];by_cases h1:x+1<c
  .rw[show((x:Int)==(c:Int) - 1)=false from qdI (by omega),qdA,ziD (lx.trans lc.symm) h1];refine⟨_,rfl,k,(x:Int),(s:Int),rfl,zeA lx,?_,zeA ls,?_⟩
   .rw[zah (by omega),zgV lx]; simp
   rw[zk6 [x+1] [s] (lx.trans ls.symm),zoj,<- qcX,zaJ (by omega),qaN];congr 1; omega
  rw[show((x:Int)==(c:Int) - 1)=true by rw[show(x:Int)=(c:Int) - 1 by omega]; exact qdD _,qdz,zeA ls,qaa,show(0:Int)=((0:Nat):Int)from rfl,zgV lx,qaa,<- qbo,
   zaJ (by omega),show(((dot xs sx+x * s+e:Nat):Int) - ((x * s:Nat):Int))=((dot xs sx+e:Nat):Int) by omega,zaJ (by omega),zh7 (lx.trans lc.symm) h1]
  obtain⟨r,h2,h3⟩:=zpZ k xs cx sx (c :: cy) (s :: sy) (0 :: zs) e lx lc ls hb1 (λt ht=>hsm t (qc8 _ ht)) (by omega) he;refine⟨r,h2,?_⟩;cases hn:nxt cx xs with
  | none=>rw[hn]at h3; exact h3
  | some xs'=>
   rw[hn]at h3;obtain⟨j,v,st,g1,g2,g3,g4,g5⟩:=h3;have hl':xs'.length=sx.length:=by
    have:∀ {cs vs ws:List Nat},nxt cs vs=some ws->vs.length=cs.length->ws.length=vs.length:=by
     intro cs;induction cs with
     | nil=>intro vs ws h _; simp[nxt]at h
     | cons d cs ih=>
      intro vs ws h hl;cases vs with
      | nil=>simp[nxt]at h
      | cons u vs=>
       simp only[nxt]at h;cases hq:nxt cs vs with
       | some vs'=>
        rw[hq]at h;cases h;simp[ih hq (by simpa using hl)]
       | none=>
        rw[hq]at h;simp only at h;split at h
        .cases h; simp
        cases h
    rw[this hn (lx.trans lc.symm),lx,ls]
   refine⟨j,v,st,g1,g2,by rw[g3]; simp,g4,?_⟩;rw[g5,zk6 [0] [s] hl',zoj,qcE,qbH]
def zmK(cs ss:List Nat)(i m:Nat):List (Int×Int×List Int):=(List.range' i m).map λj:Nat=>((j:Int),((dot (dig cs j) ss:Nat):Int),iL (dig cs j))
theorem zCe{cs ss:List Nat}(hc:∀ c∈cs,1<=c/\c<=8)(hl:cs.length<=12)(hp:zab cs<=4096)(hs:ss.length=cs.length)(hsm:∀ s∈ss,s<=4096):∀(m i n:Nat),i+(m+1)=zab cs->m<n ->
  zCW (iL cs) (iL ss) n (iL (dig cs i)) (i:Int) ((dot (dig cs i) ss:Nat):Int)=some (zmK cs ss i (m+1))
 | m,i,0,_,h=>absurd h (qak _)
 | m,i,n+1,hi,hn=>by
  have hb:=zgO hc (show i<zab cs by omega);obtain⟨r,h1,h2⟩:=zpZ cs.length (dig cs i) cs ss [] [] [] 0 (zfc _ _) rfl hs hb hsm hl (by omega);simp only[qaQ,qbH]at h1 h2;unfold zCW;rw[zak,h1,qaa];rw[zsR hc (show i<zab cs by omega)]at h2;cases m with
  | zero=>
   rw[if_neg (by omega)]at h2;simp only at h2;rw[h2];rfl
  | succ m=>
   rw[if_pos (by omega)]at h2;simp only at h2;obtain⟨j,v,st,g1,g2,g3,g4,g5⟩:=h2;rw[g1,show decide ((j:Int)<0)=false from qdC (by omega),qdA,g2,qaa,g3,qaa,g4,qaa,g5,zah (by omega),zCe hc hl hp hs hsm m (i+1) n (by omega) (by omega)];rfl
theorem zvo(cs:List Nat):∀ a:Nat,(iL cs).foldl (· * ·) (a:Int)=((a * zab cs:Nat):Int):=by
 induction cs with
 | nil=>intro a; simp[iL,zab]
 | cons c cs ih=>
  intro a;show(iL cs).foldl (· * ·) ((a:Int)* (c:Int))=_;rw[<- qbo,ih,qbd];rfl
theorem zxV{cs ss:List Nat}(hc:∀ c∈cs,1<=c/\c<=8)(hl:cs.length<=12)(hp:zab cs<=4096)(hs:ss.length=cs.length)(hsm:∀ s∈ss,s<=4096):zCH (iL cs) (iL ss)=some (zmK cs ss 0 (zab cs)):=by
 have hpos:=zb1 hc;unfold zCH zgm;rw[if_pos (by rw[zak]; omega),qaa,zak,zdh (by omega),qaa];have h:=zvo cs 1;rw[show((1:Nat):Int)=1 from rfl]at h;rw[h,qbl,qaG];obtain⟨m,hm⟩:∃ m,zab cs=m+1:=⟨zab cs - 1,by omega⟩;have e:=zCe hc hl hp hs hsm m 0 (m+1) (by omega) (by omega);have hz:∀(n:Nat) (ss:List Nat),dot (List.replicate n 0) ss=0:=by
  intro n;induction n with
  | zero=>intro ss; simp[dot]
  | succ n ih=>
   intro ss;cases ss with
   | nil=>simp[qa1,dot]
   | cons s ss=>simp[qa1,dot,ih]
 rw[zkY,hz,zh2]at e;rw[hm];exact e
theorem zE1(k:Nat):decide ((0:Int)<=(k:Int))=true:=qdB (qbL k)
theorem pred_succ(k:Nat):((k+1:Nat):Int) - 1=(k:Int):=by omega
theorem zqo{cs:List Nat}(hc:∀ c∈cs,1<=c)(hp:zab cs<=4096):∀ s∈zaB cs,s<=4096:=by
 induction cs with
 | nil=>intro s hs; cases hs
 | cons c cs ih=>
  have h1:=hc c qam;have h2:zab cs<=4096:=qaq (qcR (zab cs) h1) hp;intro s hs;rcases qax.1 hs with rfl | hs
  .exact h2
  exact ih (λd hd=>hc d (qai _ hd)) h2 s hs
theorem zcP.drop:∀ {cs xs:List Nat} (k:Nat),zcP cs xs->zcP (cs.drop k) (xs.drop k)
 | cs,xs,0,h=>h
 | [],[],k+1,_=>trivial
 | c :: cs,x :: xs,k+1,h=>h.2.2.drop k
theorem zkr:∀ {cs ds:List Nat},zcP cs ds->dot ds (zaB cs)<zab cs
 | [],[],_=>by simp[dot,zab]
 | c :: cs,d :: ds,h=>by
  have h1:=zkr h.2.2;show d * zab cs+dot ds (zaB cs)<c * zab cs;have h2:(d+1)* zab cs<=c * zab cs:=qav _ h.1;rw[qaN,qbl]at h2;omega
theorem zhX:∀ {cs:List Nat} {i:Nat},(∀ c∈cs,1<=c/\c<=8)->i<zab cs->dot (dig cs i) (zaB cs)=i
 | [],i,_,h=>by
  have:i=0:=by simpa [zab]using h
  subst this; rfl
 | c :: cs,i,hc,h=>by
  have hp:=zb1 λd hd=>hc d (qai c hd)
  show i / zab cs * zab cs+dot (dig cs (i % zab cs)) (zaB cs)=i;rw[zhX (λd hd=>hc d (qai c hd)) (qbk _ hp),qaX];exact qch i (zab cs)
theorem zl0:∀ {cs ds:List Nat},zcP cs ds->dig cs (dot ds (zaB cs))=ds
 | [],[],_=>rfl
 | c :: cs,d :: ds,h=>by
  have h1:=zkr h.2.2;have hp:0<zab cs:=by omega
  show((d * zab cs+dot ds (zaB cs)) / zab cs):: dig cs ((d * zab cs+dot ds (zaB cs)) % zab cs)=d :: ds;rw[qaX d,Nat.mul_add_div hp,qcc h1,qbH,Nat.mul_add_mod,qbm h1,zl0 h.2.2]
def stp:List Nat->List Nat->Nat->Nat
 | v :: vs,_ :: cs,u=>bif v == u then zab cs else stp vs cs u
 | _,_,_=>0
def at_:List Nat->List Nat->Nat->Nat
 | v :: vs,d :: ds,u=>bif v == u then d else at_ vs ds u
 | _,_,_=>0
theorem zlj:∀ {vs cs:List Nat} {u:Nat},vs.length=cs.length->stp vs cs u=(match pos vs u with | none=>0 | some k=>(zaB cs).getD k 0)
 | [],_,u,_=>by simp[stp,pos]
 | v :: vs,[],_,h=>by simp at h
 | v :: vs,c :: cs,u,h=>by
  have ih:=zlj (u:=u) (show vs.length=cs.length by simpa using h);unfold stp pos;cases hb:(v == u)with
  | true=>rfl
  | false=>
   rw[qdA,qdA,ih];cases pos vs u with
   | none=>rfl
   | some k=>simp[zaB]
theorem zs5{f:Fc}(hf:FcOk f){vs:List Nat}(hl:vs.length<=100):∀(n i:Nat),i<=vs.length->vs.length - i<n ->
  zbK (iL vs) f.T n (i:Int) (iL ((vs.map (stp f.vs f.cs)).take i ++ List.replicate (vs.length - i) 0))=some (iL (vs.map (stp f.vs f.cs)))
 | 0,_,_,h=>absurd h (qak _)
 | n+1,i,hi,hn=>by
  unfold zbK;rw[zak];rcases qbh i vs.length with h3 | h3
  .have ih:=zs5 hf hl n (i+1) h3 (by omega);have ht:((vs.map (stp f.vs f.cs)).take i).length=i:=by simp; omega
   have e:List.replicate (vs.length - i) 0=0 :: List.replicate (vs.length - (i+1)) 0:=by
    rw[show vs.length - i=(vs.length - (i+1))+1 by omega,qa1]
   have e2:(vs.map (stp f.vs f.cs)).take (i+1)=(vs.map (stp f.vs f.cs)).take i ++ [stp f.vs f.cs vs[i]]:=by
    rw[qcA (by simpa using h3)]; simp
   rw[e2,qa5,qbP]at ih;rw[zAi h3,qdz,zbf h3,qaa,znZ hf,qaa,zey,zBz,e];rw[zlj hf.len]at ih;cases hp:pos f.vs vs[i]with
   | none=>
    rw[hp]at ih;rw[Option.isSome_none,qdA,qaa,zah (by omega)];exact ih
   | some k=>
    rw[hp]at ih;obtain⟨hk,_⟩:=zdm hp;rw[Option.isSome_some,qdz,show ixZ (some k)=(k:Int)from rfl,show f.T.steps=iL (zaB f.cs)from rfl,zgt (by rw[zf2,<- hf.len]; exact hk),qaa,zeA ht,qaa,zgV ht,qaa,qaa,zah (by omega)];exact ih
  obtain rfl:i=vs.length:=by omega
  rw[zAm,qdA,qcb,qdd,qaQ,qaO (by simp)]
variable{vs:List Nat}
theorem zzh(hf:FcOk f)(hl:vs.length<=100):zcQ f.T (iL vs)=some (iL (vs.map (stp f.vs f.cs))):=by
 unfold zcQ;have h:=zs5 hf hl (vs.length+2) 0 (qau _) (by omega);rw[qbt,qbe,qdg,zh2,show((0:Nat):Int)=0 from rfl]at h;rw[zak,zdh (by omega),qaa,zaq,h];rfl
theorem zs3(g h:Nat->Nat):∀(ds vs:List Nat),dot ds (vs.map λv=>g v+h v)=dot ds (vs.map g)+dot ds (vs.map h)
 | [],_=>by simp[dot]
 | d :: ds,[]=>by simp[dot]
 | d :: ds,v :: vs=>by
  simp only[qaF,dot,zs3 g h ds vs,Nat.mul_add];omega
theorem zls:∀(ds vs:List Nat) (g:Nat->Nat),(∀ v∈vs,g v=0)->dot ds (vs.map g)=0
 | [],_,_,_=>by simp[dot]
 | d :: ds,[],_,_=>by simp[dot]
 | d :: ds,v :: vs,g,h=>by
  simp only[qaF,dot,h v qam,Nat.mul_zero,zls ds vs g λu hu=>h u (qai _ hu)]
theorem zud{u p:Nat}:∀ {vs ds:List Nat},vs.Nodup->dot ds (vs.map λv=>bif u == v then p else 0)=at_ vs ds u * p
 | [],ds,_=>by cases ds<;>simp[dot,at_]
 | v :: vs,[],_=>by simp[dot,at_]
 | v :: vs,d :: ds,h=>by
  obtain⟨h1,h2⟩:=qbs.1 h;simp only[qaF,dot,at_];by_cases hb:u=v
  .subst hb;rw[qdD,qdz,qdz,zls ds vs _ (λw hw=>by rw[show(u == w)=false from qdI (λe=>h1 (e ▸ hw))]; rfl),qbH]
  rw[show(u == v)=false from qdI hb,show(v == u)=false from qdI (λe=>hb e.symm),qdA,qdA,zud h2,Nat.mul_zero,qaR]
theorem zvu:∀ {us cs:List Nat} {u:Nat},u ∉ us->stp us cs u=0
 | [],_,_,_=>by simp[stp]
 | v :: us,[],_,_=>by simp[stp]
 | v :: us,c :: cs,u,h=>by
  unfold stp;rw[show(v == u)=false from qdI (λe=>h (by rw[e]; exact qam)),qdA,zvu λhm=>h (qai _ hm)]
theorem zsn{vs ds:List Nat}(hv:vs.Nodup):∀ {us cs:List Nat},us.length=cs.length->us.Nodup->dot ds (vs.map (stp us cs))=dot (us.map (at_ vs ds)) (zaB cs)
 | [],cs,_,_=>by
  rw[zls ds vs _ λv _=>by simp[stp]];simp[dot]
 | u :: us,[],h,_=>by simp at h
 | u :: us,c :: cs,h,hn=>by
  obtain⟨h1,h2⟩:=qbs.1 hn;have e:vs.map (stp (u :: us) (c :: cs))=vs.map λv=>(bif u == v then zab cs else 0)+stp us cs v:=by
   refine qbx λv _=>?_
   rw[show stp (u :: us) (c :: cs) v=bif u == v then zab cs else stp us cs v from rfl];cases hb:(u == v)with
   | true=>
    have:u=v:=by simpa using hb
    subst this;rw[qdz,qdz,zvu h1]; rfl
   | false=>
    rw[qdA,qdA,qaR]
  rw[e,zs3,zud hv,zsn hv (by simpa using h) h2];rfl
theorem zbc(h:vs.Pairwise (· < ·)):vs.Nodup:=h.imp λh=>Nat.ne_of_lt h
def zvH(vs ws:List Nat):List Nat->List Nat->Prop
 | [],[]=>True
 | u :: us,c :: cs=>(u∈vs/\at_ vs ws u=c)/\zvH vs ws us cs
 | _,_=>False
theorem zlQ:∀ {vs ws ds:List Nat} {u:Nat},vs.length=ws.length->zcP ws ds->u∈vs->at_ vs ds u<at_ vs ws u/\at_ vs ws u<=8
 | v :: vs,w :: ws,d :: ds,u,hl,hb,hm=>by
  unfold at_;by_cases h:v=u
  .subst h;rw[qdD,qdz,qdz];exact⟨hb.1,hb.2.1⟩
  .rw[show(v == u)=false from qdI h,qdA,qdA];rcases qax.1 hm with e | hm
   .exact absurd e.symm h
   .exact zlQ (by simpa using hl) hb.2.2 hm
 | [],_,_,_,_,_,hm=>by cases hm
 | v :: vs,[],_,_,hl,_,_=>by simp at hl
 | v :: vs,w :: ws,[],_,_,hb,_=>hb.elim
theorem zvH.below{vs ws ds:List Nat}(hl:vs.length=ws.length)(hb:zcP ws ds):∀ {us cs:List Nat},zvH vs ws us cs->zcP cs (us.map (at_ vs ds))
 | [],[],_=>trivial
 | u :: us,c :: cs,⟨⟨h1,h2⟩,h3⟩=>by
  have:=zlQ hl hb h1;rw[h2]at this;exact⟨this.1,this.2,zvH.below hl hb h3⟩
 | [],_ :: _,h=>h.elim
 | _ :: _,[],h=>h.elim
theorem zvH.mem{vs ws:List Nat}:∀ {us cs:List Nat},zvH vs ws us cs->∀ u∈us,u∈vs
 | [],[],_,_,hu=>by cases hu
 | u :: us,c :: cs,⟨⟨h1,_⟩,h3⟩,w,hw=>by
  rcases qax.1 hw with rfl | hw
  .exact h1
  .exact zvH.mem h3 w hw
 | [],_ :: _,h,_,_=>h.elim
 | _ :: _,[],h,_,_=>h.elim
def Fc.at(f:Fc)(vs ds:List Nat):Nat:=f.ws.getD (dot (f.vs.map (at_ vs ds)) (zaB f.cs)) 0
theorem ze6(u d:Nat)(us ds:List Nat)(v:Nat):at_ (u :: us) (d :: ds) v=bif u == v then d else at_ us ds v:=rfl
theorem zun:∀ {vs ds:List Nat} {v k:Nat},pos vs v=some k->at_ vs ds v=ds.getD k 0
 | [],_,_,_,h=>by cases h
 | u :: us,[],v,k,_=>by simp[at_]
 | u :: us,d :: ds,v,k,h=>by
  rw[ze6];rw[show pos (u :: us) v=bif u == v then some 0 else(pos us v).map (· + 1)from rfl]at h;cases hb:(u == v)with
  | true=>rw[hb,qdz]at h; cases h; rw[qdz]; rfl
  | false=>
   rw[hb,qdA]at h;cases hp:pos us v with
   | none=>rw[hp]at h; cases h
   | some j=>rw[hp]at h; cases h; rw[qdA,zun hp]; rfl
def inB(f g:Fc)(v:Nat):Bool:=decide (v∈f.vs)|| decide (v∈g.vs)
def cdF(f g:Fc)(v:Nat):Nat:=bif decide (v∈f.vs)then at_ f.vs f.cs v else at_ g.vs g.cs v
def uni(f g:Fc):List Nat:=(List.range' 0 64).filter (inB f g)
theorem zrG(hf:FcOk f)(hp:pos f.vs v=some k):zaz f.D.zaK (ixZ (some k))=some ((at_ f.vs f.cs v:Nat):Int):=by
 obtain⟨hk,_⟩:=zdm hp;show zaz (iL f.cs) (k:Int)=_;rw[zgt (by rw[<- hf.len]; exact hk),zun hp]
theorem zgD{g:Fc}(hf:FcOk f)(hg:FcOk g):v∈uni f g↔v∈f.vs\/v∈g.vs:=by
 unfold uni inB;simp only[qaM,qc1,qaZ,decide_eq_true_eq];constructor
 .exact λh=>h.2
 rintro(h | h)
 .exact⟨⟨qau _,by have:=hf.var _ h; omega⟩,.inl h⟩
 exact⟨⟨qau _,by have:=hg.var _ h; omega⟩,.inr h⟩
theorem zkU(f g:Fc):(uni f g).Pairwise (· < ·):=qbA _ qdk
theorem zBy{f g:Fc}:∀ v∈uni f g,v<64:=by
 intro v hv;have:=(qaM.1 hv).1;simp only[qc1]at this;omega
theorem zhS:∀ {a b:List Nat},a.Pairwise (· < ·)->b.Pairwise (· < ·)->(∀ x,x∈a↔x∈b)->a=b
 | [],[],_,_,_=>rfl
 | [],b :: bs,_,_,h=>by have:=(h b).2 qam; simp at this
 | a :: xs,[],_,_,h=>by have:=(h a).1 qam; simp at this
 | a :: xs,b :: bs,ha,hb,h=>by
  obtain⟨ha1,ha2⟩:=qbp.1 ha;obtain⟨hb1,hb2⟩:=qbp.1 hb;have e:a=b:=by
   rcases qax.1 ((h a).1 qam)with h1 | h1
   .exact h1
   rcases qax.1 ((h b).2 qam)with h2 | h2
   .exact h2.symm
   have:=hb1 a h1; have:=ha1 b h2; omega
  subst e;refine congrArg (a :: ·) (zhS ha2 hb2 λx=>⟨λhx=>?_,λhx=>?_⟩)
  .rcases qax.1 ((h x).1 (qai _ hx))with rfl | h1
   .have:=ha1 x hx; omega
   exact h1
  rcases qax.1 ((h x).2 (qai _ hx))with rfl | h1
  .have:=hb1 x hx; omega
  exact h1
section
variable {s:List Int}
end
abbrev noF:S_api_Factor:=⟨[],[],[]⟩
structure Dom (u c:List Nat):Prop where
 len:u.length=c.length
 nodup:u.Nodup
 zap:∀ x∈c,1<=x/\x<=8
 le:c.length<=12
 prod:zab c<=4096
theorem zov{cs:List Nat}(h:zcs (iL cs)=true):(∀ c∈cs,1<=c/\c<=8)/\zab cs<=4096/\cs.length<=12:=by
 obtain⟨ns,h1,h2⟩:=ziP h;have:cs=ns:=by rw[<- zhj cs,h1,zhj]
 subst this;exact h2
theorem zkk(c ss:List Nat)(i m:Nat):zmK c ss i (m+1)=((i:Int),((dot (dig c i) ss:Nat):Int),iL (dig c i)):: zmK c ss (i+1) m:=by
 unfold zmK;rw[qcj,qaF]
theorem zhc{h:Nat->Nat}{v:Nat}:∀ {us:List Nat},v∈us->at_ us (us.map h) v=h v
 | [],hm=>by simp at hm
 | u :: us,hm=>by
  rw[qaF,ze6];cases hb:(u == v)with
  | true=>rw[qdz]; rw[qdH]at hb; rw[hb]
  | false=>
   rw[qdA];rcases qax.1 hm with e | e
   .rw[e]at hb; simp at hb
   exact zhc e
theorem zqI:∀ {vs ds:List Nat} {i:Nat} (hn:vs.Nodup) (h:i<vs.length),at_ vs ds vs[i]=ds.getD i 0
 | v :: vs,[],i,_,_=>by simp[at_]
 | v :: vs,d :: ds,0,_,_=>by rw[ze6]; simp
 | v :: vs,d :: ds,i+1,hn,h=>by
  obtain⟨h1,h2⟩:=qbs.1 hn;have hi:i<vs.length:=by simpa using h
  rw[ze6,show(v :: vs)[i+1]=vs[i]from rfl,show(v == vs[i])=false from qdI (λe=>h1 (e ▸ qao hi)),qdA,zqI h2 hi];rfl
theorem zm5{vs ds:List Nat}(hn:vs.Nodup)(hl:vs.length=ds.length):vs.map (at_ vs ds)=ds:=by
 refine qcd (by simpa using hl) λi h1 h2=>?_
 rw[qcO,zqI hn (by simpa using h1),qae,qac h2];rfl
theorem zxr{vs ws:List Nat}:∀ {us cs:List Nat},us.length=cs.length->us.Nodup->(∀ u∈us,u∈vs/\at_ vs ws u=at_ us cs u)->zvH vs ws us cs
 | [],[],_,_,_=>trivial
 | [],c :: cs,h,_,_=>by simp at h
 | u :: us,[],h,_,_=>by simp at h
 | u :: us,c :: cs,hl,hn,h=>by
  obtain⟨h1,h2⟩:=qbs.1 hn;refine⟨⟨(h u qam).1,?_⟩,zxr (by simpa using hl) h2 λx hx=>⟨(h x (qai _ hx)).1,?_⟩⟩
  .rw[(h u qam).2,ze6,qdD,qdz]
  rw[(h x (qai _ hx)).2,ze6,show(u == x)=false from qdI (λe=>h1 (e ▸ hx)),qdA]
def Agr(f g:Fc):Prop:=∀ v,v∈f.vs->v∈g.vs->at_ f.vs f.cs v=at_ g.vs g.cs v
def ucs(f g:Fc):List Nat:=(uni f g).map (cdF f g)
variable{f g:Fc}
theorem zEr{v:Nat}(h:v∈f.vs):cdF f g v=at_ f.vs f.cs v:=by unfold cdF; rw[qdB h,qdz]
theorem zEk(ha:Agr f g){v:Nat}(h:v∈g.vs):cdF f g v=at_ g.vs g.cs v:=by
 unfold cdF;by_cases h1:v∈f.vs
 .rw[qdB h1,qdz,ha v h1 h]
 rw[qdC h1,qdA]
theorem zte(h:zcs (iL (ucs f g))=true):Dom (uni f g) (ucs f g):=by
 obtain⟨h1,h2,h3⟩:=zov h;exact⟨by unfold ucs; simp,zbc (zkU f g),h1,h3,h2⟩
def zoi(f g:Fc):Bool:=(List.range' 0 (zab (ucs f g))).all λj=>decide (f.at (uni f g) (dig (ucs f g) j)* g.at (uni f g) (dig (ucs f g) j)<=zdW)
def zr8(f g:Fc):Fc:=⟨uni f g,ucs f g,(List.range' 0 (zab (ucs f g))).map λj=>f.at (uni f g) (dig (ucs f g) j)* g.at (uni f g) (dig (ucs f g) j)⟩
theorem znw(a b:List Int):zdZ a b=some (a,b):=by rfl
theorem zFz(b:Nat):((b:Int)== 0)=(b == 0):=zyY b 0
theorem zDA{a b:Nat}(hb:¬ b=0)(ha:a<=zdW):zvI .i64 (a:Int) (b:Int)=some ((a / b:Nat):Int):=by
 have h1:a<=4611686018427387903:=ha;have h2:a / b<=a:=Nat.div_le_self a b;unfold zvI;rw[zFz,qdI hb,qdA,show((a:Int).tdiv (b:Int))=((a / b:Nat):Int)from rfl];exact congrArg some (zaJ (n:=a / b) (by omega))
def Fc.get(f:Fc)(j:Nat):Nat:=f.ws.getD j 0
theorem Fc.zxS(hf:FcOk f)(k:Nat):f.get k<=zdW:=by
 unfold Fc.get;by_cases h:k<f.ws.length
 .rw[qae,qac h];exact hf.num _ (qao h)
 rw[qae,qaI (by omega)];exact qau _
theorem zCz{i:Nat}(hf:FcOk f)(h:i<zab f.cs):zaz f.D.w (i:Int)=some ((f.get i:Nat):Int):=zgt (by rw[hf.size]; exact h)
def zhY(v:Nat):Nat:=[2,3,1,2,2].getD v 0
theorem zue(hf:FcOk f)(hg:FcOk g)(hc:zcs (iL (ucs f g))=true)(hk:zoi f g=true):FcOk (zr8 f g):=by
 have hD:=zte hc;refine⟨hD.len,hD.le,hD.zap,hD.prod,by simp[zr8],zkU f g,zBy,?_⟩;intro x hx;obtain⟨j,hj,rfl⟩:=qaz.1 hx;exact qdG (qbN.1 hk j hj)
section
variable {r4 r6 r8 r10 r12 r14 r16 r18:S_api_Factor}
end
def cof(f:Fc)(us:List Nat):List Nat:=us.map (at_ f.vs f.cs)
structure Sel (f:Fc) (us:List Nat):Prop where
 inc:us.Pairwise (· < ·)
 mem:∀ u∈us,u∈f.vs
theorem zjB:∀ {a b:List Nat},a.Pairwise (· < ·)->b.Pairwise (· < ·)->(∀ x∈a,x∈b)->a.Sublist b
 | [],b,_,_,_=>List.nil_sublist b
 | a :: xs,[],_,_,h=>by have:=h a qam; simp at this
 | a :: xs,b :: bs,ha,hb,h=>by
  obtain⟨ha1,ha2⟩:=qbp.1 ha;obtain⟨hb1,hb2⟩:=qbp.1 hb;rcases qax.1 (h a qam)with e | h1
  .subst e;refine(zjB ha2 hb2 λx hx=>?_).cons_cons a;rcases qax.1 (h x (qai _ hx))with e | h2
   .have:=ha1 x hx; omega
   exact h2
  refine(zjB ha hb2 λx hx=>?_).cons b;rcases qax.1 (h x hx)with e | h2
  .have h3:=hb1 a h1;rcases qax.1 hx with e2 | h4
   .omega
   have:=ha1 x h4; omega
  exact h2
theorem ziq:∀ {a b:List Nat},a.Sublist b->(∀ c∈b,1<=c)->zab a<=zab b
 | _,_,.slnil,_=>qap _
 | a,b :: bs,.cons _ h,hb=>by
  have h1:=ziq h λc hc=>hb c (qai _ hc)
  have h2:=qbG (hb b qam) (qap (zab bs));show zab a<=b * zab bs;omega
 | a :: xs,_ :: bs,.cons_cons _ h,hb=>qbG (qap a) (ziq h λc hc=>hb c (qai _ hc))
variable{f:Fc}{us:List Nat}
theorem zyN(hf:FcOk f)(hs:Sel f us):(cof f us).Sublist f.cs:=by
 have h:=(zjB hs.inc hf.inc hs.mem).map (at_ f.vs f.cs)
 rwa [zm5 (zbc hf.inc) hf.len]at h
theorem zgv(hf:FcOk f)(hs:Sel f us):Dom us (cof f us):=by
 have h:=zyN hf hs;exact⟨by simp[cof],zbc hs.inc,λx hx=>hf.zap x (h.subset hx),qaq h.length_le hf.le,qaq (ziq h λc hc=>(hf.zap c hc).1) hf.prod⟩
theorem zyA(hs:Sel f us):zvH f.vs f.cs us (cof f us):=
 zxr (by simp[cof]) (zbc hs.inc) λu hu=>⟨hs.mem u hu,by unfold cof; rw[zhc hu]⟩
def ix(f:Fc)(us:List Nat)(i:Nat):Nat:=dot (us.map (at_ f.vs (dig f.cs i))) (zaB (cof f us))
theorem zAY(hf:FcOk f)(hs:Sel f us){i:Nat}(h:i<zab f.cs):ix f us i<zab (cof f us):=
 zkr (zvH.below hf.len (zgO hf.zap h) (zyA hs))
theorem zAH(hf:FcOk f)(hs:Sel f us){i:Nat}:dot (dig f.cs i) (f.vs.map (stp us (cof f us)))=ix f us i:=by
 rw[zsn (zbc hf.inc) (by simp[cof]) (zbc hs.inc)]; rfl
def gop(b:Bool)(x y:Nat):Nat:=bif b then max x y else x+y
def ziI(b:Bool)(f:Fc)(us:List Nat):Nat->Nat->List Nat->Option (List Nat)
 | 0,_,l=>some l
 | m+1,i,l=>bif decide (gop b (l.getD (ix f us i) 0) (f.get i)<=zdW)then ziI b f us m (i+1) (l.set (ix f us i) (gop b (l.getD (ix f us i) 0) (f.get i)))else none
theorem zm2{b:Bool}{f:Fc}{us:List Nat}:∀ {m i:Nat} {l l':List Nat},ziI b f us m i l=some l'->l'.length=l.length
 | 0,_,_,_,h=>by cases h; rfl
 | m+1,i,l,l',h=>by
  unfold ziI at h;cases hd:decide (gop b (l.getD (ix f us i) 0) (f.get i)<=zdW)with
  | false=>rw[hd]at h; cases h
  | true=>rw[hd,qdz]at h; rw[zm2 h,qat]
theorem zqQ{b:Bool}{f:Fc}{us:List Nat}:∀ {m i:Nat} {l l':List Nat},(∀ x∈l,x<=zdW)->ziI b f us m i l=some l'->∀ x∈l',x<=zdW
 | 0,_,_,_,hl,h=>by cases h; exact hl
 | m+1,i,l,l',hl,h=>by
  unfold ziI at h;cases hd:decide (gop b (l.getD (ix f us i) 0) (f.get i)<=zdW)with
  | false=>rw[hd]at h; cases h
  | true=>
   rw[hd,qdz]at h;refine zqQ (λx hx=>?_) h;rcases qbF hx with h1 | h1
   .exact hl x h1
   rw[h1]; exact qdG hd
theorem zpk(hf:FcOk f)(hs:Sel f us):us.length<=12:=by
 have:=(zjB hs.inc hf.inc hs.mem).length_le;have:=hf.len; have:=hf.le;omega
theorem zyO{b:Bool}{x y:Nat}(hx:x<=zdW)(hy:y<=zdW):(bif b then zfr (x:Int) (y:Int)else w64 ((x:Int)+(y:Int)))=((gop b x y:Nat):Int):=by
 have h1:x<=4611686018427387903:=hx;have h2:y<=4611686018427387903:=hy;cases b with
 | true=>
  show zfr (x:Int) (y:Int)=((max x y:Nat):Int);unfold zfr;split<;>omega
 | false=>
  show w64 ((x:Int)+(y:Int))=((x+y:Nat):Int);rw[zfk (by omega) (by omega)]; omega
theorem zzE{l:List Nat}(h:∀ x∈l,x<=zdW)(k:Nat):l.getD k 0<=zdW:=by
 by_cases hk:k<l.length
 .rw[qae,qac hk];exact h _ (qao hk)
 rw[qae,qaI (by omega)];exact qau _
theorem zEv{xs:List Nat}{k y:Nat}(h:k<xs.length):zeU (iL xs) (k:Int) (y:Int)=some (iL (xs.set k y)):=by
 rw[zfd (by rw[zak]; exact h)];simp[iL]
def gat(b:Bool)(f:Fc)(us:List Nat):Option (List Nat):=ziI b f us (zab f.cs) 0 (List.replicate (zab (cof f us)) 0)
theorem zqb{n:Nat}:∀ x∈List.replicate n 0,x<=zdW:=λx hx=>by rw[(qci.1 hx).2]; exact qau _
end Go.Dc
