/-
 Plain laws: numbers and sets of bits. Conditions: none.
-/
import Derived.Test.YtbjogdohfhdaiaaGreatETJ5
set_option linter.unusedSimpArgs false
set_option linter.unusedVariables false
namespace Go.Dc
open Go Go.Mx Go.Lx
variable{n:Nat}
theorem zas(h:n<9223372036854775808):w64 (n:Int)=(n:Int):=wrap64 (by omega) (by omega)
theorem zf7{n:Int}(h1:-9223372036854775808<=n)(h2:n<9223372036854775808):w64 n=n:=wrap64 h1 h2
theorem zak(h:n+1<9223372036854775808):w64 ((n:Int)+1)=((n+1:Nat):Int):=by
 rw[zf7 (by omega) (by omega)]; omega
theorem zw6(n:Nat):IntKind.u64.wrap (n:Int)=((n % 18446744073709551616:Nat):Int):=by
 simp only[IntKind.wrap,IntKind.bits,IntKind.signed]; simp
theorem zbS(h:n<18446744073709551616):IntKind.u64.wrap (n:Int)=(n:Int):=by
 rw[zw6,qbe h]
variable{a b:Nat}
theorem zEW(ha:a<18446744073709551616)(hb:b<18446744073709551616):zkX .u64 (a:Int) (b:Int)=((a &&& b:Nat):Int):=by
 have h:(BitVec.ofInt 64 (a:Int) &&& BitVec.ofInt 64 (b:Int)).toNat=a &&& b:=by
  simp only[qcT,BitVec.toNat_and,BitVec.toNat_ofNat];rw[qbe ha,qbe hb]
 show IntKind.u64.wrap ((BitVec.ofInt 64 (a:Int) &&& BitVec.ofInt 64 (b:Int)).toNat:Int)=_;rw[h];exact zbS (qcK Nat.and_le_left ha)
theorem orU(ha:a<18446744073709551616)(hb:b<18446744073709551616):orI .u64 (a:Int) (b:Int)=((a ||| b:Nat):Int):=by
 have h:(BitVec.ofInt 64 (a:Int)||| BitVec.ofInt 64 (b:Int)).toNat=a ||| b:=by
  simp only[qcT,BitVec.toNat_or,BitVec.toNat_ofNat];rw[qbe ha,qbe hb]
 show IntKind.u64.wrap ((BitVec.ofInt 64 (a:Int)||| BitVec.ofInt 64 (b:Int)).toNat:Int)=_;rw[h];exact zbS (qdc (n:=64) ha hb)
def diff(a b:Nat):Nat:=(BitVec.ofNat 64 a &&& ~~~ BitVec.ofNat 64 b).toNat
theorem zz7(a b:Nat):diff a b<18446744073709551616:=(BitVec.ofNat 64 a &&& ~~~ BitVec.ofNat 64 b).isLt
theorem zFW(a b:Nat):zDw .u64 (a:Int) (b:Int)=((diff a b:Nat):Int):=by
 show IntKind.u64.wrap ((BitVec.ofInt 64 (a:Int) &&& ~~~ BitVec.ofInt 64 (b:Int)).toNat:Int)=_;rw[qcT,qcT];exact zbS (zz7 a b)
variable{i:Nat}
theorem zqu(ha:a<18446744073709551616)(hb:b<18446744073709551616):(diff a b).testBit i=(a.testBit i && !b.testBit i):=by
 unfold diff;rw[BitVec.testBit_toNat,BitVec.getLsbD_and,BitVec.getLsbD_not,BitVec.getLsbD_ofNat,BitVec.getLsbD_ofNat];by_cases hi:i<64
 .simp[hi]
 have:a.testBit i=false:=Nat.testBit_lt_two_pow (qbx ha (qbQ (n:=2) (by decide) (show 64<=i by omega)));simp[hi,this]
variable{v:Nat}
theorem zC9(hv:v<64):zsN .u64 1 (v:Int)=some ((2 ^ v:Nat):Int):=by
 unfold zsN;rw[if_pos (by omega)];congr 1
 have h1:min (v:Int).toNat IntKind.u64.bits=v:=by
  rw[show IntKind.u64.bits=64 from rfl,qaL]; exact qb6 (by omega)
 rw[h1,Int.one_mul];have h2:((2:Int) ^ v)=((2 ^ v:Nat):Int):=by simp
 rw[h2];exact zbS (qbX (by decide) hv)
theorem zD8(hv:v<64):zki .u64 (a:Int) (v:Int)=some ((a >>> v:Nat):Int):=by
 unfold zki;rw[if_pos (by omega)];congr 1
 have h1:min (v:Int).toNat IntKind.u64.bits=v:=by
  rw[show IntKind.u64.bits=64 from rfl,qaL]; exact qb6 (by omega)
 rw[h1,qb4];have h2:((2:Int) ^ v)=((2 ^ v:Nat):Int):=by simp
 rw[h2,Int.fdiv_eq_ediv_of_nonneg _ (qbL _)];rfl
theorem zFe(a v:Nat):((a >>> v) &&& 1)=(a.testBit v).toNat:=by
 rw[Nat.and_one_is_mod,Nat.testBit_eq_decide_div_mod_eq,qb4];have h:=Nat.mod_two_eq_zero_or_one (a / 2 ^ v);rcases h with h | h<;>simp[h]
theorem zEx(ha:a<18446744073709551616)(hv:v<64):∃ q:Int,zki .u64 (a:Int) (v:Int)=some q/\zkX .u64 q 1=((a.testBit v).toNat:Int):=by
 refine⟨_,zD8 hv,?_⟩;rw[show(1:Int)=((1:Nat):Int)from rfl,zEW (qcK (by rw[qb4]; exact qdq _ _) ha) (by decide),zFe]
variable {α:Type}
theorem zxa{xs:List α}:zaO xs (i:Int)=xs[i]?:=by
 unfold zaO;rw[if_pos (qbL i),qaL]
theorem zbd{xs:List α}(h:i<xs.length):zaO xs (i:Int)=some (xs[i]'h):=by
 rw[zxa,qac h]
theorem zfD{xs:List α}{v:α}(h:i<xs.length):ze5 xs (i:Int) v=some (xs.set i v):=by
 unfold ze5;rw[if_pos (by omega),qaL]
theorem zcv{xs ys:List α}(h:(xs.length+ys.length)* b<=70368744177664):zdi b xs ys=some (xs ++ ys):=by
 unfold zdi;rw[if_pos (by simp only[zah]; omega)]
theorem zde{z:α}(h:n * b<=70368744177664):zeh b (n:Int) z=some (List.replicate n z):=by
 have h2:(n:Int)* (b:Int)<=zah:=by
  rw[<- qaU]; simp only[zah]; omega
 unfold zeh;rw[if_pos ⟨qbL n,h2⟩,qaL]
theorem zgv{xs:List α}(h:xs.length * b<=70368744177664):zd5 b xs=some xs:=by
 unfold zd5;rw[if_pos (by simp only[zah]; omega)]
theorem zaH:decide ((i:Int)<(n:Int))=decide (i<n):=by simp
theorem zaI(n:Nat):((n:Int) - 0+2).toNat=n+2:=by omega
theorem zsU{p0:S_api_Net}(hl:p0.nodes.length<=8):∀(n i:Nat) (acc:List Int),i<=p0.nodes.length->acc.length<=i->p0.nodes.length - i<n ->
  zdt p0 n (i:Int) acc=some (acc ++ (p0.nodes.drop i).map (·.zaC))
 | 0,_,_,_,_,h=>absurd h (qat _)
 | n+1,i,acc,h1,h2,h3=>by
  unfold zdt;by_cases hi:i<p0.nodes.length
  .rw[zaH,qdz hi,qdw,zbd hi,qaa,zcv (by simp; omega),qaa,zak (by omega),
    zsU hl n (i+1) _ hi (by simp; omega) (by omega),qaA hi]
   rw[qaI]; rfl
  rw[zaH,qdy hi,qdx,qbb (by omega)];simp
theorem zxz{p0:S_api_Net}(hl:p0.nodes.length<=8):zeH p0=some (p0.nodes.map (·.zaC)):=by
 unfold zeH;rw[zaI];have h:=zsU hl (p0.nodes.length+2) 0 [] (qaz _) (qao _) (by omega);rw[show((0:Nat):Int)=0 from rfl]at h;rw[h];simp
def Pl(n:Nat)(xs:List Nat):Prop:=∀ x∈xs,x<n
def iL(xs:List Nat):List Int:=xs.map (λx:Nat=>(x:Int))
theorem zal(xs:List Nat):(iL xs).length=xs.length:=by simp[iL]
variable{xs:List Nat}
theorem zyl(h:i<xs.length):(iL xs)[i]'(by rw[zal]; exact h)=((xs[i]:Nat):Int):=by simp[iL]
theorem zbf(h:i<xs.length):zaO (iL xs) (i:Int)=some ((xs[i]:Nat):Int):=by
 rw[zbd (by rw[zal]; exact h),zyl h]
theorem zEQ{cs:List Int}{ps:List Nat}(hp:Pl cs.length ps)(hl:ps.length<=8):∀(n i:Nat) (acc:List Int),i<=ps.length->acc.length<=i->ps.length - i<n ->
  zfd (iL ps) cs n (i:Int) acc=some (acc ++ (ps.drop i).map λp=>cs.getD p 0)
 | 0,_,_,_,_,h=>absurd h (qat _)
 | n+1,i,acc,h1,h2,h3=>by
  unfold zfd;rw[zal];by_cases hi:i<ps.length
  .have hb:ps[i]<cs.length:=hp _ (qau hi)
   rw[zaH,qdz hi,qdw,zbf hi,qaa,zbd hb,qaa,zcv (by simp; omega),qaa,zak (by omega),
    zEQ hp hl n (i+1) _ hi (by simp; omega) (by omega),qaA hi]
   rw[qaI,qaH,show cs.getD ps[i] 0=cs[ps[i]] by simp[hb]]; rfl
  rw[zaH,qdy hi,qdx,qbb (by omega)];simp
theorem zEs{cs:List Int}{ps:List Nat}(hp:Pl cs.length ps)(hl:ps.length<=8):zhE cs (iL ps)=some (ps.map λp=>cs.getD p 0):=by
 unfold zhE;rw[zal,zaI];have h:=zEQ hp hl (ps.length+2) 0 [] (qaz _) (qao _) (by omega);rw[show((0:Nat):Int)=0 from rfl]at h;rw[h];simp
def zab(xs:List Nat):Nat:=xs.foldr (· * ·) 1
theorem zcQ{xs:List Nat}(h:∀ x∈xs,1<=x):1<=zab xs:=by
 induction xs with
 | nil=>exact qao 1
 | cons x xs ih=>exact qbc (h x qam) (ih λy hy=>h y (qag _ hy))
theorem zyP{cs:List Nat}(hc:∀ x∈cs,1<=x)(hl:cs.length<=8):∀(n i a:Nat),i<=cs.length->a * zab (cs.drop i)<=65536->cs.length - i<n ->
  zdW (iL cs) n (a:Int) (i:Int)=some ((a * zab (cs.drop i):Nat):Int)
 | 0,_,_,_,_,h=>absurd h (qat _)
 | n+1,i,a,h1,h2,h3=>by
  unfold zdW;rw[zal];by_cases hi:i<cs.length
  .have e:cs.drop i=cs[i]:: cs.drop (i+1):=qaA hi;have e2:a * zab (cs.drop i)=a * cs[i] * zab (cs.drop (i+1)):=by rw[e]; exact(qa6 _ _ _).symm
   rw[e2]at h2;have hq:1<=zab (cs.drop (i+1)):=zcQ λx hx=>hc x (qcx hx)
   have hle:a * cs[i]<=65536:=qan (qaO _ hq) h2
   rw[zaH,qdz hi,qdw,zbf hi,qaa,zak (by omega),show((a:Int)* ((cs[i]:Nat):Int))=((a * cs[i]:Nat):Int) by simp,
    zas (by omega),zyP hc hl n (i+1) _ hi h2 (by omega),e2]
  rw[zaH,qdy hi,qdx,qbb (by omega)];simp[zab]
theorem zz3{cs:List Nat}(hc:∀ x∈cs,1<=x)(hl:cs.length<=8)(hp:zab cs<=65536):zfm (iL cs)=some ((zab cs:Nat):Int):=by
 unfold zfm;rw[zal,zaI];have h:=zyP hc hl (cs.length+2) 0 1 (qaz _) (by simpa using hp) (by omega);rw[show((0:Nat):Int)=0 from rfl,show((1:Nat):Int)=1 from rfl]at h;rw[h];simp
theorem zyj(h:i<n):decide ((i:Int)<(n:Int))=true:=qdz (by omega)
theorem zyd(n:Nat):decide ((n:Int)<(n:Int))=false:=qdy (by omega)
abbrev zc2:Nat:=4611686018427387903
def zgP:Nat->List Int->Bool
 | _,[]=>true
 | a,c :: cs=>decide (1<=c) && decide (c<=8) && decide (a * c.toNat<=4096) && zgP (a * c.toNat) cs
theorem zk0:∀ {cs:List Int} {a:Nat},zgP a cs=true->∃ ns:List Nat,cs=iL ns/\(∀ c∈ns,1<=c/\c<=8)/\(a<=4096->a * zab ns<=4096)
 | [],a,_=>⟨[],rfl,by simp,λh=>by simpa [zab]using h⟩
 | c :: cs,a,h=>by
  simp only[zgP,qaf,decide_eq_true_eq]at h;obtain⟨⟨⟨h1,h2⟩,h3⟩,h4⟩:=h;obtain⟨ns,e,g1,g2⟩:=zk0 h4;refine⟨c.toNat :: ns,?_,?_,λ_=>?_⟩
  .rw[e]; simp[iL]; omega
  .intro d hd;rcases qax.1 hd with rfl | hd
   .omega
   exact g1 d hd
  have:=g2 h3;show a * (c.toNat * zab ns)<=4096;rw[<- qa6]; exact this
theorem zhb:∀ {ns:List Nat} {a:Nat},(∀ c∈ns,1<=c/\c<=8)->a * zab ns<=4096->zgP a (iL ns)=true
 | [],a,_,_=>rfl
 | n :: ns,a,h,hp=>by
  have h1:=h n qam;have hp':a * n * zab ns<=4096:=by rw[qa6]; exact hp
  have hpos:1<=zab ns:=zcQ λx hx=>(h x (qag _ hx)).1
  have hle:a * n<=4096:=qan (qaO _ hpos) hp';show(decide ((1:Int)<=(n:Int)) && decide ((n:Int)<=8) && decide (a * (n:Int).toNat<=4096) && zgP (a * (n:Int).toNat) (iL ns))=true;rw[qaL,zhb (λc hc=>h c (qag _ hc)) hp',qdz (by omega),qdz (by omega),qdz hle];rfl
def ziJ:List Int->Nat
 | []=>1
 | c :: cs=>c.toNat * ziJ cs
theorem zhx(ns:List Nat):ziJ (iL ns)=zab ns:=by
 induction ns with
 | nil=>rfl
 | cons n ns ih=>show(n:Int).toNat * ziJ (iL ns)=n * zab ns; rw[ih,qaL]
theorem zq9(cs:List Int)(hl:cs.length<=12):∀(n i:Nat) (a:Nat),a<=4096->i<=cs.length->cs.length - i<n->zcr cs n ((a:Nat):Int) (i:Int)=some (bif zgP a (cs.drop i)then(((a * ziJ (cs.drop i):Nat):Int),true)else(0,false))
 | 0,_,_,_,_,h=>absurd h (qat _)
 | n+1,i,a,ha,hi,hn=>by
  unfold zcr;rcases qaY i cs.length with h3 | h3
  .rw[zyj h3,qdw,zbd h3,qaa,qaA h3];generalize cs[i]=c;simp only[zgP,ziJ];by_cases h1:c<1
   .rw[qdz h1,qdw,qaa,qdw,qdy (show ¬ 1<=c by omega)];rfl
   rw[qdy h1,qdx,qdz (show 1<=c by omega)];by_cases h2:8<c
   .rw[qdz h2,qdw,qaa,qdw,qdy (show ¬ c<=8 by omega)];rfl
   rw[qdy h2,qdx,qdz (show c<=8 by omega)];obtain⟨m,rfl⟩:∃ m:Nat,c=(m:Int):=⟨c.toNat,by omega⟩;have hb:a * m<=4096 * 8:=qbc ha (by omega);rw[<- qaU,zas (by omega),qaa,qaL];by_cases h4:a * m<=4096
   .rw[show decide ((4096:Int)<((a * m:Nat):Int))=false from qdy (by omega),qdx,zak (by omega),zq9 cs hl n (i+1) (a * m) h4 h3 (by omega),qdz h4,qa6];rfl
   rw[show decide ((4096:Int)<((a * m:Nat):Int))=true from qdz (by omega),qdw,qdy h4];rfl
  obtain rfl:i=cs.length:=by omega
  rw[zyd,qdx,qbq];simp[zgP,ziJ]
def zck(cs:List Int):Bool:=decide (cs.length<=12) && zgP 1 cs
theorem zvT(cs:List Int):zce cs=some (bif zck cs then(((ziJ cs:Nat):Int),0)else(0,20)):=by
 unfold zce zes zck;by_cases hl:cs.length<=12
 .rw[show decide ((12:Int)<(cs.length:Int))=false from qdy (by omega),qdx,zaI];have:=zq9 cs hl (cs.length+2) 0 1 (by omega) (qaz _) (by omega);rw[show((1:Nat):Int)=1 from rfl,show((0:Nat):Int)=0 from rfl,qbm,qbh]at this;rw[this,qdz hl,qbG];cases zgP 1 cs<;>rfl
 rw[show decide ((12:Int)<(cs.length:Int))=true from qdz (by omega),qdw,qdy hl];rfl
def zy7:Int->List Int->Bool
 | _,[]=>true
 | l,v :: vs=>decide (l<v) && decide (v<=63) && zy7 v vs
def zzT:List Int->Bool
 | []=>true
 | w :: ws=>decide (0<=w) && decide (w<=4611686018427387903) && zzT ws
def zDp(x:S_api_Factor):Bool:=zck x.zae && decide (x.vars.length=x.zae.length) && decide (x.w.length=ziJ x.zae) && zy7 (-1) x.vars && zzT x.w
def zaB:List Nat->List Nat
 | []=>[]
 | _ :: cs=>zab cs :: zaB cs
theorem zgo(cs:List Nat):(zaB cs).length=cs.length:=by induction cs with | nil=>rfl | cons c cs ih=>simp[zaB,ih]
abbrev noT:S_factor_table×Int:=(⟨⟨[],[],[]⟩,[]⟩,30)
theorem zre(x:S_api_Factor)(hl:x.vars.length<=12):∀(n i:Nat) (l:Int),i<=x.vars.length->x.vars.length - i<n->zct x n l (i:Int)=some (bif zy7 l (x.vars.drop i)then .go ()else .ret noT)
 | 0,_,_,_,h=>absurd h (qat _)
 | n+1,i,l,hi,hn=>by
  unfold zct;rcases qaY i x.vars.length with h3 | h3
  .rw[zyj h3,qdw,zbd h3,qaa,qaA h3];generalize x.vars[i]=v;simp only[zy7];by_cases h1:v<=l
   .rw[qdz h1,qdw,qaa,qdw,qdy (show ¬ l<v by omega)];rfl
   rw[qdy h1,qdx,qaa,qdz (show l<v by omega)];by_cases h2:63<v
   .rw[qdz h2,qdw,qdy (show ¬ v<=63 by omega)];rfl
   rw[qdy h2,qdx,qdz (show v<=63 by omega),zak (by omega),zre x hl n (i+1) v h3 (by omega)];rfl
  obtain rfl:i=x.vars.length:=by omega
  rw[zyd,qdx,qbq];rfl
theorem zqY(x:S_api_Factor)(hl:x.w.length<=4096):∀(n i:Nat),i<=x.w.length->x.w.length - i<n->zcs x n (i:Int)=some (bif zzT (x.w.drop i)then .go ()else .ret noT)
 | 0,_,_,h=>absurd h (qat _)
 | n+1,i,hi,hn=>by
  unfold zcs;rcases qaY i x.w.length with h3 | h3
  .rw[zyj h3,qdw,zbd h3,qaa,qaA h3];generalize x.w[i]=v;simp only[zzT];by_cases h1:v<0
   .rw[qdz h1,qdw,qaa,qdw,qdy (show ¬ 0<=v by omega)];rfl
   rw[qdy h1,qdx,qaa,qdz (show 0<=v by omega)];by_cases h2:4611686018427387903<v
   .rw[qdz h2,qdw,qdy (show ¬ v<=4611686018427387903 by omega)];rfl
   rw[qdy h2,qdx,qdz (show v<=4611686018427387903 by omega),zak (by omega),zqY x hl n (i+1) h3 (by omega)];rfl
  obtain rfl:i=x.w.length:=by omega
  rw[zyd,qdx,qbq];rfl
theorem zhp{ns:List Nat}(h:∀ c∈ns,1<=c):∀ k,zab (ns.drop k)<=zab ns:=by
 induction ns with
 | nil=>intro k; simp
 | cons n ns ih=>
  intro k;cases k with
  | zero=>exact qao _
  | succ k=>
   have h1:=ih (λc hc=>h c (qag _ hc)) k;have h2:=h n qam;show zab (ns.drop k)<=n * zab ns;exact qan h1 (qcj _ h2)
theorem zoT(a b:List Nat):iL (a ++ b)=iL a ++ iL b:=by simp[iL]
theorem zfW(k:Nat):iL (List.replicate k 0)=List.replicate k 0:=by simp[iL]
theorem zlN(x:S_api_Factor){ns:List Nat}(hx:x.zae=iL ns)(hc:∀ c∈ns,1<=c)(hp:zab ns<=4096)(hl:ns.length<=12):∀(k n:Nat),k<=ns.length->k<n ->
  zbV x n ((zab (ns.drop k):Nat):Int) ((k:Int) - 1) (iL (List.replicate k 0 ++ zaB (ns.drop k)))=some (iL (zaB ns))
 | k,0,_,h=>absurd h (qat _)
 | 0,n+1,_,_=>by
  unfold zbV;rw[show decide ((0:Int)<=((0:Nat):Int) - 1)=false from rfl,qdx];rfl
 | k+1,n+1,hk,hn=>by
  have ih:=zlN x hx hc hp hl k n (by omega) (by omega);have hk':k<ns.length:=hk;unfold zbV;have e:(((k+1:Nat):Int) - 1)=(k:Int):=by omega
  have hlen:k<(iL (List.replicate (k+1) 0 ++ zaB (ns.drop (k+1)))).length:=by rw[zal]; simp; omega
  rw[e,show decide ((0:Int)<=(k:Int))=true from qdz (by omega),qdw,zbd hlen,qaa,zfD hlen,qaa,hx,zbf hk',qaa];have hd:ns.drop k=ns[k]:: ns.drop (k+1):=qaA hk';have h1:(iL (List.replicate (k+1) 0 ++ zaB (ns.drop (k+1)))).set k ((zab (ns.drop (k+1)):Nat):Int)=iL (List.replicate k 0 ++ zaB (ns.drop k)):=by
   rw[hd,zoT,zoT,zfW,zfW,List.replicate_succ',qaI,qcM _ _ (by simp)];simp[zaB,iL]
  have h2:((zab (ns.drop (k+1)):Nat):Int)* ((ns[k]:Nat):Int)=((zab (ns.drop k):Nat):Int):=by
   rw[hd,<- qaU,qaV]; rfl
  have h3:=zhp hc k;rw[h1,h2,zas (by omega),zf7 (by omega) (by omega)];exact ih
def zv0(xs:List Int):List Nat:=xs.map Int.toNat
theorem zhg(ns:List Nat):zv0 (iL ns)=ns:=by
 induction ns with
 | nil=>rfl
 | cons n ns ih=>show(n:Int).toNat :: zv0 (iL ns)=n :: ns; rw[ih,qaL]
theorem zj3{cs:List Int}(h:zck cs=true):∃ ns:List Nat,cs=iL ns/\(∀ c∈ns,1<=c/\c<=8)/\zab ns<=4096/\ns.length<=12:=by
 unfold zck at h;simp only[qaf,decide_eq_true_eq]at h;obtain⟨ns,rfl,h1,h2⟩:=zk0 h.2;exact⟨ns,rfl,h1,by have:=h2 (by omega); omega,by have:=h.1; rw[zal]at this; exact this⟩
theorem zCJ(x:S_api_Factor):zbF x=some (bif zDp x then(⟨x,iL (zaB (zv0 x.zae))⟩,0)else noT):=by
 unfold zbF zDp;rw[zvT,qaa];cases hc:zck x.zae with
 | false=>
  rw[qdx];rfl
 | true=>
  obtain⟨ns,hx,h1,h2,h3⟩:=zj3 hc;rw[qdw,show(((((ziJ x.zae:Nat):Int),(0:Int)).2 == 0))=true from rfl,qdw,qbG];by_cases hv:x.vars.length=x.zae.length
  .rw[show(((x.vars.length:Nat):Int)==((x.zae.length:Nat):Int))=true by rw[hv]; exact qdB _,qdw,qaa,qdz hv,qbG];by_cases hw:x.w.length=ziJ x.zae
   .have hw':x.w.length<=4096:=by rw[hw,hx,zhx]; exact h2
    have hl:x.vars.length<=12:=by rw[hv,hx,zal]; exact h3
    rw[show(!(((x.w.length:Nat):Int)==((ziJ x.zae:Nat):Int)))=false by rw[hw,qdB]; rfl,qdx,qdz hw,qbG,zaI,zaI];have e1:=zre x hl (x.vars.length+2) 0 (-1) (qaz _) (by omega);have e2:=zqY x hw' (x.w.length+2) 0 (qaz _) (by omega);rw[show((0:Nat):Int)=0 from rfl,qbm]at e1 e2;rw[e1,qaa];cases zy7 (-1) x.vars with
    | false=>rfl
    | true=>
     rw[qdw,qbG];simp only;rw[e2,qaa];cases zzT x.w with
     | false=>rfl
     | true=>
      rw[qdw];simp only;have hlen:x.zae.length=ns.length:=by rw[hx,zal]
      have e3:=zlN x hx (λc hc=>(h1 c hc).1) h2 h3 ns.length (ns.length+1+1) (qao _) (by omega);rw[qbq]at e3;rw[zde (by omega),qaa,qaL,hlen,zf7 (by omega) (by omega),show((ns.length:Int) - 1 - 0+2).toNat=ns.length+1 by omega];have e4:=zlN x hx (λc hc=>(h1 c hc).1) h2 h3 ns.length (ns.length+1) (qao _) (by omega);rw[qbq]at e4;rw[show iL (List.replicate ns.length 0 ++ zaB [])=List.replicate ns.length 0 by simp[zaB,iL],show((zab []:Nat):Int)=1 from rfl]at e4;rw[e4,qaa,qdw,hx,zhg]
   rw[show(!(((x.w.length:Nat):Int)==((ziJ x.zae:Nat):Int)))=true by rw[qbJ]; exact qdC (by omega),qdw,qdy hw];rfl
  rw[show(((x.vars.length:Nat):Int)==((x.zae.length:Nat):Int))=false from qdC (by omega),qdx,qaa,qdw,qdy hv];rfl
structure Fc where
 vs:List Nat
 cs:List Nat
 ws:List Nat
def Fc.D(f:Fc):S_api_Factor:=⟨iL f.vs,iL f.cs,iL f.ws⟩
structure FcOk (f:Fc):Prop where
 len:f.vs.length=f.cs.length
 le:f.cs.length<=12
 zaC:∀ c∈f.cs,1<=c/\c<=8
 prod:zab f.cs<=4096
 size:f.ws.length=zab f.cs
 inc:f.vs.Pairwise (· < ·)
 var:∀ v∈f.vs,v<64
 num:∀ w∈f.ws,w<=zc2
theorem zuq:∀ {ns:List Nat} {l:Int},ns.Pairwise (· < ·)->(∀ v∈ns,v<64/\l<(v:Int))->zy7 l (iL ns)=true
 | [],_,_,_=>rfl
 | n :: ns,l,h1,h2=>by
  have h3:=h2 n qam;obtain⟨h4,h5⟩:=qbg.1 h1;show(decide (l<(n:Int)) && decide ((n:Int)<=63) && zy7 (n:Int) (iL ns))=true;rw[qdz h3.2,qdz (by omega),zuq h5 λv hv=>⟨(h2 v (qag _ hv)).1,by have:=h4 v hv; omega⟩];rfl
theorem zud:∀ {ns:List Nat},(∀ w∈ns,w<=zc2)->zzT (iL ns)=true
 | [],_=>rfl
 | n :: ns,h=>by
  have h1:n<=4611686018427387903:=h n qam;show(decide (0<=(n:Int)) && decide ((n:Int)<=4611686018427387903) && zzT (iL ns))=true;rw[qdz (by omega),qdz (by omega),zud λw hw=>h w (qag _ hw)];rfl
variable{f:Fc}
theorem zAd(h:FcOk f):zDp f.D=true:=by
 unfold zDp Fc.D zck;simp only[zal];rw[qdz h.le,zhb h.zaC (by have:=h.prod; omega),qdz h.len,qdz (by rw[zhx]; exact h.size),zuq h.inc λv hv=>⟨h.var v hv,by omega⟩,zud h.num];rfl
def Fc.T(f:Fc):S_factor_table:=⟨f.D,iL (zaB f.cs)⟩
theorem zi5(h:FcOk f):zbF f.D=some (f.T,0):=by
 rw[zCJ,zAd h,qdw,show f.D.zae=iL f.cs from rfl,zhg];rfl
def zoH:List Int->Int->Option Nat
 | [],_=>none
 | x :: xs,v=>bif x == v then some 0 else(zoH xs v).map (· + 1)
def ixZ:Option Nat->Int
 | none=>-1
 | some k=>(k:Int)
theorem zoa:∀ {xs:List Int} {v:Int} {k:Nat},zoH xs v=some k->∃ h:k<xs.length,xs[k]=v
 | x :: xs,v,k,h=>by
  unfold zoH at h;cases hb:(x == v)with
  | true=>
   rw[hb,qdw]at h;cases h;exact⟨by simp,by simpa using hb⟩
  | false=>
   rw[hb,qdx]at h;cases hp:zoH xs v with
   | none=>rw[hp]at h; cases h
   | some j=>
    rw[hp]at h;cases h;obtain⟨g1,g2⟩:=zoa hp;exact⟨by simp; omega,by simpa using g2⟩
theorem znp:∀ {xs:List Int} {v:Int},zoH xs v=none->v ∉ xs
 | [],v,_=>by simp
 | x :: xs,v,h=>by
  unfold zoH at h;cases hb:(x == v)with
  | true=>rw[hb,qdw]at h; cases h
  | false=>
   rw[hb,qdx]at h;have h1:zoH xs v=none:=by
    cases hp:zoH xs v with
    | none=>rfl
    | some j=>rw[hp]at h; cases h
   have h2:x≠v:=by simpa using hb
   intro hm;rcases qax.1 hm with rfl | hm
   .exact h2 rfl
   exact znp h1 hm
theorem zqb(xs:List Int)(v:Int)(hl:xs.length<4611686018427387904):∀(n i:Nat),i<=xs.length->xs.length - i<n->zaY xs v n (i:Int)=some (match zoH (xs.drop i) v with | none=>.go ()| some k=>.ret ((i+k:Nat):Int))
 | 0,_,_,h=>absurd h (qat _)
 | n+1,i,hi,hn=>by
  unfold zaY;rcases qaY i xs.length with h3 | h3
  .rw[zyj h3,qdw,zbd h3,qaa,qaA h3];generalize xs[i]=x;unfold zoH;by_cases h:v=x
   .subst h;rw[qdB,qdw,qdw];rfl
   rw[show(v == x)=false from qdC h,show(x == v)=false from qdC (λe=>h e.symm),qdx,qdx,zak (by omega),zqb xs v hl n (i+1) h3 (by omega)];cases zoH (xs.drop (i+1)) v with
   | none=>rfl
   | some k=>
    simp only[qaX];rw[show i+1+k=i+(k+1) by omega]
  obtain rfl:i=xs.length:=by omega
  rw[zyd,qdx,qbq];rfl
theorem zy5{xs:List Int}(hl:xs.length<4611686018427387904)(v:Int):zbq xs v=some (ixZ (zoH xs v)):=by
 unfold zbq;have h:=zqb xs v hl (xs.length+2) 0 (qaz _) (by omega);rw[show((0:Nat):Int)=0 from rfl,qbm]at h;rw[zaI,h,qaa];cases zoH xs v with
 | none=>rfl
 | some k=>simp only[qaR]; rfl
theorem FcOk.vl(h:FcOk f):(iL f.vs).length<4611686018427387904:=by rw[zal,h.len]; have:=h.le; omega
theorem ziB(h:FcOk f)(v:Int):zap f.T v=some (ixZ (zoH (iL f.vs) v)):=by
 unfold zap;rw[show f.T.factor.vars=iL f.vs from rfl,zy5 h.vl,qaa]
theorem zv5(o:Option Nat):decide ((0:Int)<=ixZ o)=o.isSome:=by
 cases o with
 | none=>rfl
 | some k=>exact qdz (qbL k)
def pos:List Nat->Nat->Option Nat
 | [],_=>none
 | x :: xs,v=>bif x == v then some 0 else(pos xs v).map (· + 1)
theorem zdv:∀(xs:List Nat) (v:Nat),zoH (iL xs) (v:Int)=pos xs v
 | [],v=>rfl
 | x :: xs,v=>by
  show(bif ((x:Int)==(v:Int))then some 0 else(zoH (iL xs) (v:Int)).map (· + 1))=pos (x :: xs) v;rw[zdv xs v];show _=(bif x == v then some 0 else(pos xs v).map (· + 1));cases hb:(x == v)with
  | true=>
   have:x=v:=by simpa using hb
   subst this;rw[qdB]
  | false=>
   have h1:x≠v:=by simpa using hb
   have h2:((x:Int)==(v:Int))=false:=qdC (by omega);rw[h2]
theorem zdb{xs:List Nat}{k:Nat}(h:pos xs v=some k):∃ hk:k<xs.length,xs[k]=v:=by
 rw[<- zdv]at h;obtain⟨h1,h2⟩:=zoa h;rw[zal]at h1;refine⟨h1,?_⟩;rw[zyl h1]at h2;omega
theorem ziY(h:pos xs v=none):v ∉ xs:=by
 rw[<- zdv]at h;have:=znp h;intro hm;exact this (qaE.2 ⟨v,hm,rfl⟩)
theorem zjG(h:v∈xs):∃ k,pos xs v=some k:=by
 cases hp:pos xs v with
 | none=>exact absurd h (ziY hp)
 | some k=>exact⟨k,rfl⟩
def zfK(f g:Fc):Nat->List Nat->Bool
 | _,[]=>true
 | i,v :: vs=>(match pos g.vs v with | none=>true | some k=>g.cs.getD k 0 == f.cs.getD i 0) && zfK f g (i+1) vs
theorem zeB(h:i<xs.length):zaO (iL xs) (i:Int)=some ((xs.getD i 0:Nat):Int):=by
 rw[zbf h]; simp[List.getD,h]
theorem zvV(a b:Nat):((a:Int)==(b:Int))=(a == b):=by
 rw[qdr,qdA,qdA];exact Int.ofNat_inj
theorem zte{f g:Fc}(hf:FcOk f)(hg:FcOk g):∀(n i:Nat),i<=f.vs.length->f.vs.length - i<n->zb5 f.T g.T n (i:Int)=some (bif zfK f g i (f.vs.drop i)then .go ()else .ret false)
 | 0,_,_,h=>absurd h (qat _)
 | n+1,i,hi,hn=>by
  have hle:=hf.le;have hlen:=hf.len;unfold zb5;rw[show f.T.factor.vars=iL f.vs from rfl,show f.T.factor.zae=iL f.cs from rfl,show g.T.factor.zae=iL g.cs from rfl,zal];rcases qaY i f.vs.length with h3 | h3
  .rw[zyj h3,qdw,zbf h3,qaa,ziB hg,zdv,qaa,zv5,qaA h3];simp only[zfK];have ih:=zte hf hg n (i+1) h3 (by omega);cases hp:pos g.vs f.vs[i]with
   | none=>
    rw[Option.isSome_none,qdx,qaa,qdx,zak (by omega),ih,qbG]
   | some k=>
    obtain⟨hk,_⟩:=zdb hp;rw[qc2,qdw,show ixZ (some k)=(k:Int)from rfl,zeB (by rw[<- hg.len]; exact hk),qaa,zeB (by omega),qaa,qaa,zvV];cases hb:(g.cs.getD k 0 == f.cs.getD i 0)with
    | true=>simp only[hb]; rw[qbf,qdx,zak (by omega),ih,qbG]
    | false=>simp only[hb]; rw[qbE,qdw,Bool.false_and]; rfl
  obtain rfl:i=f.vs.length:=by omega
  rw[zyd,qdx,qbq];rfl
theorem zz6{g:Fc}(hf:FcOk f)(hg:FcOk g):zc5 f.T g.T=some (zfK f g 0 f.vs):=by
 unfold zc5;have h:=zte hf hg (f.vs.length+2) 0 (qaz _) (by omega);rw[show((0:Nat):Int)=0 from rfl,qbm]at h;rw[show f.T.factor.vars=iL f.vs from rfl,zal,zaI,h,qaa];cases zfK f g 0 f.vs<;>rfl
def dig:List Nat->Nat->List Nat
 | [],_=>[]
 | _ :: cs,i=>i / zab cs :: dig cs (i % zab cs)
theorem zfC:∀(cs:List Nat) (i:Nat),(dig cs i).length=cs.length
 | [],_=>rfl
 | _ :: cs,i=>by simp[dig,zfC cs]
def dot:List Nat->List Nat->Nat
 | x :: xs,s :: ss=>x * s+dot xs ss
 | _,_=>0
theorem zlY:∀ {xs ss:List Nat} (ys ts:List Nat),xs.length=ss.length->dot (xs ++ ys) (ss ++ ts)=dot xs ss+dot ys ts
 | [],[],ys,ts,_=>by simp[dot]
 | x :: xs,s :: ss,ys,ts,h=>by
  simp only[qbk,dot];rw[zlY ys ts (by simpa using h)]; omega
 | [],_ :: _,_,_,h=>by simp at h
 | _ :: _,[],_,_,h=>by simp at h
theorem zpY(x s:Nat):dot [x] [s]=x * s:=by simp[dot]
def zcK:List Nat->List Nat->Prop
 | [],[]=>True
 | c :: cs,x :: xs=>x<c/\c<=8/\zcK cs xs
 | _,_=>False
theorem zcK.len:∀ {cs xs:List Nat},zcK cs xs->xs.length=cs.length
 | [],[],_=>rfl
 | c :: cs,x :: xs,h=>by simp[h.2.2.len]
theorem zcK.snoc:∀ {cs xs:List Nat} {c x:Nat},zcK (cs ++ [c]) (xs ++ [x])->xs.length=cs.length->zcK cs xs/\x<c/\c<=8
 | [],[],c,x,h,_=>⟨qdv,h.1,h.2.1⟩
 | c :: cs,x :: xs,_,_,h,hl=>by
  obtain⟨h1,h2,h3⟩:=h;obtain⟨g1,g2⟩:=h3.snoc (by simpa using hl);exact⟨⟨h1,h2,g1⟩,g2⟩
theorem zb8{cs:List Nat}(h:∀ c∈cs,1<=c/\c<=8):0<zab cs:=zcQ λc hc=>(h c hc).1
theorem zfc:∀ {cs:List Nat} {i:Nat},(∀ c∈cs,1<=c/\c<=8)->i<zab cs->zcK cs (dig cs i)
 | [],_,_,_=>trivial
 | c :: cs,i,h,hi=>by
  have hc:=h c qam;have hp:=zb8 λd hd=>h d (qag c hd)
  refine⟨?_,hc.2,zfc (λd hd=>h d (qag c hd)) (qbp _ hp)⟩;have h1:i<c * zab cs:=hi;exact qbR (by rw[qaV]; exact h1)
theorem zx3:∀ {cs xs ss:List Nat},zcK cs xs->(∀ s∈ss,s<=4096)->dot xs ss<=cs.length * 32768
 | [],[],_,_,_=>by simp[dot]
 | c :: cs,x :: xs,[],_,_=>by simp[dot]
 | c :: cs,x :: xs,s :: ss,h,hs=>by
  have h1:=zx3 h.2.2 λt ht=>hs t (qag _ ht)
  have h2:=hs s qam;have h3:x * s<=8 * 4096:=qbc (by have:=h.1; have:=h.2.1; omega) h2;simp only[dot,qay];omega
def nxt:List Nat->List Nat->Option (List Nat)
 | c :: cs,v :: vs=>match nxt cs vs with
  | some vs'=>some (v :: vs')
  | none=>if v+1<c then some ((v+1):: List.replicate vs.length 0)else none
 | _,_=>none
theorem zi8:∀ {cs vs:List Nat} {c v:Nat},vs.length=cs.length->v+1<c->nxt (cs ++ [c]) (vs ++ [v])=some (vs ++ [v+1])
 | [],[],c,v,_,h=>by simp[nxt,h]
 | d :: cs,u :: vs,c,v,hl,h=>by
  simp only[qbk,nxt,zi8 (show vs.length=cs.length by simpa using hl) h]
theorem ziC:∀ {cs vs:List Nat} {c v:Nat},vs.length=cs.length->¬ v+1<c->nxt (cs ++ [c]) (vs ++ [v])=(nxt cs vs).map (· ++ [0])
 | [],[],c,v,_,h=>by simp[nxt,h]
 | d :: cs,u :: vs,c,v,hl,h=>by
  simp only[qbk,nxt,ziC (show vs.length=cs.length by simpa using hl) h];cases hn:nxt cs vs with
  | some vs'=>rfl
  | none=>
   simp only[qdp];by_cases hu:u+1<d
   .rw[if_pos hu,if_pos hu];simp[List.replicate_succ']
   rw[if_neg hu,if_neg hu]; rfl
theorem zms:∀(cs:List Nat),dig cs 0=List.replicate cs.length 0
 | []=>rfl
 | c :: cs=>by simp[dig,zms cs,qa1]
theorem ztm:∀ {cs:List Nat} {i:Nat},(∀ c∈cs,1<=c/\c<=8)->i<zab cs->nxt cs (dig cs i)=if i+1<zab cs then some (dig cs (i+1))else none
 | [],i,_,hi=>by
  have:i=0:=by simpa [zab]using hi
  subst this;simp[nxt,zab]
 | c :: cs,i,h,hi=>by
  have hp:=zb8 λd hd=>h d (qag c hd)
  have hm:=qbp i hp;have ih:=ztm (λd hd=>h d (qag c hd)) hm;have hi':i<c * zab cs:=hi;simp only[dig,nxt,ih];have hdm:=qb8 i (zab cs);generalize hq:i / zab cs=q at *;generalize hr:i % zab cs=r at *;have hprod:zab (c :: cs)=c * zab cs:=rfl;by_cases h1:r+1<zab cs
  .rw[if_pos h1];have e1:(i+1) / zab cs=q:=by
    rw[<- hdm,qbw,Nat.mul_add_div hp,qbZ h1,qbz]
   have e2:(i+1) % zab cs=r+1:=by
    rw[<- hdm,qbw,Nat.mul_add_mod,qbe h1]
   have hqc:q<c:=by rw[<- hq]; exact qbR (by rw[qaV]; exact hi')
   have h2:i+1<zab (c :: cs):=by
    rw[hprod];have:(q+1)* zab cs<=c * zab cs:=qav _ hqc;rw[qaM,qbh,qaV q]at this;omega
   rw[if_pos h2,e1,e2]
  rw[if_neg h1];have hr1:r+1=zab cs:=by omega
  have hi1:i+1=zab cs * (q+1):=by rw[qdd,qb1]; omega
  simp only;have h4:(q+1<c)↔(i+1<zab (c :: cs)):=by
   rw[hprod,hi1,qaV c];exact(Nat.mul_lt_mul_left hp).symm
  by_cases h5:q+1<c
  .rw[if_pos h5,if_pos (h4.1 h5),hi1,Nat.mul_div_cancel_left _ hp,Nat.mul_mod_right,zms,zfC]
  rw[if_neg h5,if_neg (λh=>h5 (h4.2 h))]
variable{ys:List Nat}{x k:Nat}
theorem zcX(h:xs.length=k):zaO (iL (xs ++ x :: ys)) (k:Int)=some (x:Int):=by
 subst h;rw[zbf (by simp)];simp
theorem zeo{y:Nat}(h:xs.length=k):ze5 (iL (xs ++ x :: ys)) (k:Int) (y:Int)=some (iL (xs ++ y :: ys)):=by
 subst h;rw[zfD (by rw[zal]; simp)];simp[iL]
theorem zpG(h:xs.length=k+1):∃ ys y,xs=ys ++ [y]/\ys.length=k:=by
 have hne:xs≠[]:=by rintro rfl; simp at h
 exact⟨xs.dropLast,xs.getLast hne,(List.dropLast_concat_getLast hne).symm,by simp[h]⟩
theorem zrc:∀(k:Nat) (xs cx sx cy sy zs:List Nat) (e:Nat),xs.length=k->cx.length=k->sx.length=k->zcK cx xs->(∀ s∈sx,s<=4096)->k<=12->e<=1000000 ->
  ∃ r,zk1 (iL (cx ++ cy)) (iL (sx ++ sy)) k (iL (xs ++ zs)) ((dot xs sx+e:Nat):Int)=some r/\match nxt cx xs with
   | none=>r.2.2 = -1
   | some xs'=>∃(j:Nat) (v st:Int),r.2.2=(j:Int)/\zaO r.1 (j:Int)=some v/\ze5 r.1 (j:Int) (w64 (v+1))=some (iL (xs' ++ zs))/\zaO (iL (sx ++ sy)) (j:Int)=some st/\w64 (r.2.1+st)=((dot xs' sx+e:Nat):Int)
 | 0,xs,cx,sx,cy,sy,zs,e,hx,hc,hs,_,_,_,_=>by
  obtain rfl:xs=[]:=qaN.1 hx;obtain rfl:cx=[]:=qaN.1 hc;exact⟨_,rfl,rfl⟩
 | k+1,xs,cx,sx,cy,sy,zs,e,hx,hc,hs,hb,hsm,hk,he=>by
  obtain⟨xs,x,rfl,lx⟩:=zpG hx;obtain⟨cx,c,rfl,lc⟩:=zpG hc;obtain⟨sx,s,rfl,ls⟩:=zpG hs;obtain⟨hb1,hb2,hb3⟩:=hb.snoc (lx.trans lc.symm);have hd:=zx3 hb1 λt ht=>hsm t (qcU _ ht)
  have hss:s<=4096:=hsm s (by simp);have hxs:x * s<=8 * 4096:=qbc (by omega) hss;have hlen:cx.length * 32768<=12 * 32768:=qav _ (by omega);simp only[qaI,qaT];unfold zk1;rw[zcX lx,qaa,zcX lc,qaa,zf7 (by omega) (by omega)];rw[zlY [x] [s] (lx.trans ls.symm),zpY];by_cases h1:x+1<c
  .rw[show((x:Int)==(c:Int) - 1)=false from qdC (by omega),qdx,zi8 (lx.trans lc.symm) h1];refine⟨_,rfl,k,(x:Int),(s:Int),rfl,zcX lx,?_,zcX ls,?_⟩
   .rw[zak (by omega),zeo lx]; simp
   rw[zlY [x+1] [s] (lx.trans ls.symm),zpY,<- qbM,zas (by omega),qaM];congr 1; omega
  rw[show((x:Int)==(c:Int) - 1)=true by rw[show(x:Int)=(c:Int) - 1 by omega]; exact qdB _,qdw,zcX ls,qaa,show(0:Int)=((0:Nat):Int)from rfl,zeo lx,qaa,<- qaU,
   zas (by omega),show(((dot xs sx+x * s+e:Nat):Int) - ((x * s:Nat):Int))=((dot xs sx+e:Nat):Int) by omega,zas (by omega),ziC (lx.trans lc.symm) h1]
  obtain⟨r,h2,h3⟩:=zrc k xs cx sx (c :: cy) (s :: sy) (0 :: zs) e lx lc ls hb1 (λt ht=>hsm t (qcU _ ht)) (by omega) he;refine⟨r,h2,?_⟩;cases hn:nxt cx xs with
  | none=>rw[hn]at h3; exact h3
  | some xs'=>
   rw[hn]at h3;obtain⟨j,v,st,g1,g2,g3,g4,g5⟩:=h3;have hl':xs'.length=sx.length:=by
    have:∀ {cs vs ws:List Nat},nxt cs vs=some ws->vs.length=cs.length->ws.length=vs.length:=by
     intro cs;induction cs with
     | nil=>intro vs ws h _; simp[nxt]at h
     | cons d cs ih=>
      intro vs ws h hl;cases vs with
      | nil=>simp[nxt]at h
      | cons u vs=>
       simp only[nxt]at h;cases hq:nxt cs vs with
       | some vs'=>
        rw[hq]at h;cases h;simp[ih hq (by simpa using hl)]
       | none=>
        rw[hq]at h;simp only at h;split at h
        .cases h; simp
        cases h
    rw[this hn (lx.trans lc.symm),lx,ls]
   refine⟨j,v,st,g1,g2,by rw[g3]; simp,g4,?_⟩;rw[g5,zlY [0] [s] hl',zpY,qcc,qbz]
def zh9(cs ss:List Nat)(i m:Nat):List (Int×Int×List Int):=(List.range' i m).map λj:Nat=>((j:Int),((dot (dig cs j) ss:Nat):Int),iL (dig cs j))
theorem zBn{cs ss:List Nat}(hc:∀ c∈cs,1<=c/\c<=8)(hl:cs.length<=12)(hp:zab cs<=4096)(hs:ss.length=cs.length)(hsm:∀ s∈ss,s<=4096):∀(m i n:Nat),i+(m+1)=zab cs->m<n ->
  zBi (iL cs) (iL ss) n (iL (dig cs i)) (i:Int) ((dot (dig cs i) ss:Nat):Int)=some (zh9 cs ss i (m+1))
 | m,i,0,_,h=>absurd h (qat _)
 | m,i,n+1,hi,hn=>by
  have hb:=zfc hc (show i<zab cs by omega);obtain⟨r,h1,h2⟩:=zrc cs.length (dig cs i) cs ss [] [] [] 0 (zfC _ _) rfl hs hb hsm hl (by omega);simp only[qaZ,qbz]at h1 h2;unfold zBi;rw[zal,h1,qaa];rw[ztm hc (show i<zab cs by omega)]at h2;cases m with
  | zero=>
   rw[if_neg (by omega)]at h2;simp only at h2;rw[h2];rfl
  | succ m=>
   rw[if_pos (by omega)]at h2;simp only at h2;obtain⟨j,v,st,g1,g2,g3,g4,g5⟩:=h2;rw[g1,show decide ((j:Int)<0)=false from qdy (by omega),qdx,g2,qaa,g3,qaa,g4,qaa,g5,zak (by omega),zBn hc hl hp hs hsm m (i+1) n (by omega) (by omega)];rfl
theorem ztY(cs:List Nat):∀ a:Nat,(iL cs).foldl (· * ·) (a:Int)=((a * zab cs:Nat):Int):=by
 induction cs with
 | nil=>intro a; simp[iL,zab]
 | cons c cs ih=>
  intro a;show(iL cs).foldl (· * ·) ((a:Int)* (c:Int))=_;rw[<- qaU,ih,qa6];rfl
theorem zvc{cs ss:List Nat}(hc:∀ c∈cs,1<=c/\c<=8)(hl:cs.length<=12)(hp:zab cs<=4096)(hs:ss.length=cs.length)(hsm:∀ s∈ss,s<=4096):zyS (iL cs) (iL ss)=some (zh9 cs ss 0 (zab cs)):=by
 have hpos:=zb8 hc;unfold zyS zeR;rw[if_pos (by rw[zal]; omega),qaa,zal,zde (by omega),qaa];have h:=ztY cs 1;rw[show((1:Nat):Int)=1 from rfl]at h;rw[h,qbh,qaL];obtain⟨m,hm⟩:∃ m,zab cs=m+1:=⟨zab cs - 1,by omega⟩;have e:=zBn hc hl hp hs hsm m 0 (m+1) (by omega) (by omega);have hz:∀(n:Nat) (ss:List Nat),dot (List.replicate n 0) ss=0:=by
  intro n;induction n with
  | zero=>intro ss; simp[dot]
  | succ n ih=>
   intro ss;cases ss with
   | nil=>simp[qa1,dot]
   | cons s ss=>simp[qa1,dot,ih]
 rw[zms,hz,zfW]at e;rw[hm];exact e
theorem zFx(k:Nat):decide ((0:Int)<=(k:Int))=true:=qdz (qbL k)
theorem pred_succ(k:Nat):((k+1:Nat):Int) - 1=(k:Int):=by omega
theorem zlx{cs:List Nat}(hc:∀ c∈cs,1<=c)(hp:zab cs<=4096):∀ s∈zaB cs,s<=4096:=by
 induction cs with
 | nil=>intro s hs; cases hs
 | cons c cs ih=>
  have h1:=hc c qam;have h2:zab cs<=4096:=qan (qcj (zab cs) h1) hp;intro s hs;rcases qax.1 hs with rfl | hs
  .exact h2
  exact ih (λd hd=>hc d (qag _ hd)) h2 s hs
theorem zcK.drop:∀ {cs xs:List Nat} (k:Nat),zcK cs xs->zcK (cs.drop k) (xs.drop k)
 | cs,xs,0,h=>h
 | [],[],k+1,_=>trivial
 | c :: cs,x :: xs,k+1,h=>h.2.2.drop k
theorem zj8:∀ {cs ds:List Nat},zcK cs ds->dot ds (zaB cs)<zab cs
 | [],[],_=>by simp[dot,zab]
 | c :: cs,d :: ds,h=>by
  have h1:=zj8 h.2.2;show d * zab cs+dot ds (zaB cs)<c * zab cs;have h2:(d+1)* zab cs<=c * zab cs:=qav _ h.1;rw[qaM,qbh]at h2;omega
theorem zih:∀ {cs:List Nat} {i:Nat},(∀ c∈cs,1<=c/\c<=8)->i<zab cs->dot (dig cs i) (zaB cs)=i
 | [],i,_,h=>by
  have:i=0:=by simpa [zab]using h
  subst this; rfl
 | c :: cs,i,hc,h=>by
  have hp:=zb8 λd hd=>hc d (qag c hd)
  show i / zab cs * zab cs+dot (dig cs (i % zab cs)) (zaB cs)=i;rw[zih (λd hd=>hc d (qag c hd)) (qbp _ hp),qaV];exact qb8 i (zab cs)
theorem zmx:∀ {cs ds:List Nat},zcK cs ds->dig cs (dot ds (zaB cs))=ds
 | [],[],_=>rfl
 | c :: cs,d :: ds,h=>by
  have h1:=zj8 h.2.2;have hp:0<zab cs:=by omega
  show((d * zab cs+dot ds (zaB cs)) / zab cs):: dig cs ((d * zab cs+dot ds (zaB cs)) % zab cs)=d :: ds;rw[qaV d,Nat.mul_add_div hp,qbZ h1,qbz,Nat.mul_add_mod,qbe h1,zmx h.2.2]
def stp:List Nat->List Nat->Nat->Nat
 | v :: vs,_ :: cs,u=>bif v == u then zab cs else stp vs cs u
 | _,_,_=>0
def at_:List Nat->List Nat->Nat->Nat
 | v :: vs,d :: ds,u=>bif v == u then d else at_ vs ds u
 | _,_,_=>0
theorem zka:∀ {vs cs:List Nat} {u:Nat},vs.length=cs.length->stp vs cs u=(match pos vs u with | none=>0 | some k=>(zaB cs).getD k 0)
 | [],_,u,_=>by simp[stp,pos]
 | v :: vs,[],_,h=>by simp at h
 | v :: vs,c :: cs,u,h=>by
  have ih:=zka (u:=u) (show vs.length=cs.length by simpa using h);unfold stp pos;cases hb:(v == u)with
  | true=>rfl
  | false=>
   rw[qdx,qdx,ih];cases pos vs u with
   | none=>rfl
   | some k=>simp[zaB]
theorem zuR{f:Fc}(hf:FcOk f){vs:List Nat}(hl:vs.length<=100):∀(n i:Nat),i<=vs.length->vs.length - i<n ->
  zbe (iL vs) f.T n (i:Int) (iL ((vs.map (stp f.vs f.cs)).take i ++ List.replicate (vs.length - i) 0))=some (iL (vs.map (stp f.vs f.cs)))
 | 0,_,_,h=>absurd h (qat _)
 | n+1,i,hi,hn=>by
  unfold zbe;rw[zal];rcases qaY i vs.length with h3 | h3
  .have ih:=zuR hf hl n (i+1) h3 (by omega);have ht:((vs.map (stp f.vs f.cs)).take i).length=i:=by simp; omega
   have e:List.replicate (vs.length - i) 0=0 :: List.replicate (vs.length - (i+1)) 0:=by
    rw[show vs.length - i=(vs.length - (i+1))+1 by omega,qa1]
   have e2:(vs.map (stp f.vs f.cs)).take (i+1)=(vs.map (stp f.vs f.cs)).take i ++ [stp f.vs f.cs vs[i]]:=by
    rw[qcv (by simpa using h3)]; simp
   rw[e2,qaI,qaT]at ih;rw[zyj h3,qdw,zbf h3,qaa,ziB hf,qaa,zdv,zv5,e];rw[zka hf.len]at ih;cases hp:pos f.vs vs[i]with
   | none=>
    rw[hp]at ih;rw[Option.isSome_none,qdx,qaa,zak (by omega)];exact ih
   | some k=>
    rw[hp]at ih;obtain⟨hk,_⟩:=zdb hp;rw[qc2,qdw,show ixZ (some k)=(k:Int)from rfl,show f.T.steps=iL (zaB f.cs)from rfl,zeB (by rw[zgo,<- hf.len]; exact hk),qaa,zcX ht,qaa,zeo ht,qaa,qaa,zak (by omega)];exact ih
  obtain rfl:i=vs.length:=by omega
  rw[zyd,qdx,qcr,qcg,qaZ,qaS (by simp)]
variable{vs:List Nat}
theorem zo9(hf:FcOk f)(hl:vs.length<=100):za1 f.T (iL vs)=some (iL (vs.map (stp f.vs f.cs))):=by
 unfold za1;have h:=zuR hf hl (vs.length+2) 0 (qaz _) (by omega);rw[qb2,qa4,qco,zfW,show((0:Nat):Int)=0 from rfl]at h;rw[zal,zde (by omega),qaa,zaI,h];rfl
theorem zv4(g h:Nat->Nat):∀(ds vs:List Nat),dot ds (vs.map λv=>g v+h v)=dot ds (vs.map g)+dot ds (vs.map h)
 | [],_=>by simp[dot]
 | d :: ds,[]=>by simp[dot]
 | d :: ds,v :: vs=>by
  simp only[qaH,dot,zv4 g h ds vs,qdd];omega
theorem zlC:∀(ds vs:List Nat) (g:Nat->Nat),(∀ v∈vs,g v=0)->dot ds (vs.map g)=0
 | [],_,_,_=>by simp[dot]
 | d :: ds,[],_,_=>by simp[dot]
 | d :: ds,v :: vs,g,h=>by
  simp only[qaH,dot,h v qam,Nat.mul_zero,zlC ds vs g λu hu=>h u (qag _ hu)]
theorem ztT{u p:Nat}:∀ {vs ds:List Nat},vs.Nodup->dot ds (vs.map λv=>bif u == v then p else 0)=at_ vs ds u * p
 | [],ds,_=>by cases ds<;>simp[dot,at_]
 | v :: vs,[],_=>by simp[dot,at_]
 | v :: vs,d :: ds,h=>by
  obtain⟨h1,h2⟩:=qa7.1 h;simp only[qaH,dot,at_];by_cases hb:u=v
  .subst hb;rw[qdB,qdw,qdw,zlC ds vs _ (λw hw=>by rw[show(u == w)=false from qdC (λe=>h1 (e ▸ hw))]; rfl),qbz]
  rw[show(u == v)=false from qdC hb,show(v == u)=false from qdC (λe=>hb e.symm),qdx,qdx,ztT h2,Nat.mul_zero,qaR]
theorem ztd:∀ {us cs:List Nat} {u:Nat},u ∉ us->stp us cs u=0
 | [],_,_,_=>by simp[stp]
 | v :: us,[],_,_=>by simp[stp]
 | v :: us,c :: cs,u,h=>by
  unfold stp;rw[show(v == u)=false from qdC (λe=>h (by rw[e]; exact qam)),qdx,ztd λhm=>h (qag _ hm)]
theorem zpp{vs ds:List Nat}(hv:vs.Nodup):∀ {us cs:List Nat},us.length=cs.length->us.Nodup->dot ds (vs.map (stp us cs))=dot (us.map (at_ vs ds)) (zaB cs)
 | [],cs,_,_=>by
  rw[zlC ds vs _ λv _=>by simp[stp]];simp[dot]
 | u :: us,[],h,_=>by simp at h
 | u :: us,c :: cs,h,hn=>by
  obtain⟨h1,h2⟩:=qa7.1 hn;have e:vs.map (stp (u :: us) (c :: cs))=vs.map λv=>(bif u == v then zab cs else 0)+stp us cs v:=by
   refine qbs λv _=>?_
   rw[show stp (u :: us) (c :: cs) v=bif u == v then zab cs else stp us cs v from rfl];cases hb:(u == v)with
   | true=>
    have:u=v:=by simpa using hb
    subst this;rw[qdw,qdw,ztd h1]; rfl
   | false=>
    rw[qdx,qdx,qaR]
  rw[e,zv4,ztT hv,zpp hv (by simpa using h) h2];rfl
theorem za5(h:vs.Pairwise (· < ·)):vs.Nodup:=h.imp λh=>Nat.ne_of_lt h
def zoG(vs ws:List Nat):List Nat->List Nat->Prop
 | [],[]=>True
 | u :: us,c :: cs=>(u∈vs/\at_ vs ws u=c)/\zoG vs ws us cs
 | _,_=>False
theorem zma:∀ {vs ws ds:List Nat} {u:Nat},vs.length=ws.length->zcK ws ds->u∈vs->at_ vs ds u<at_ vs ws u/\at_ vs ws u<=8
 | v :: vs,w :: ws,d :: ds,u,hl,hb,hm=>by
  unfold at_;by_cases h:v=u
  .subst h;rw[qdB,qdw,qdw];exact⟨hb.1,hb.2.1⟩
  .rw[show(v == u)=false from qdC h,qdx,qdx];rcases qax.1 hm with e | hm
   .exact absurd e.symm h
   .exact zma (by simpa using hl) hb.2.2 hm
 | [],_,_,_,_,_,hm=>by cases hm
 | v :: vs,[],_,_,hl,_,_=>by simp at hl
 | v :: vs,w :: ws,[],_,_,hb,_=>hb.elim
theorem zoG.below{vs ws ds:List Nat}(hl:vs.length=ws.length)(hb:zcK ws ds):∀ {us cs:List Nat},zoG vs ws us cs->zcK cs (us.map (at_ vs ds))
 | [],[],_=>trivial
 | u :: us,c :: cs,⟨⟨h1,h2⟩,h3⟩=>by
  have:=zma hl hb h1;rw[h2]at this;exact⟨this.1,this.2,zoG.below hl hb h3⟩
 | [],_ :: _,h=>h.elim
 | _ :: _,[],h=>h.elim
theorem zoG.mem{vs ws:List Nat}:∀ {us cs:List Nat},zoG vs ws us cs->∀ u∈us,u∈vs
 | [],[],_,_,hu=>by cases hu
 | u :: us,c :: cs,⟨⟨h1,_⟩,h3⟩,w,hw=>by
  rcases qax.1 hw with rfl | hw
  .exact h1
  .exact zoG.mem h3 w hw
 | [],_ :: _,h,_,_=>h.elim
 | _ :: _,[],h,_,_=>h.elim
def Fc.at(f:Fc)(vs ds:List Nat):Nat:=f.ws.getD (dot (f.vs.map (at_ vs ds)) (zaB f.cs)) 0
theorem zzx(ha:a<18446744073709551616):zkX .u64 (a:Int) 4294967295=((a % 4294967296:Nat):Int):=by
 rw[show(4294967295:Int)=((4294967295:Nat):Int)from rfl,zEW ha (by omega)];congr 1
 exact Nat.and_two_pow_sub_one_eq_mod a 32
theorem ztN(a:Nat):zki .u64 (a:Int) 32=some ((a / 4294967296:Nat):Int):=by
 have h:=zD8 (a:=a) (v:=32) (by omega);rw[show((32:Nat):Int)=32 from rfl]at h;rw[h,qb4]
theorem zEi{y:Nat}(hx:x<18446744073709551616)(hy:y<18446744073709551616):zd8 (x:Int) (y:Int)=some (((x * y / 18446744073709551616:Nat):Int),((x * y % 18446744073709551616:Nat):Int)):=by
 unfold zd8;rw[ztN,qaa,ztN,qaa,zzx hx,zzx hy];have ex:x=x / 4294967296 * 4294967296+x % 4294967296:=by omega
 have ey:y=y / 4294967296 * 4294967296+y % 4294967296:=by omega
 have exy:x * y=(x / 4294967296)* (y / 4294967296)* 18446744073709551616+((x / 4294967296)* (y % 4294967296)+(x % 4294967296)* (y / 4294967296))* 4294967296+(x % 4294967296)* (y % 4294967296):=by
  have:∀ a b c d:Nat,(a * 4294967296+b)* (c * 4294967296+d)=a * c * 18446744073709551616+(a * d+b * c)* 4294967296+b * d:=by
   intro a b c d;rw[qaM,qdd,qdd,Nat.mul_mul_mul_comm,show b * (c * 4294967296)=b * c * 4294967296 from(qa6 _ _ _).symm,show a * 4294967296 * d=a * d * 4294967296 by rw[qa6,qaV 4294967296 d,qa6]];omega
  calc x * y=(x / 4294967296 * 4294967296+x % 4294967296)* (y / 4294967296 * 4294967296+y % 4294967296):=by rw[<- ex,<- ey]
   _=_:=this _ _ _ _
 rw[show(x:Int)* (y:Int)=((x * y:Nat):Int)from(qaU x y).symm,zw6];have ha:x / 4294967296<=4294967295:=by omega
 have hb:x % 4294967296<=4294967295:=by omega
 have hc:y / 4294967296<=4294967295:=by omega
 have hd:y % 4294967296<=4294967295:=by omega
 rw[exy];generalize x / 4294967296=a at *;generalize x % 4294967296=b at *;generalize y / 4294967296=c at *;generalize y % 4294967296=d at *;have h1:a * c<=4294967295 * 4294967295:=qbc ha hc;have h2:a * d<=4294967295 * 4294967295:=qbc ha hd;have h3:b * c<=4294967295 * 4294967295:=qbc hb hc;have h4:b * d<=4294967295 * 4294967295:=qbc hb hd;rw[<- qaU,<- qaU,<- qaU,<- qaU];generalize a * c=p at *;generalize a * d=q at *;generalize b * c=r at *;generalize b * d=s at *
 rw[zbS (n:=s) (by omega),ztN,qaa,zbS (n:=q) (by omega),<- qbM,zbS (n:=q+s / 4294967296) (by omega),ztN,qaa,zzx (by omega),zbS (n:=r) (by omega),<- qbM,zbS (n:=(q+s / 4294967296) % 4294967296+r) (by omega),ztN,qaa,
  zbS (n:=p) (by omega),<- qbM,zbS (n:=p+(q+s / 4294967296) / 4294967296) (by omega),<- qbM,zbS (n:=p+(q+s / 4294967296) / 4294967296+((q+s / 4294967296) % 4294967296+r) / 4294967296) (by omega)]
 congr 2
 congr 1
 omega
theorem zuB:(pos xs v).isSome=decide (v∈xs):=by
 cases h:pos xs v with
 | none=>exact(qdy (ziY h)).symm
 | some k=>
  obtain⟨hk,e⟩:=zdb h;exact(qdz (e ▸ qau hk)).symm
theorem zfr(u d:Nat)(us ds:List Nat)(v:Nat):at_ (u :: us) (d :: ds) v=bif u == v then d else at_ us ds v:=rfl
theorem zqI:∀ {vs ds:List Nat} {v k:Nat},pos vs v=some k->at_ vs ds v=ds.getD k 0
 | [],_,_,_,h=>by cases h
 | u :: us,[],v,k,_=>by simp[at_]
 | u :: us,d :: ds,v,k,h=>by
  rw[zfr];rw[show pos (u :: us) v=bif u == v then some 0 else(pos us v).map (· + 1)from rfl]at h;cases hb:(u == v)with
  | true=>rw[hb,qdw]at h; cases h; rw[qdw]; rfl
  | false=>
   rw[hb,qdx]at h;cases hp:pos us v with
   | none=>rw[hp]at h; cases h
   | some j=>rw[hp]at h; cases h; rw[qdx,zqI hp]; rfl
def inB(f g:Fc)(v:Nat):Bool:=decide (v∈f.vs)|| decide (v∈g.vs)
def cdF(f g:Fc)(v:Nat):Nat:=bif decide (v∈f.vs)then at_ f.vs f.cs v else at_ g.vs g.cs v
def uni(f g:Fc):List Nat:=(List.range' 0 64).filter (inB f g)
theorem zqx:∀ {xs:List Nat} {l:Nat},xs.Pairwise (· < ·)->(∀ x∈xs,l<=x/\x<64)->xs.length<=64 - l
 | [],_,_,_=>by simp
 | x :: xs,l,h,hb=>by
  obtain⟨h1,h2⟩:=qbg.1 h;have hx:=hb x qam;have:=zqx (l:=x+1) h2 λy hy=>⟨h1 y hy,(hb y (qag _ hy)).2⟩
  rw[qay]; omega
theorem ziv(hf:FcOk f)(hp:pos f.vs v=some k):zaO f.D.zae (ixZ (some k))=some ((at_ f.vs f.cs v:Nat):Int):=by
 obtain⟨hk,_⟩:=zdb hp;show zaO (iL f.cs) (k:Int)=_;rw[zeB (by rw[<- hf.len]; exact hk),zqI hp]
theorem zel{g:Fc}(hf:FcOk f)(hg:FcOk g):v∈uni f g↔v∈f.vs\/v∈g.vs:=by
 unfold uni inB;simp only[qaJ,qcP,qbI,decide_eq_true_eq];constructor
 .exact λh=>h.2
 rintro(h | h)
 .exact⟨⟨qaz _,by have:=hf.var _ h; omega⟩,.inl h⟩
 exact⟨⟨qaz _,by have:=hg.var _ h; omega⟩,.inr h⟩
theorem zik(f g:Fc):(uni f g).Pairwise (· < ·):=qbl _ qc6
theorem zyq{f g:Fc}:∀ v∈uni f g,v<64:=by
 intro v hv;have:=(qaJ.1 hv).1;simp only[qcP]at this;omega
theorem zy1(f g:Fc):(uni f g).length<=64:=zqx (l:=0) (zik f g) λx hx=>⟨qaz _,zyq x hx⟩
theorem zh8:∀ {a b:List Nat},a.Pairwise (· < ·)->b.Pairwise (· < ·)->(∀ x,x∈a↔x∈b)->a=b
 | [],[],_,_,_=>rfl
 | [],b :: bs,_,_,h=>by have:=(h b).2 qam; simp at this
 | a :: xs,[],_,_,h=>by have:=(h a).1 qam; simp at this
 | a :: xs,b :: bs,ha,hb,h=>by
  obtain⟨ha1,ha2⟩:=qbg.1 ha;obtain⟨hb1,hb2⟩:=qbg.1 hb;have e:a=b:=by
   rcases qax.1 ((h a).1 qam)with h1 | h1
   .exact h1
   rcases qax.1 ((h b).2 qam)with h2 | h2
   .exact h2.symm
   have:=hb1 a h1; have:=ha1 b h2; omega
  subst e;refine congrArg (a :: ·) (zh8 ha2 hb2 λx=>⟨λhx=>?_,λhx=>?_⟩)
  .rcases qax.1 ((h x).1 (qag _ hx))with rfl | h1
   .have:=ha1 x hx; omega
   exact h1
  rcases qax.1 ((h x).2 (qag _ hx))with rfl | h1
  .have:=hb1 x hx; omega
  exact h1
theorem zqG:∀ {a b:List Int},a.Pairwise (· < ·)->b.Pairwise (· < ·)->(∀ x,x∈a↔x∈b)->a=b
 | [],[],_,_,_=>rfl
 | [],b :: bs,_,_,h=>by have:=(h b).2 qam; simp at this
 | a :: xs,[],_,_,h=>by have:=(h a).1 qam; simp at this
 | a :: xs,b :: bs,ha,hb,h=>by
  obtain⟨ha1,ha2⟩:=qbg.1 ha;obtain⟨hb1,hb2⟩:=qbg.1 hb;have e:a=b:=by
   rcases qax.1 ((h a).1 qam)with h1 | h1
   .exact h1
   rcases qax.1 ((h b).2 qam)with h2 | h2
   .exact h2.symm
   have:=hb1 a h1; have:=ha1 b h2; omega
  subst e;refine congrArg (a :: ·) (zqG ha2 hb2 λx=>⟨λhx=>?_,λhx=>?_⟩)
  .rcases qax.1 ((h x).1 (qag _ hx))with rfl | h1
   .have:=ha1 x hx; omega
   exact h1
  rcases qax.1 ((h x).2 (qag _ hx))with rfl | h1
  .have:=hb1 x hx; omega
  exact h1
section
variable {s:List Int}
theorem zlB{j:Nat}(h:j<s.length):s.toArray[j]! = s[j]:=by simp[h]
theorem zyQ(hs:s.Pairwise (· <= ·)){i j:Nat}(hij:i<=j)(hj:j<s.length):s.toArray[i]!<=s.toArray[j]!:=by
 rw[zlB (by omega),zlB hj];rcases Nat.eq_or_lt_of_le hij with h | h
 .subst h; exact qbU _
 exact qbo.1 hs i j (by omega) hj h
theorem zAo(hs:s.Pairwise (· <= ·)):(Go.Lib.compact s).Pairwise (· < ·):=by
 unfold Go.Lib.compact Go.Lib.compactUpTo;refine qdb.2 ((qbl _ (qck (n:=s.length))).imp_of_mem λ{a b} _ hb hab=>?_);obtain⟨h1,h2⟩:=qaJ.1 hb;have hb:=qbn.1 h1;have h3:s.toArray[b]!≠s.toArray[b - 1]!:=by
  rcases of_decide_eq_true h2 with h | h
  .omega
  exact h
 have h4:=zyQ hs (show a<=b - 1 by omega) (by omega);have h5:=zyQ hs (show b - 1<=b by omega) hb;omega
theorem zq6:∀ j:Nat,j<s.length->∃ i,i<s.length/\Go.Lib.keeps s.toArray i=true/\s.toArray[i]! = s.toArray[j]!
 | 0,h=>⟨0,h,qdz (.inl rfl),rfl⟩
 | j+1,h=>by
  by_cases e:s.toArray[j+1]! = s.toArray[j]!
  .obtain⟨i,h1,h2,h3⟩:=zq6 j (by omega);exact⟨i,h1,h2,h3.trans e.symm⟩
  exact⟨j+1,h,qdz (.inr e),rfl⟩
theorem zA1{x:Int}:x∈Go.Lib.compact s↔x∈s:=by
 unfold Go.Lib.compact Go.Lib.compactUpTo;constructor
 .intro h;obtain⟨j,h1,rfl⟩:=qaE.1 h;have hj:=qbn.1 (qaJ.1 h1).1;rw[zlB hj];exact qau hj
 intro h;obtain⟨j,hj,rfl⟩:=qcV.1 h;obtain⟨i,h1,h2,h3⟩:=zq6 j hj;exact qaE.2 ⟨i,qaJ.2 ⟨qbn.2 h1,h2⟩,h3.trans (zlB hj)⟩
end
theorem zwx(zs:List Int):(zfN zs).Pairwise (· <= ·):=by
 have:=List.pairwise_mergeSort (le:=λx y:Int=>decide (x<=y)) (λa b c h1 h2=>by simp at *; omega) (λa b=>by simp; omega) zs;exact this.imp λh=>by simpa using h
theorem zuY{zs:List Int}{x:Int}:x∈zfN zs↔x∈zs:=List.mem_mergeSort
theorem zB1{xs:List Nat}(h:xs.Pairwise (· < ·)):(iL xs).Pairwise (· < ·):=qdb.2 (h.imp λh=>Int.ofNat_lt.2 h)
theorem zyc{xs:List Nat}{x:Int}:x∈iL xs↔∃ k∈xs,(k:Int)=x:=qaE
variable{f g:Fc}
theorem zAj(hf:FcOk f)(hg:FcOk g):Go.Lib.compact (zfN (iL f.vs ++ iL g.vs))=iL (uni f g):=by
 refine zqG (zAo (zwx _)) (zB1 (zik f g)) λx=>?_
 rw[zA1,zuY,<- zoT,zyc,zyc];constructor
 .rintro⟨k,h1,h2⟩; exact⟨k,(zel hf hg).2 (qbr.1 h1),h2⟩
 rintro⟨k,h1,h2⟩; exact⟨k,qbr.2 ((zel hf hg).1 h1),h2⟩
theorem zvt{f g:Fc}(hf:FcOk f)(hg:FcOk g){vs:List Nat}(hl:vs.length<=100)(hm:∀ v∈vs,v∈f.vs\/v∈g.vs):∀(n i:Nat),i<=vs.length->vs.length - i<n ->
  zbJ (iL vs) f.T g.T n (i:Int) (iL ((vs.map (cdF f g)).take i ++ List.replicate (vs.length - i) 0))=some (iL (vs.map (cdF f g)))
 | 0,_,_,h=>absurd h (qat _)
 | n+1,i,hi,hn=>by
  unfold zbJ;rw[zal];rcases qaY i vs.length with h3 | h3
  .have ih:=zvt hf hg hl hm n (i+1) h3 (by omega);have ht:((vs.map (cdF f g)).take i).length=i:=by simp; omega
   have e:List.replicate (vs.length - i) 0=0 :: List.replicate (vs.length - (i+1)) 0:=by
    rw[show vs.length - i=(vs.length - (i+1))+1 by omega,qa1]
   have e2:(vs.map (cdF f g)).take (i+1)=(vs.map (cdF f g)).take i ++ [cdF f g vs[i]]:=by
    rw[qcv (by simpa using h3)]; simp
   rw[e2,qaI,qaT]at ih;rw[zyj h3,qdw,zbf h3,qaa,ziB hf,qaa,zdv,zv5,e];cases hp:pos f.vs vs[i]with
   | some k=>
    have hm:decide (vs[i]∈f.vs)=true:=by rw[<- zuB,hp]; rfl
    rw[show cdF f g vs[i]=at_ f.vs f.cs vs[i] by unfold cdF; rw[hm]; rfl]at ih;rw[qc2,qdw,show f.T.factor=f.D from rfl,ziv hf hp,qaa,zcX ht,qaa,zeo ht,qaa,qaa,zak (by omega)];exact ih
   | none=>
    have hm1:decide (vs[i]∈f.vs)=false:=by rw[<- zuB,hp]; rfl
    rw[show cdF f g vs[i]=at_ g.vs g.cs vs[i] by unfold cdF; rw[hm1]; rfl]at ih;have hm2:vs[i]∈g.vs:=(hm vs[i] (qau h3)).resolve_left (qdF hm1);obtain⟨k,hq⟩:=zjG hm2;rw[Option.isSome_none,qdx,ziB hg,qaa,zdv,hq,show g.T.factor=g.D from rfl,ziv hg hq,qaa,zcX ht,qaa,zeo ht,qaa,qaa,zak (by omega)];exact ih
  obtain rfl:i=vs.length:=by omega
  rw[zyd,qdx,qcr,qcg,qaZ,qaS (by simp)]
theorem zzb(hf:FcOk f)(hg:FcOk g):zc6 f.T g.T=some (iL (uni f g),iL ((uni f g).map (cdF f g))):=by
 have hl:=zy1 f g;have h1:=hf.le; have h2:=hg.le; have h3:=hf.len; have h4:=hg.len;unfold zc6
 rw[show f.T.factor.vars=iL f.vs from rfl,show g.T.factor.vars=iL g.vs from rfl,zgv (by rw[zal]; omega),qaa,zcv (by rw[zal,zal]; omega),qaa,
  show znW 8 (iL f.vs ++ iL g.vs)=some (zfN (iL f.vs ++ iL g.vs))from by unfold znW; rw[if_pos (by rw[qaq,zal,zal]; simp only[zah]; omega)],qaa,
  show zBj (zfN (iL f.vs ++ iL g.vs))=some (Go.Lib.compact (zfN (iL f.vs ++ iL g.vs)))from rfl,qaa,zAj hf hg,zal,zde (by omega),qaa,zaI]
 have:=zvt hf hg (vs:=uni f g) (by omega) (λv hv=>(zel hf hg).1 hv) ((uni f g).length+2) 0 (qaz _) (by omega);rw[qb2,qa4,qco,zfW]at this;rw[show zbJ (iL (uni f g)) f.T g.T ((uni f g).length+2) 0 (List.replicate (uni f g).length 0)=_ from this];rfl
abbrev noF:S_api_Factor:=⟨[],[],[]⟩
theorem zBC{P:Nat}:((bif (((P / 18446744073709551616:Nat):Int)== 0)then some (decide ((4611686018427387903:Int)<((P % 18446744073709551616:Nat):Int)))else some true):Option Bool)=some (!decide (P<=zc2)):=by
 by_cases h:P / 18446744073709551616=0
 .rw[h,show(((0:Nat):Int)== 0)=true from rfl,qdw];congr 1
  by_cases h2:P<=zc2
  .rw[qdz h2]; exact qdy (by have:P<=4611686018427387903:=h2; omega)
  rw[qdy h2]; exact qdz (by have:¬ P<=4611686018427387903:=h2; omega)
 rw[show(((P / 18446744073709551616:Nat):Int)== 0)=false from beq_eq_false_iff_ne.2 (by omega),qdx,qdy (show ¬ P<=zc2 by intro(h2:P<=4611686018427387903); omega)];rfl
theorem zui{x:Nat}(h:x<=zc2):IntKind.u64.wrap (x:Int)=(x:Int):=by
 have:x<=4611686018427387903:=h;rw[zw6,qbe (by omega)]
theorem zCU{P:Nat}(h:P<=zc2):w64 ((P % 18446744073709551616:Nat):Int)=(P:Int):=by
 have:P<=4611686018427387903:=h;rw[qbe (by omega),zas (by omega)]
structure Dom (u c:List Nat):Prop where
 len:u.length=c.length
 nodup:u.Nodup
 zaC:∀ x∈c,1<=x/\x<=8
 le:c.length<=12
 prod:zab c<=4096
theorem zpr{cs:List Nat}(h:zck (iL cs)=true):(∀ c∈cs,1<=c/\c<=8)/\zab cs<=4096/\cs.length<=12:=by
 obtain⟨ns,h1,h2⟩:=zj3 h;have:cs=ns:=by rw[<- zhg cs,h1,zhg]
 subst this;exact h2
theorem Fc.zBz(hf:FcOk f)(u ds:List Nat):f.at u ds<=zc2:=by
 unfold Fc.at;generalize dot _ _=k;by_cases h:k<f.ws.length
 .rw[qai,qac h];exact hf.num _ (qau h)
 rw[qai,qaW (by omega)];exact qaz _
variable{u c ds:List Nat}
theorem wat(hf:FcOk f)(hD:Dom u c)(hs:zoG u c f.vs f.cs)(hb:zcK c ds):zaO f.D.w ((dot ds (u.map (stp f.vs f.cs)):Nat):Int)=some ((f.at u ds:Nat):Int):=by
 rw[zpp hD.nodup hf.len (za5 hf.inc)];show zaO (iL f.ws) _=_;have:=zj8 (zoG.below hD.len hb hs);rw[zeB (by rw[hf.size]; exact this)];rfl
theorem zgE(c ss:List Nat)(i m:Nat):zh9 c ss i (m+1)=((i:Int),((dot (dig c i) ss:Nat):Int),iL (dig c i)):: zh9 c ss (i+1) m:=by
 unfold zh9;rw[qca,qaH]
theorem zyT{f:Fc}(hf:FcOk f){r12:Int×Int}{u c:List Nat}{e:Int}(hD:Dom u c)(hs:zoG u c f.vs f.cs):∀(m i:Nat) (ys:List Nat),i+m=zab c->ys.length=i ->
  zcl (f.T,e) r12 (zh9 c (u.map (stp f.vs f.cs)) i m) (iL (ys ++ List.replicate m 0))=some (iL (ys ++ (List.range' i m).map λj=>f.at u (dig c j)))
 | 0,i,ys,_,_=>by simp[zh9,zcl]
 | m+1,i,ys,h,hy=>by
  rw[zgE];show(zaO f.D.w ((dot (dig c i) (u.map (stp f.vs f.cs)):Nat):Int)).bind _=_;rw[wat hf hD hs (zfc hD.zaC (by omega)),qaa];simp only[];rw[qa1,zcX hy,qaa,zeo hy,qaa,show ys ++ f.at u (dig c i):: List.replicate m 0=(ys ++ [f.at u (dig c i)])++ List.replicate m 0 by simp,zyT hf hD hs m (i+1) _ (by omega) (by simp[hy]),qca,qaH,qaI,qaT]
theorem zyZ{g:Fc}(hg:FcOk g){r12:Int×Int}{u c:List Nat}{e:Int}(hD:Dom u c)(hs:zoG u c g.vs g.cs){fa:Nat->Nat}(hfa:∀ j,fa j<=zc2):∀(m i:Nat) (ys:List Nat),i+m=zab c->ys.length=i ->
  zcg (g.T,e) r12 (zh9 c (u.map (stp g.vs g.cs)) i m) (iL (ys ++ (List.range' i m).map fa))=
   some (bif (List.range' i m).all λj=>decide (fa j * g.at u (dig c j)<=zc2)then .go (iL (ys ++ (List.range' i m).map λj=>fa j * g.at u (dig c j)))else .ret (noF,6))
 | 0,i,ys,_,_=>by simp[zh9,zcg]
 | m+1,i,ys,h,hy=>by
  have h1:fa i<=4611686018427387903:=hfa i;have h2:g.at u (dig c i)<=4611686018427387903:=Fc.zBz hg u _;rw[zgE,qca,qaH,qdo];show(zaO (iL (ys ++ fa i :: _)) (i:Int)).bind _=_;rw[zcX hy,qaa];simp only[];rw[show(g.T,e).1.factor.w=g.D.w from rfl,wat hg hD hs (zfc hD.zaC (by omega)),qaa,zui h1,zui h2,zEi (by omega) (by omega),qaa];simp only[];rw[zBC,qaa];by_cases hp:fa i * g.at u (dig c i)<=zc2
  .rw[qdz hp,qbf,qdx,qaa,zCU hp,zeo hy,qaa,
    show ys ++ fa i * g.at u (dig c i)::(List.range' (i+1) m).map fa=(ys ++ [fa i * g.at u (dig c i)])++ (List.range' (i+1) m).map fa by simp,zyZ hg hD hs hfa m (i+1) _ (by omega) (by simp[hy])]
   simp
  rw[qdy hp,qbE,qdw,Bool.false_and,qdx]
theorem zhh{h:Nat->Nat}{v:Nat}:∀ {us:List Nat},v∈us->at_ us (us.map h) v=h v
 | [],hm=>by simp at hm
 | u :: us,hm=>by
  rw[qaH,zfr];cases hb:(u == v)with
  | true=>rw[qdw]; rw[qdA]at hb; rw[hb]
  | false=>
   rw[qdx];rcases qax.1 hm with e | e
   .rw[e]at hb; simp at hb
   exact zhh e
theorem znf:∀ {vs ds:List Nat} {i:Nat} (hn:vs.Nodup) (h:i<vs.length),at_ vs ds vs[i]=ds.getD i 0
 | v :: vs,[],i,_,_=>by simp[at_]
 | v :: vs,d :: ds,0,_,_=>by rw[zfr]; simp
 | v :: vs,d :: ds,i+1,hn,h=>by
  obtain⟨h1,h2⟩:=qa7.1 hn;have hi:i<vs.length:=by simpa using h
  rw[zfr,show(v :: vs)[i+1]=vs[i]from rfl,show(v == vs[i])=false from qdC (λe=>h1 (e ▸ qau hi)),qdx,znf h2 hi];rfl
theorem zoq{vs:List Nat}(hn:vs.Nodup)(hl:vs.length=ds.length):vs.map (at_ vs ds)=ds:=by
 refine qcm (by simpa using hl) λi h1 h2=>?_
 rw[qdl,znf hn (by simpa using h1),qai,qac h2];rfl
theorem zrp{vs ws:List Nat}:∀ {us cs:List Nat},us.length=cs.length->us.Nodup->(∀ u∈us,u∈vs/\at_ vs ws u=at_ us cs u)->zoG vs ws us cs
 | [],[],_,_,_=>trivial
 | [],c :: cs,h,_,_=>by simp at h
 | u :: us,[],h,_,_=>by simp at h
 | u :: us,c :: cs,hl,hn,h=>by
  obtain⟨h1,h2⟩:=qa7.1 hn;refine⟨⟨(h u qam).1,?_⟩,zrp (by simpa using hl) h2 λx hx=>⟨(h x (qag _ hx)).1,?_⟩⟩
  .rw[(h u qam).2,zfr,qdB,qdw]
  rw[(h x (qag _ hx)).2,zfr,show(u == x)=false from qdC (λe=>h1 (e ▸ hx)),qdx]
def Agr(f g:Fc):Prop:=∀ v,v∈f.vs->v∈g.vs->at_ f.vs f.cs v=at_ g.vs g.cs v
theorem znj(hf:FcOk f)(hg:FcOk g):zfK f g 0 f.vs=true↔Agr f g:=by
 have key:∀(m i:Nat),i+m=f.vs.length->(zfK f g i (f.vs.drop i)=true↔∀ v∈f.vs.drop i,v∈g.vs->at_ f.vs f.cs v=at_ g.vs g.cs v):=by
  intro m;induction m with
  | zero=>intro i h; rw[qbb (by omega)]; simp[zfK]
  | succ m ih=>
   intro i h;have hi:i<f.vs.length:=by omega
   rw[qaA hi];rw[show zfK f g i (f.vs[i]:: f.vs.drop (i+1))=((match pos g.vs f.vs[i]with | none=>true | some k=>g.cs.getD k 0 == f.cs.getD i 0) && zfK f g (i+1) (f.vs.drop (i+1)))from rfl,qaf,ih (i+1) (by omega),List.forall_mem_cons];refine and_congr ?_ Iff.rfl;rw[znf (za5 hf.inc) hi];cases hp:pos g.vs f.vs[i]with
   | none=>exact⟨λ_ hm=>absurd hm (ziY hp),λ_=>rfl⟩
   | some k=>
    obtain⟨hk,e⟩:=zdb hp;rw[zqI hp];simp only[qdA];exact⟨λh _=>h.symm,λh=>(h (e ▸ qau hk)).symm⟩
 have:=key f.vs.length 0 (by omega)
 rwa [qbm]at this
def ucs(f g:Fc):List Nat:=(uni f g).map (cdF f g)
theorem zD1{v:Nat}(h:v∈f.vs):cdF f g v=at_ f.vs f.cs v:=by unfold cdF; rw[qdz h,qdw]
theorem zEH(ha:Agr f g){v:Nat}(h:v∈g.vs):cdF f g v=at_ g.vs g.cs v:=by
 unfold cdF;by_cases h1:v∈f.vs
 .rw[qdz h1,qdw,ha v h1 h]
 rw[qdy h1,qdx]
theorem zEq(hf:FcOk f)(hg:FcOk g):zoG (uni f g) (ucs f g) f.vs f.cs:=
 zrp hf.len (za5 hf.inc) λu hu=>by
  have hm:=(zel hf hg).2 (.inl hu);exact⟨hm,by unfold ucs; rw[zhh hm,zD1 hu]⟩
theorem zDR(hf:FcOk f)(hg:FcOk g)(ha:Agr f g):zoG (uni f g) (ucs f g) g.vs g.cs:=
 zrp hg.len (za5 hg.inc) λu hu=>by
  have hm:=(zel hf hg).2 (.inr hu);exact⟨hm,by unfold ucs; rw[zhh hm,zEH ha hu]⟩
theorem zpK(h:zck (iL (ucs f g))=true):Dom (uni f g) (ucs f g):=by
 obtain⟨h1,h2,h3⟩:=zpr h;exact⟨by unfold ucs; simp,za5 (zik f g),h1,h3,h2⟩
def zpM(f g:Fc):Bool:=(List.range' 0 (zab (ucs f g))).all λj=>decide (f.at (uni f g) (dig (ucs f g) j)* g.at (uni f g) (dig (ucs f g) j)<=zc2)
def zsA(f g:Fc):Fc:=⟨uni f g,ucs f g,(List.range' 0 (zab (ucs f g))).map λj=>f.at (uni f g) (dig (ucs f g) j)* g.at (uni f g) (dig (ucs f g) j)⟩
def mulR(f g:Fc):S_api_Factor×Int:=bif zck (iL (ucs f g))then bif zpM f g then((zsA f g).D,0)else(noF,6)else(noF,3)
theorem zuH(hf:FcOk f)(v:Nat):stp f.vs f.cs v<=4096:=by
 rw[zka hf.len];cases hp:pos f.vs v with
 | none=>exact qaz _
 | some k=>
  simp only;by_cases h:k<(zaB f.cs).length
  .rw[qai,qac h];exact zlx (λc hc=>(hf.zaC c hc).1) hf.prod _ (qau h)
  rw[qai,qaW (by omega)];exact qaz _
theorem zhm(a b:List Int):zbO a b=some (a,b):=by rfl
theorem zot(hf:FcOk f)(hD:Dom u c):zyS (iL c) (iL (u.map (stp f.vs f.cs)))=some (zh9 c (u.map (stp f.vs f.cs)) 0 (zab c)):=
 zvc hD.zaC hD.le hD.prod (by rw[qar,hD.len]) λs hs=>by
  obtain⟨v,_,rfl⟩:=qaE.1 hs;exact zuH hf v
theorem zzW(hf:FcOk f)(hg:FcOk g):zcz f.D g.D=some (bif zfK f g 0 f.vs then mulR f g else(noF,2)):=by
 unfold zcz mulR;rw[zi5 hf,qaa];simp only[];rw[show((0:Int)== 0)=true from rfl,qdw,zi5 hg,qaa];simp only[];rw[show((0:Int)== 0)=true from rfl,qdw,zz6 hf hg,qaa];cases ha:zfK f g 0 f.vs with
 | false=>rfl
 | true=>
  have hA:=(znj hf hg).1 ha;rw[qdw,qdw,zzb hf hg,qaa];show(zce (iL (ucs f g))).bind _=_;rw[zvT,qaa];cases hc:zck (iL (ucs f g))with
  | false=>rfl
  | true=>
   have hD:=zpK hc;rw[qdw,qdw];have hlu:=zy1 f g;have hp:=hD.prod;simp only[];rw[show((0:Int)== 0)=true from rfl,qdw,zhx,zde (by omega),qaa,zo9 hf (by omega),qaa,zhm,qaa];simp only[];rw[show iL ((uni f g).map (cdF f g))=iL (ucs f g)from rfl,zot hf hD,qaa,<- zfW];have e1:=zyT hf (r12:=((zab (ucs f g):Nat),0)) (e:=0) hD (zEq hf hg) (zab (ucs f g)) 0 [] (by omega) rfl;rw[qa4]at e1;rw[e1,qaa,zo9 hg (by omega),qaa,zhm,qaa];simp only[];rw[zot hg hD,qaa];have e2:=zyZ hg (r12:=((zab (ucs f g):Nat),0)) (e:=0) hD (zDR hf hg hA) (fa:=λj=>f.at (uni f g) (dig (ucs f g) j)) (λj=>Fc.zBz hf _ _) (zab (ucs f g)) 0 [] (by omega) rfl;rw[e2,qaa];unfold zpM;cases hk:(List.range' 0 (zab (ucs f g))).all λj=>decide (f.at (uni f g) (dig (ucs f g) j)* g.at (uni f g) (dig (ucs f g) j)<=zc2)with
   | false=>rfl
   | true=>rfl
theorem zGh(b:Nat):((b:Int)== 0)=(b == 0):=zvV b 0
theorem zDA{a b:Nat}(hb:¬ b=0)(ha:a<=zc2):zrD .i64 (a:Int) (b:Int)=some ((a / b:Nat):Int):=by
 have h1:a<=4611686018427387903:=ha;have h2:a / b<=a:=qdq a b;unfold zrD;rw[zGh,qdC hb,qdx,show((a:Int).tdiv (b:Int))=((a / b:Nat):Int)from rfl];exact congrArg some (zas (n:=a / b) (by omega))
def Fc.get(f:Fc)(j:Nat):Nat:=f.ws.getD j 0
theorem Fc.zyu(hf:FcOk f)(k:Nat):f.get k<=zc2:=by
 unfold Fc.get;by_cases h:k<f.ws.length
 .rw[qai,qac h];exact hf.num _ (qau h)
 rw[qai,qaW (by omega)];exact qaz _
theorem zBJ{i:Nat}(hf:FcOk f)(h:i<zab f.cs):zaO f.D.w (i:Int)=some ((f.get i:Nat):Int):=zeB (by rw[hf.size]; exact h)
def zku(v:Nat):Nat:=[2,3,1,2,2].getD v 0
theorem zAW(hf:FcOk f)(hg:FcOk g)(hc:zck (iL (ucs f g))=true)(hk:zpM f g=true):FcOk (zsA f g):=by
 have hD:=zpK hc;refine⟨hD.len,hD.le,hD.zaC,hD.prod,by simp[zsA],zik f g,zyq,?_⟩;intro x hx;obtain⟨j,hj,rfl⟩:=qaE.1 hx;exact of_decide_eq_true (qbN.1 hk j hj)
section
variable {r4 r6 r8 r10 r12 r14 r16 r18:S_api_Factor}
end
def cof(f:Fc)(us:List Nat):List Nat:=us.map (at_ f.vs f.cs)
structure Sel (f:Fc) (us:List Nat):Prop where
 inc:us.Pairwise (· < ·)
 mem:∀ u∈us,u∈f.vs
theorem zj4:∀ {a b:List Nat},a.Pairwise (· < ·)->b.Pairwise (· < ·)->(∀ x∈a,x∈b)->a.Sublist b
 | [],b,_,_,_=>List.nil_sublist b
 | a :: xs,[],_,_,h=>by have:=h a qam; simp at this
 | a :: xs,b :: bs,ha,hb,h=>by
  obtain⟨ha1,ha2⟩:=qbg.1 ha;obtain⟨hb1,hb2⟩:=qbg.1 hb;rcases qax.1 (h a qam)with e | h1
  .subst e;refine(zj4 ha2 hb2 λx hx=>?_).cons_cons a;rcases qax.1 (h x (qag _ hx))with e | h2
   .have:=ha1 x hx; omega
   exact h2
  refine(zj4 ha hb2 λx hx=>?_).cons b;rcases qax.1 (h x hx)with e | h2
  .have h3:=hb1 a h1;rcases qax.1 hx with e2 | h4
   .omega
   have:=ha1 x h4; omega
  exact h2
theorem ziU:∀ {a b:List Nat},a.Sublist b->(∀ c∈b,1<=c)->zab a<=zab b
 | _,_,.slnil,_=>qao _
 | a,b :: bs,.cons _ h,hb=>by
  have h1:=ziU h λc hc=>hb c (qag _ hc)
  have h2:=qbc (hb b qam) (qao (zab bs));show zab a<=b * zab bs;omega
 | a :: xs,_ :: bs,.cons_cons _ h,hb=>qbc (qao a) (ziU h λc hc=>hb c (qag _ hc))
variable{f:Fc}{us:List Nat}
theorem zzJ(hf:FcOk f)(hs:Sel f us):(cof f us).Sublist f.cs:=by
 have h:=(zj4 hs.inc hf.inc hs.mem).map (at_ f.vs f.cs)
 rwa [zoq (za5 hf.inc) hf.len]at h
theorem zgW(hf:FcOk f)(hs:Sel f us):Dom us (cof f us):=by
 have h:=zzJ hf hs;exact⟨by simp[cof],za5 hs.inc,λx hx=>hf.zaC x (h.subset hx),qan h.length_le hf.le,qan (ziU h λc hc=>(hf.zaC c hc).1) hf.prod⟩
theorem zy6(hs:Sel f us):zoG f.vs f.cs us (cof f us):=
 zrp (by simp[cof]) (za5 hs.inc) λu hu=>⟨hs.mem u hu,by unfold cof; rw[zhh hu]⟩
def ix(f:Fc)(us:List Nat)(i:Nat):Nat:=dot (us.map (at_ f.vs (dig f.cs i))) (zaB (cof f us))
theorem zCi(hf:FcOk f)(hs:Sel f us){i:Nat}(h:i<zab f.cs):ix f us i<zab (cof f us):=
 zj8 (zoG.below hf.len (zfc hf.zaC h) (zy6 hs))
theorem zBB(hf:FcOk f)(hs:Sel f us){i:Nat}:dot (dig f.cs i) (f.vs.map (stp us (cof f us)))=ix f us i:=by
 rw[zpp (za5 hf.inc) (by simp[cof]) (za5 hs.inc)]; rfl
def gop(b:Bool)(x y:Nat):Nat:=bif b then max x y else x+y
def zjk(b:Bool)(f:Fc)(us:List Nat):Nat->Nat->List Nat->Option (List Nat)
 | 0,_,l=>some l
 | m+1,i,l=>bif decide (gop b (l.getD (ix f us i) 0) (f.get i)<=zc2)then zjk b f us m (i+1) (l.set (ix f us i) (gop b (l.getD (ix f us i) 0) (f.get i)))else none
theorem znE{b:Bool}{f:Fc}{us:List Nat}:∀ {m i:Nat} {l l':List Nat},zjk b f us m i l=some l'->l'.length=l.length
 | 0,_,_,_,h=>by cases h; rfl
 | m+1,i,l,l',h=>by
  unfold zjk at h;cases hd:decide (gop b (l.getD (ix f us i) 0) (f.get i)<=zc2)with
  | false=>rw[hd]at h; cases h
  | true=>rw[hd,qdw]at h; rw[znE h,qaQ]
theorem zrm{b:Bool}{f:Fc}{us:List Nat}:∀ {m i:Nat} {l l':List Nat},(∀ x∈l,x<=zc2)->zjk b f us m i l=some l'->∀ x∈l',x<=zc2
 | 0,_,_,_,hl,h=>by cases h; exact hl
 | m+1,i,l,l',hl,h=>by
  unfold zjk at h;cases hd:decide (gop b (l.getD (ix f us i) 0) (f.get i)<=zc2)with
  | false=>rw[hd]at h; cases h
  | true=>
   rw[hd,qdw]at h;refine zrm (λx hx=>?_) h;rcases qct hx with h1 | h1
   .exact hl x h1
   rw[h1]; exact of_decide_eq_true hd
theorem zoW(hf:FcOk f)(hs:Sel f us):us.length<=12:=by
 have:=(zj4 hs.inc hf.inc hs.mem).length_le;have:=hf.len; have:=hf.le;omega
theorem zAH{b:Bool}{x y:Nat}(hx:x<=zc2)(hy:y<=zc2):(bif b then ze6 (x:Int) (y:Int)else w64 ((x:Int)+(y:Int)))=((gop b x y:Nat):Int):=by
 have h1:x<=4611686018427387903:=hx;have h2:y<=4611686018427387903:=hy;cases b with
 | true=>
  show ze6 (x:Int) (y:Int)=((max x y:Nat):Int);unfold ze6;split<;>omega
 | false=>
  show w64 ((x:Int)+(y:Int))=((x+y:Nat):Int);rw[zf7 (by omega) (by omega)]; omega
theorem zAr{l:List Nat}(h:∀ x∈l,x<=zc2)(k:Nat):l.getD k 0<=zc2:=by
 by_cases hk:k<l.length
 .rw[qai,qac hk];exact h _ (qau hk)
 rw[qai,qaW (by omega)];exact qaz _
theorem zEM{xs:List Nat}{k y:Nat}(h:k<xs.length):ze5 (iL xs) (k:Int) (y:Int)=some (iL (xs.set k y)):=by
 rw[zfD (by rw[zal]; exact h)];simp[iL]
def gat(b:Bool)(f:Fc)(us:List Nat):Option (List Nat):=zjk b f us (zab f.cs) 0 (List.replicate (zab (cof f us)) 0)
theorem zro{n:Nat}:∀ x∈List.replicate n 0,x<=zc2:=λx hx=>by rw[(qc4.1 hx).2]; exact qaz _
end Go.Dc
