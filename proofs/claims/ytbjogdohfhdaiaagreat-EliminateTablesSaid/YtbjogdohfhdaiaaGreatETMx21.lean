/-
 The machine with tries: one operation. Conditions: none.
-/
import Derived.Test.YtbjogdohfhdaiaaGreatETMx20
set_option linter.unusedSimpArgs false
set_option linter.unusedVariables false
namespace Go.Mx
open Go
abbrev Sy:=RecY->Nat->Bool->Bool->Bool->TY->O->KY->Option (Ex×TY)
def ziw(v:Option V)(T:TY)(o:O)(k:KY):Option (Ex×TY):=
 match v with
 | some v=>zxi T o.dst v k
 | none=>none
def zuA(e:Option EffR)(T:TY)(o:O)(k:KY):Option (Ex×TY):=
 match e with
 | some e=>apY T.hp e λv H=>zxi (zug T H) o.dst v k
 | none=>none
def zgO(i:I):Sy:=λ_ B _ _ _ T o k=>
 bif zai i then ziw (qF (evY T) (zxX T) (zs7 T.hp) i) T o k else zuA (zwy B (zs7 T.hp) (evY T) i) T o k
def zDx(e:Bool)(o:O)(T:TY)(x:Option (CR×HY))(k:KY):Option (Ex×TY):=
 match x with
 | some (.ret v,H)=>zxi (zug T H) o.dst v k
 | some (.pan v,H)=>some (.panic v e,zug T H)
 | none=>none
def zDi(f:Nat)(vs:Option (List V)):Sy:=λr B bar _ e T o k=>
 match vs with
 | some vs=>zdD (bif zoI bar f then T.hp.n else B) λB'=>zEa T λH=>zDx e o T (r.call B' f vs H) k
 | none=>none
def zze(f:Nat)(xs:List X):Sy:=λr B bar top e T o k=>zDi f (zxX T xs) r B bar top e T o k
def zxU(v:Option V)(vs:Option (List V)):Sy:=λr B bar _ e T o k=>
 match v with
 | some v=>(match vs with
  | some vs=>zdD (bif bar then T.hp.n else B) λB'=>zEa T λH=>zDx e o T (zu8 r B' v vs H) k
  | none=>none)
 | none=>none
def zvS(x:X)(xs:List X):Sy:=λr B bar top e T o k=>zxU (evY T x) (zxX T xs) r B bar top e T o k
def zyp(v:Option V)(e:Bool)(T:TY):Option (Ex×TY):=
 match v with
 | some (.ifc t v)=>some (.panic (.ifc t v) e,T)
 | _=>none
def zuZ(x:X):Sy:=λ_ _ _ _ e T _ _=>zyp (evY T x) e T
def zx4(v:Option V)(vs:Option (List V))(top:Bool)(T:TY)(o:O)(k:KY):Option (Ex×TY):=
 match v with
 | some (.clo f first cap)=>(match vs with
  | some vs=>bif top then zdB (first ++ vs ++ cap) λl=>zxi ⟨T.N,T.env,.fn f l :: T.dfs,T.hp⟩ o.dst za3 k else none
  | none=>none)
 | _=>none
def ztO(x:X)(xs:List X):Sy:=λ_ _ _ top _ T o k=>zx4 (evY T x) (zxX T xs) top T o k
def ziK(i:I):Sy:=
 match i with
 | .call f xs=>zze f xs
 | .zdE x xs=>zvS x xs
 | .panic x=>zuZ x
 | .defer x xs=>ztO x xs
 | i=>zgO i
variable{k:St->Option (Ex×St)}
theorem zwi{rY:RecY}{r:Rec}(hr:RRY rY r){B:Nat}{bar top e:Bool}{T T':TY}{S:St}{o:O}{kY:KY}{ex:Ex}(hS:RY T S)(hw:wanted S.env o.g=true)(hk:∀ T1 S1,RY T1 S1->kY T1=some (ex,T')->∃ S',k S1=some (ex,S')/\RY T' S')(hc:ziK o.i rY B bar top e T o kY=some (ex,T')):∃ S',zdj r B bar top e S o k=some (ex,S')/\RY T' S':=by
 have hput:∀ {T1:TY} {S1:St} {v:V},RY T1 S1->zxi T1 o.dst v kY=some (ex,T')->∃ S',k (S1.put o.dst v)=some (ex,S')/\RY T' S':=by
  intro T1 S1 v h1 h2;obtain⟨T2,g1,g2⟩:=zvZ h1 h2;exact hk _ _ g1 g2
 have hfin:∀ {x:Option (CR×HY)} {y:Option (CR×zaj)},(∀ cr H',x=some (cr,H')->∃ h',y=some (cr,h')/\zfG H' h')->zDx e o T x kY=some (ex,T')->∃ S',zoK e o S y k=some (ex,S')/\RY T' S':=by
  intro x y hxy hf;unfold zDx at hf;split at hf
  .rename_i v H;obtain⟨h',g1,g2⟩:=hxy _ _ rfl;rw[g1];exact hput (hS.heap g2) hf
  .rename_i v H;obtain⟨h',g1,g2⟩:=hxy _ _ rfl;rw[g1];simp only[qad,qah]at hf;obtain⟨rfl,rfl⟩:=hf;exact⟨_,rfl,hS.heap g2⟩
  cases hf
 have hn:T.hp.n=S.heap.length:=hS.2.2.2.1;unfold zdj;rw[hw];simp only[];have plain:∀ i,zgO i rY B bar top e T o kY=some (ex,T')->
   ∃ S',(bif zai i then(match q S.heap S.env i with | some v=>k (S.put o.dst v)| none=>none)else(match eff B S.heap S.env i with | some (v,h)=>k ({ S with heap:=h }.put o.dst v)| none=>none))=some (ex,S')/\RY T' S':=by
  intro i hi;unfold zgO at hi;rw[show evY T=ev S.env from funext (zj6 hS),show zxX T=evs S.env from funext (zjj hS),show zs7 T.hp=zax S.heap from funext (zoU hS.2.2.2)]at hi;cases hq:zai i with
  | true=>
   rw[hq,qdw,zDX,zDC]at hi;simp only[qdw];unfold ziw at hi;split at hi
   .exact hput hS hi
   .cases hi
  | false=>
   rw[hq,qdx]at hi;simp only[qdx];rw[<- zAf];unfold zuA at hi;split at hi
   .rename_i er her;rw[her];obtain⟨H',g1,g2⟩:=zyN hS.2.2.2 hi;simp only[qaX];exact hput (hS.heap g1) g2
   cases hi
 cases hi:o.i with
 | call f xs=>
  rw[hi]at hc;simp only[ziK,zze,zDi,zjj hS,zcj,hn,zub]at hc;simp only[];split at hc
  .rename_i vs hvs;rw[hvs];exact hfin (λcr H' hz=>hr.call _ _ _ _ _ _ _ hS.2.2.2 hz) hc
  .cases hc
 | zdE x xs=>
  rw[hi]at hc;simp only[ziK,zvS,zxU,zjj hS,zj6 hS,zcj,hn,zub]at hc;simp only[];split at hc
  .rename_i v hv;split at hc
   .rename_i vs hvs;rw[hv,hvs];exact hfin (λcr H' hz=>zsV hr hS.2.2.2 hz) hc
   cases hc
  .cases hc
 | panic x=>
  rw[hi]at hc;simp only[ziK,zuZ,zyp,zj6 hS]at hc;simp only[];split at hc
  .rename_i t v hv;rw[hv];simp only[qad,qah]at hc;obtain⟨rfl,rfl⟩:=hc;exact⟨S,rfl,hS⟩
  .cases hc
 | defer x xs=>
  rw[hi]at hc;simp only[ziK,ztO,zx4,zjj hS,zj6 hS,zcD]at hc;simp only[];split at hc
  .rename_i f first cap hv
   split at hc
   .rename_i vs hvs;rw[hv,hvs];cases top with
    | true=>
     simp only[qdw]at hc ⊢;exact hput (T1:=⟨T.N,T.env,.fn f (first ++ vs ++ cap):: T.dfs,T.hp⟩) (S1:={ S with dfs:=.fn f (first ++ vs ++ cap):: S.dfs }) ⟨hS.1,hS.2.1,by rw[hS.2.2.1],hS.2.2.2⟩ hc
    | false=>simp only[qdx]at hc; cases hc
   cases hc
  .cases hc
 | _=>rw[hi]at hc; exact plain _ hc
def zqT(p:Option V)(H:HY)(n:Option Nat):Option V:=
 match p with
 | some (.ptr β o)=>(match zs7 H β with
  | some cs=>znX cs o n
  | none=>none)
 | _=>none
def zys(c:Option Bool)(T:TY)(a b:X):Option V:=
 match c with
 | some true=>evY T a
 | some false=>evY T b
 | none=>none
def zFp(x:X):Sy:=λ_ _ _ _ _ T o k=>ziw (evY T x) T o k
def zCq(n:Option Nat)(x:X):Sy:=λ_ _ _ _ _ T o k=>ziw (zqT (evY T x) T.hp n) T o k
def zFJ(off:Nat)(x:X):Sy:=λ_ _ _ _ _ T o k=>ziw (zF1 (evY T x) off) T o k
def zCu(n:Nat)(x i:X):Sy:=λ_ _ _ _ _ T o k=>ziw (zCv n (evY T x) (zCd (evY T i))) T o k
def zCm(n cnt:Nat)(x i:X):Sy:=λ_ _ _ _ _ T o k=>ziw (zCG n cnt (evY T x) (zCd (evY T i))) T o k
def zER(op:BinOp)(x y:X):Sy:=λ_ _ _ _ _ T o k=>ziw (zEN (bOp op) (intOf (evY T x)) (intOf (evY T y))) T o k
def zCP(kd:IntKind)(x:X):Sy:=λ_ _ _ _ _ T o k=>ziw (zCL kd (intOf (evY T x))) T o k
def zCk(c a b:X):Sy:=λ_ _ _ _ _ T o k=>ziw (zys (zqM (evY T c)) T a b) T o k
def yUn(op:UnOp)(x:X):Sy:=λ_ _ _ _ _ T o k=>ziw (xUn op (evY T x)) T o k
def zGe(x:X):Sy:=λ_ _ _ _ _ T o k=>ziw (zFG (evY T x)) T o k
def zFT(x:X)(i:Nat):Sy:=λ_ _ _ _ _ T o k=>ziw (zF9 (evY T x) i) T o k
def zCc(z:List Value):Sy:=λ_ _ _ _ _ T o k=>zo1 T.hp (.blk (z.map .lit)) λn H=>zxi (zug T H) o.dst (.ptr n 0) k
def zFE(x:X):Sy:=λ_ _ _ _ _ T o k=>zuA (zEO (zc0 (evY T x))) T o k
def zCD(n:Nat)(a x:X):Sy:=λ_ B _ _ _ T o k=>zuA (zv7 B (zs7 T.hp) n (evY T a) (zc0 (evY T x))) T o k
def zFd(n bytes:Nat)(s x:X):Sy:=λ_ B _ _ _ T o k=>zuA (zDN B (zs7 T.hp) n bytes (evY T s) ((evY T x).bind (zA6 (zs7 T.hp) n))) T o k
def znu(i:I):Sy:=
 match i with
 | .mov x=>zFp x
 | .load n x=>zCq n x
 | .fld off x=>zFJ off x
 | .idxS n x i=>zCu n x i
 | .idxA n cnt x i=>zCm n cnt x i
 | .bin op x y=>zER op x y
 | .conv k x=>zCP k x
 | .pick c a b=>zCk c a b
 | .un op x=>yUn op x
 | .len x=>zGe x
 | .ext x i=>zFT x i
 | .call f xs=>zze f xs
 | .zdE x xs=>zvS x xs
 | .panic x=>zuZ x
 | .defer x xs=>ztO x xs
 | .alloc z=>zCc z
 | .box x=>zFE x
 | .store n a x=>zCD n a x
 | .app n bytes s x=>zFd n bytes s x
 | i=>zgO i
theorem zxE(i:I)(r:RecY)(B:Nat)(bar top e:Bool)(T:TY)(o:O)(k:KY):znu i r B bar top e T o k=ziK i r B bar top e T o k:=by
 cases i with
 | load n x=>
  simp only[znu,ziK,zgO,zCq,zai,qdw,qF,zqT];rfl
 | idxS n x i=>
  simp only[znu,ziK,zgO,zCu,zai,qdw,qF,zCv];cases evY T x with
  | none=>rfl
  | some v=>
   cases v with
   | sl β o n' len c=>
    simp only[];cases evY T i with
    | none=>rfl
    | some w=>
     cases w with
     | lit y=>
      cases y with
      | int kd m=>cases m<;>rfl
      | _=>rfl
     | _=>rfl
   | _=>rfl
 | idxA n cnt x i=>
  simp only[znu,ziK,zgO,zCm,zai,qdw,qF,zCG];cases evY T x with
  | none=>rfl
  | some v=>
   cases v with
   | ptr β o=>
    simp only[];cases evY T i with
    | none=>rfl
    | some w=>
     cases w with
     | lit y=>
      cases y with
      | int kd m=>cases m<;>rfl
      | _=>rfl
     | _=>rfl
   | _=>rfl
 | bin op x y=>
  simp only[znu,ziK,zgO,zER,zai,qdw,qF,zAB];rfl
 | conv kd x=>
  simp only[znu,ziK,zgO,zCP,zai,qdw,qF,zCL];cases evY T x with
  | none=>rfl
  | some v=>
   cases v with
   | lit y=>cases y<;>rfl
   | _=>rfl
 | pick c a b=>
  simp only[znu,ziK,zgO,zCk,zai,qdw,qF,qG,zDu,zys];cases evY T c with
  | none=>rfl
  | some v=>
   cases v with
   | lit y=>
    cases y with
    | bool b=>cases b<;>rfl
    | _=>rfl
   | _=>rfl
 | _=>rfl
def zAI:Sy:=λr B bar top e T o k=>
 match zpu T o.g with
 | false=>zxi T o.dst za3 k
 | true=>znu o.i r B bar top e T o k
theorem zw4{rY:RecY}{r:Rec}(hr:RRY rY r){B:Nat}{bar top e:Bool}{T T':TY}{S:St}{o:O}{kY:KY}{ex:Ex}(hS:RY T S)(hk:∀ T1 S1,RY T1 S1->kY T1=some (ex,T')->∃ S',k S1=some (ex,S')/\RY T' S')(hc:zAI rY B bar top e T o kY=some (ex,T')):∃ S',zdj r B bar top e S o k=some (ex,S')/\RY T' S':=by
 unfold zAI at hc;rw[zsf hS]at hc;cases hw:wanted S.env o.g with
 | false=>
  rw[hw]at hc;unfold zdj;rw[hw];obtain⟨T2,g1,g2⟩:=zvZ hS hc;exact hk _ _ g1 g2
 | true=>
  rw[hw]at hc;simp only[zxE]at hc;exact zwi hr hS hw hk hc
def zls(r:RecY)(B:Nat)(bar top e:Bool):List O->KY
 | [],T=>some (.normal,T)
 | o :: l,T=>zAI r B bar top e T o (zls r B bar top e l)
theorem zk5{rY:RecY}{r:Rec}(hr:RRY rY r){B:Nat}{bar top e:Bool}{T':TY}{ex:Ex}:∀(l:List O) (T:TY) (S:St),RY T S->zls rY B bar top e l T=some (ex,T')->∃ S',za6 r B bar top e l S=some (ex,S')/\RY T' S'
 | [],T,S,hS,hc=>by
  simp only[zls,qad,qah]at hc;obtain⟨rfl,rfl⟩:=hc;exact⟨S,rfl,hS⟩
 | o :: l,T,S,hS,hc=>zw4 hr hS (λT1 S1 h1 h2=>zk5 hr l T1 S1 h1 h2) hc
end Go.Mx
