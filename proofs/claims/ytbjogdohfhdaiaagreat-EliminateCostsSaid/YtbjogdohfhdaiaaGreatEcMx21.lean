/-
 The machine with tries: one operation. Conditions: none.
-/
import Derived.Test.YtbjogdohfhdaiaaGreatEcMx20
set_option linter.unusedSimpArgs false
set_option linter.unusedVariables false
namespace Go.Mx
open Go
abbrev Sy:=RecY->Nat->Bool->Bool->Bool->TY->O->KY->Option (Ex×TY)
def ziP(v:Option V)(T:TY)(o:O)(k:KY):Option (Ex×TY):=
 match v with
 | some v=>zyD T o.dst v k
 | none=>none
def zxt(e:Option EffR)(T:TY)(o:O)(k:KY):Option (Ex×TY):=
 match e with
 | some e=>apY T.hp e λv H=>zyD (zvv T H) o.dst v k
 | none=>none
def zja(i:I):Sy:=λ_ B _ _ _ T o k=>
 bif zal i then ziP (qF (evY T) (zAB T) (zvb T.hp) i) T o k else zxt (zxN B (zvb T.hp) (evY T) i) T o k
def zFA(e:Bool)(o:O)(T:TY)(x:Option (CR×HY))(k:KY):Option (Ex×TY):=
 match x with
 | some (.ret v,H)=>zyD (zvv T H) o.dst v k
 | some (.pan v,H)=>some (.panic v e,zvv T H)
 | none=>none
def zEp(f:Nat)(vs:Option (List V)):Sy:=λr B bar _ e T o k=>
 match vs with
 | some vs=>zeb (bif zqO bar f then T.hp.n else B) λB'=>zFS T λH=>zFA e o T (r.call B' f vs H) k
 | none=>none
def zCF(f:Nat)(xs:List X):Sy:=λr B bar top e T o k=>zEp f (zAB T xs) r B bar top e T o k
def zAc(v:Option V)(vs:Option (List V)):Sy:=λr B bar _ e T o k=>
 match v with
 | some v=>(match vs with
  | some vs=>zeb (bif bar then T.hp.n else B) λB'=>zFS T λH=>zFA e o T (zvr r B' v vs H) k
  | none=>none)
 | none=>none
def zu3(x:X)(xs:List X):Sy:=λr B bar top e T o k=>zAc (evY T x) (zAB T xs) r B bar top e T o k
def zz3(v:Option V)(e:Bool)(T:TY):Option (Ex×TY):=
 match v with
 | some (.ifc t v)=>some (.panic (.ifc t v) e,T)
 | _=>none
def zwY(x:X):Sy:=λ_ _ _ _ e T _ _=>zz3 (evY T x) e T
def zz0(v:Option V)(vs:Option (List V))(top:Bool)(T:TY)(o:O)(k:KY):Option (Ex×TY):=
 match v with
 | some (.clo f first cap)=>(match vs with
  | some vs=>bif top then zdZ (first ++ vs ++ cap) λl=>zyD ⟨T.N,T.env,.fn f l :: T.dfs,T.hp⟩ o.dst zbg k else none
  | none=>none)
 | _=>none
def zwM(x:X)(xs:List X):Sy:=λ_ _ _ top _ T o k=>zz0 (evY T x) (zAB T xs) top T o k
def zlc(i:I):Sy:=
 match i with
 | .call f xs=>zCF f xs
 | .zej x xs=>zu3 x xs
 | .panic x=>zwY x
 | .defer x xs=>zwM x xs
 | i=>zja i
variable{k:St->Option (Ex×St)}
theorem zyW{rY:RecY}{r:Rec}(hr:RRY rY r){B:Nat}{bar top e:Bool}{T T':TY}{S:St}{o:O}{kY:KY}{ex:Ex}(hS:RY T S)(hw:wanted S.env o.g=true)(hk:∀ T1 S1,RY T1 S1->kY T1=some (ex,T')->∃ S',k S1=some (ex,S')/\RY T' S')(hc:zlc o.i rY B bar top e T o kY=some (ex,T')):∃ S',zdI r B bar top e S o k=some (ex,S')/\RY T' S':=by
 have hput:∀ {T1:TY} {S1:St} {v:V},RY T1 S1->zyD T1 o.dst v kY=some (ex,T')->∃ S',k (S1.put o.dst v)=some (ex,S')/\RY T' S':=by
  grind [zvj]
 have hfin:∀ {x:Option (CR×HY)} {y:Option (CR×zam)},(∀ cr H',x=some (cr,H')->∃ h',y=some (cr,h')/\zfD H' h')->zFA e o T x kY=some (ex,T')->∃ S',zpC e o S y k=some (ex,S')/\RY T' S':=by
  intro x y hxy hf;unfold zFA at hf;split at hf
  .rename_i v H;obtain⟨h',g1,g2⟩:=hxy _ _ rfl;rw[g1];exact hput (hS.heap g2) hf
  .rename_i v H;obtain⟨h',g1,g2⟩:=hxy _ _ rfl;rw[g1];simp only[qaf,qao]at hf;obtain⟨rfl,rfl⟩:=hf;exact⟨_,rfl,hS.heap g2⟩
  cases hf
 have hn:T.hp.n=S.heap.length:=hS.2.2.2.1;unfold zdI;rw[hw];simp only[];have plain:∀ i,zja i rY B bar top e T o kY=some (ex,T')->
   ∃ S',(bif zal i then(match q S.heap S.env i with | some v=>k (S.put o.dst v)| none=>none)else(match eff B S.heap S.env i with | some (v,h)=>k ({ S with heap:=h }.put o.dst v)| none=>none))=some (ex,S')/\RY T' S':=by
  intro i hi;unfold zja at hi;rw[show evY T=ev S.env from funext (zkM hS),show zAB T=evs S.env from funext (zjW hS),show zvb T.hp=zaG S.heap from funext (zqr hS.2.2.2)]at hi;cases hq:zal i with
  | true=>
   rw[hq,qdt,zGK,zGr]at hi;simp only[qdt];unfold ziP at hi
   grind
  | false=>
   rw[hq,qdu]at hi;simp only[qdu];rw[<- zBE];unfold zxt at hi;split at hi
   .rename_i er her;rw[her];obtain⟨H',g1,g2⟩:=zzz hS.2.2.2 hi;simp only[qba];exact hput (hS.heap g1) g2
   cases hi
 cases hi:o.i with
 | call f xs=>
  rw[hi]at hc;simp only[zlc,zCF,zEp,zjW hS,zcH,hn,zv6]at hc;simp only[];split at hc
  .rename_i vs hvs;rw[hvs];exact hfin (λcr H' hz=>hr.call _ _ _ _ _ _ _ hS.2.2.2 hz) hc
  .cases hc
 | zej x xs=>
  rw[hi]at hc;simp only[zlc,zu3,zAc,zjW hS,zkM hS,zcH,hn,zv6]at hc;simp only[];split at hc
  .rename_i v hv;split at hc
   .rename_i vs hvs;rw[hv,hvs];exact hfin (λcr H' hz=>zuI hr hS.2.2.2 hz) hc
   cases hc
  .cases hc
 | panic x=>
  rw[hi]at hc;simp only[zlc,zwY,zz3,zkM hS]at hc
  grind
 | defer x xs=>
  rw[hi]at hc;simp only[zlc,zwM,zz0,zjW hS,zkM hS,zdo]at hc;simp only[];split at hc
  .rename_i f first cap hv
   split at hc
   .rename_i vs hvs;rw[hv,hvs];cases top with
    | true=>
     simp only[qdt]at hc ⊢;exact hput (T1:=⟨T.N,T.env,.fn f (first ++ vs ++ cap):: T.dfs,T.hp⟩) (S1:={ S with dfs:=.fn f (first ++ vs ++ cap):: S.dfs }) ⟨hS.1,hS.2.1,by rw[hS.2.2.1],hS.2.2.2⟩ hc
    | false=>simp only[qdu]at hc; cases hc
   cases hc
  .cases hc
 | _=>rw[hi]at hc; exact plain _ hc
def zwD(p:Option V)(H:HY)(n:Option Nat):Option V:=
 match p with
 | some (.ptr β o)=>(match zvb H β with
  | some cs=>zpo cs o n
  | none=>none)
 | _=>none
def zDI(c:Option Bool)(T:TY)(a b:X):Option V:=
 match c with
 | some true=>evY T a
 | some false=>evY T b
 | none=>none
def zIg(x:X):Sy:=λ_ _ _ _ _ T o k=>ziP (evY T x) T o k
def zGH(n:Option Nat)(x:X):Sy:=λ_ _ _ _ _ T o k=>ziP (zwD (evY T x) T.hp n) T o k
def zHH(off:Nat)(x:X):Sy:=λ_ _ _ _ _ T o k=>ziP (zHL (evY T x) off) T o k
def zDx(n:Nat)(x i:X):Sy:=λ_ _ _ _ _ T o k=>ziP (zDh n (evY T x) (zEc (evY T i))) T o k
def zDb(n cnt:Nat)(x i:X):Sy:=λ_ _ _ _ _ T o k=>ziP (zER n cnt (evY T x) (zEc (evY T i))) T o k
def zGY(op:BinOp)(x y:X):Sy:=λ_ _ _ _ _ T o k=>ziP (zG3 (bOp op) (intOf (evY T x)) (intOf (evY T y))) T o k
def zEw(kd:IntKind)(x:X):Sy:=λ_ _ _ _ _ T o k=>ziP (zD6 kd (intOf (evY T x))) T o k
def zGl(c a b:X):Sy:=λ_ _ _ _ _ T o k=>ziP (zDI (zrR (evY T c)) T a b) T o k
def yUn(op:UnOp)(x:X):Sy:=λ_ _ _ _ _ T o k=>ziP (xUn op (evY T x)) T o k
def zIl(x:X):Sy:=λ_ _ _ _ _ T o k=>ziP (zHu (evY T x)) T o k
def zIB(x:X)(i:Nat):Sy:=λ_ _ _ _ _ T o k=>ziP (zIx (evY T x) i) T o k
def zDR(z:List Value):Sy:=λ_ _ _ _ _ T o k=>zqC T.hp (.blk (z.map .lit)) λn H=>zyD (zvv T H) o.dst (.ptr n 0) k
def zHs(x:X):Sy:=λ_ _ _ _ _ T o k=>zxt (zGv (zc9 (evY T x))) T o k
def zEX(n:Nat)(a x:X):Sy:=λ_ B _ _ _ T o k=>zxt (zwP B (zvb T.hp) n (evY T a) (zc9 (evY T x))) T o k
def zHT(n bytes:Nat)(s x:X):Sy:=λ_ B _ _ _ T o k=>zxt (zFU B (zvb T.hp) n bytes (evY T s) ((evY T x).bind (zC4 (zvb T.hp) n))) T o k
def zsW(i:I):Sy:=
 match i with
 | .mov x=>zIg x
 | .load n x=>zGH n x
 | .fld off x=>zHH off x
 | .idxS n x i=>zDx n x i
 | .idxA n cnt x i=>zDb n cnt x i
 | .bin op x y=>zGY op x y
 | .conv k x=>zEw k x
 | .pick c a b=>zGl c a b
 | .un op x=>yUn op x
 | .len x=>zIl x
 | .ext x i=>zIB x i
 | .call f xs=>zCF f xs
 | .zej x xs=>zu3 x xs
 | .panic x=>zwY x
 | .defer x xs=>zwM x xs
 | .alloc z=>zDR z
 | .box x=>zHs x
 | .store n a x=>zEX n a x
 | .app n bytes s x=>zHT n bytes s x
 | i=>zja i
theorem zzq(i:I)(r:RecY)(B:Nat)(bar top e:Bool)(T:TY)(o:O)(k:KY):zsW i r B bar top e T o k=zlc i r B bar top e T o k:=by
 cases i with
 | load n x=>
  rfl
 | idxS n x i=>
  simp only[zsW,zlc,zja,zDx,zal,qdt,qF,zDh];cases evY T x with
  | none=>rfl
  | some v=>
   cases v with
   | sl β o n' len c=>
    simp only[];cases evY T i with
    | none=>rfl
    | some w=>
     cases w with
     | lit y=>
      cases y with
      | int kd m=>cases m<;>rfl
      | _=>rfl
     | _=>rfl
   | _=>rfl
 | idxA n cnt x i=>
  simp only[zsW,zlc,zja,zDb,zal,qdt,qF,zER];cases evY T x with
  | none=>rfl
  | some v=>
   cases v with
   | ptr β o=>
    simp only[];cases evY T i with
    | none=>rfl
    | some w=>
     cases w with
     | lit y=>
      cases y with
      | int kd m=>cases m<;>rfl
      | _=>rfl
     | _=>rfl
   | _=>rfl
 | bin op x y=>
  simp only[zsW,zlc,zja,zGY,zal,qdt,qF,zBH];rfl
 | conv kd x=>
  simp only[zsW,zlc,zja,zEw,zal,qdt,qF,zD6]
  grind [Go.Mx.intOf]
 | pick c a b=>
  rfl
 | _=>rfl
def zBA:Sy:=λr B bar top e T o k=>
 match zqt T o.g with
 | false=>zyD T o.dst zbg k
 | true=>zsW o.i r B bar top e T o k
theorem zym{rY:RecY}{r:Rec}(hr:RRY rY r){B:Nat}{bar top e:Bool}{T T':TY}{S:St}{o:O}{kY:KY}{ex:Ex}(hS:RY T S)(hk:∀ T1 S1,RY T1 S1->kY T1=some (ex,T')->∃ S',k S1=some (ex,S')/\RY T' S')(hc:zBA rY B bar top e T o kY=some (ex,T')):∃ S',zdI r B bar top e S o k=some (ex,S')/\RY T' S':=by
 unfold zBA at hc;rw[zs7 hS]at hc;cases hw:wanted S.env o.g with
 | false=>
  grind [zdI,zvj]
 | true=>
  rw[hw]at hc;simp only[zzq]at hc;exact zyW hr hS hw hk hc
def znf(r:RecY)(B:Nat)(bar top e:Bool):List O->KY
 | [],T=>some (.normal,T)
 | o :: l,T=>zBA r B bar top e T o (znf r B bar top e l)
theorem zlm{rY:RecY}{r:Rec}(hr:RRY rY r){B:Nat}{bar top e:Bool}{T':TY}{ex:Ex}:∀(l:List O) (T:TY) (S:St),RY T S->znf rY B bar top e l T=some (ex,T')->∃ S',zbh r B bar top e l S=some (ex,S')/\RY T' S'
 | [],T,S,hS,hc=>by
  grind [znf,Go.Mx.zbh]
 | o :: l,T,S,hS,hc=>zym hr hS (λT1 S1 h1 h2=>zlm hr l T1 S1 h1 h2) hc
end Go.Mx
