/-
 The machine with tries: one operation. Conditions: none.
-/
import Derived.Test.YtbjogdohfhdaiaaGreatENMx20
set_option linter.unusedSimpArgs false
set_option linter.unusedVariables false
namespace Go.Mx
open Go
abbrev Sy:=RecY->Nat->Bool->Bool->Bool->TY->O->KY->Option (Ex×TY)
def zhO(v:Option V)(T:TY)(o:O)(k:KY):Option (Ex×TY):=
 match v with
 | some v=>zwH T o.dst v k
 | none=>none
def ztI(e:Option EffR)(T:TY)(o:O)(k:KY):Option (Ex×TY):=
 match e with
 | some e=>apY T.hp e λv H=>zwH (zuS T H) o.dst v k
 | none=>none
def zgi(i:I):Sy:=λ_ B _ _ _ T o k=>
 bif zaj i then zhO (qF (evY T) (zx6 T) (zsT T.hp) i) T o k else ztI (zxb B (zsT T.hp) (evY T) i) T o k
def zCT(e:Bool)(o:O)(T:TY)(x:Option (CR×HY))(k:KY):Option (Ex×TY):=
 match x with
 | some (.ret v,H)=>zwH (zuS T H) o.dst v k
 | some (.pan v,H)=>some (.panic v e,zuS T H)
 | none=>none
def zCB(f:Nat)(vs:Option (List V)):Sy:=λr B bar _ e T o k=>
 match vs with
 | some vs=>zdo (bif zpm bar f then T.hp.n else B) λB'=>zDW T λH=>zCT e o T (r.call B' f vs H) k
 | none=>none
def zz0(f:Nat)(xs:List X):Sy:=λr B bar top e T o k=>zCB f (zx6 T xs) r B bar top e T o k
def zxv(v:Option V)(vs:Option (List V)):Sy:=λr B bar _ e T o k=>
 match v with
 | some v=>(match vs with
  | some vs=>zdo (bif bar then T.hp.n else B) λB'=>zDW T λH=>zCT e o T (zsQ r B' v vs H) k
  | none=>none)
 | none=>none
def ztM(x:X)(xs:List X):Sy:=λr B bar top e T o k=>zxv (evY T x) (zx6 T xs) r B bar top e T o k
def zxs(v:Option V)(e:Bool)(T:TY):Option (Ex×TY):=
 match v with
 | some (.ifc t v)=>some (.panic (.ifc t v) e,T)
 | _=>none
def ztl(x:X):Sy:=λ_ _ _ _ e T _ _=>zxs (evY T x) e T
def zxo(v:Option V)(vs:Option (List V))(top:Bool)(T:TY)(o:O)(k:KY):Option (Ex×TY):=
 match v with
 | some (.clo f first cap)=>(match vs with
  | some vs=>bif top then zdi (first ++ vs ++ cap) λl=>zwH ⟨T.N,T.env,.fn f l :: T.dfs,T.hp⟩ o.dst za0 k else none
  | none=>none)
 | _=>none
def zuZ(x:X)(xs:List X):Sy:=λ_ _ _ top _ T o k=>zxo (evY T x) (zx6 T xs) top T o k
def zie(i:I):Sy:=
 match i with
 | .call f xs=>zz0 f xs
 | .callv x xs=>ztM x xs
 | .panic x=>ztl x
 | .defer x xs=>zuZ x xs
 | i=>zgi i
variable{k:St->Option (Ex×St)}
theorem zwc{rY:RecY}{r:Rec}(hr:RRY rY r){B:Nat}{bar top e:Bool}{T T':TY}{S:St}{o:O}{kY:KY}{ex:Ex}(hS:RY T S)(hw:wanted S.env o.g=true)(hk:∀ T1 S1,RY T1 S1->kY T1=some (ex,T')->∃ S',k S1=some (ex,S')/\RY T' S')(hc:zie o.i rY B bar top e T o kY=some (ex,T')):∃ S',zde r B bar top e S o k=some (ex,S')/\RY T' S':=by
 have hput:∀ {T1:TY} {S1:St} {v:V},RY T1 S1->zwH T1 o.dst v kY=some (ex,T')->∃ S',k (S1.put o.dst v)=some (ex,S')/\RY T' S':=by
  intro T1 S1 v h1 h2;obtain⟨T2,g1,g2⟩:=ztc h1 h2;exact hk _ _ g1 g2
 have hfin:∀ {x:Option (CR×HY)} {y:Option (CR×zan)},(∀ cr H',x=some (cr,H')->∃ h',y=some (cr,h')/\zfn H' h')->zCT e o T x kY=some (ex,T')->∃ S',zqs e o S y k=some (ex,S')/\RY T' S':=by
  intro x y hxy hf;unfold zCT at hf;split at hf
  .rename_i v H;obtain⟨h',g1,g2⟩:=hxy _ _ rfl;rw[g1];exact hput (hS.heap g2) hf
  .rename_i v H;obtain⟨h',g1,g2⟩:=hxy _ _ rfl;rw[g1];simp only[qad,qah]at hf;obtain⟨rfl,rfl⟩:=hf;exact⟨_,rfl,hS.heap g2⟩
  cases hf
 have hn:T.hp.n=S.heap.length:=hS.2.2.2.1;unfold zde;rw[hw];simp only[];have plain:∀ i,zgi i rY B bar top e T o kY=some (ex,T')->
   ∃ S',(bif zaj i then(match q S.heap S.env i with | some v=>k (S.put o.dst v)| none=>none)else(match eff B S.heap S.env i with | some (v,h)=>k ({ S with heap:=h }.put o.dst v)| none=>none))=some (ex,S')/\RY T' S':=by
  intro i hi;unfold zgi at hi;rw[show evY T=ev S.env from funext (ziX hS),show zx6 T=evs S.env from funext (zjv hS),show zsT T.hp=zax S.heap from funext (zoD hS.2.2.2)]at hi;cases hq:zaj i with
  | true=>
   rw[hq,qdz,zDx,zDe]at hi;simp only[qdz];unfold zhO at hi;split at hi
   .exact hput hS hi
   .cases hi
  | false=>
   rw[hq,qdA]at hi;simp only[qdA];rw[<- zyp];unfold ztI at hi;split at hi
   .rename_i er her;rw[her];obtain⟨H',g1,g2⟩:=zxk hS.2.2.2 hi;simp only[qaU];exact hput (hS.heap g1) g2
   cases hi
 cases hi:o.i with
 | call f xs=>
  rw[hi]at hc;simp only[zie,zz0,zCB,zjv hS,zcd,hn,ztZ]at hc;simp only[];split at hc
  .rename_i vs hvs;rw[hvs];exact hfin (λcr H' hz=>hr.call _ _ _ _ _ _ _ hS.2.2.2 hz) hc
  .cases hc
 | callv x xs=>
  rw[hi]at hc;simp only[zie,ztM,zxv,zjv hS,ziX hS,zcd,hn,ztZ]at hc;simp only[];split at hc
  .rename_i v hv;split at hc
   .rename_i vs hvs;rw[hv,hvs];exact hfin (λcr H' hz=>zuB hr hS.2.2.2 hz) hc
   cases hc
  .cases hc
 | panic x=>
  rw[hi]at hc;simp only[zie,ztl,zxs,ziX hS]at hc;simp only[];split at hc
  .rename_i t v hv;rw[hv];simp only[qad,qah]at hc;obtain⟨rfl,rfl⟩:=hc;exact⟨S,rfl,hS⟩
  .cases hc
 | defer x xs=>
  rw[hi]at hc;simp only[zie,zuZ,zxo,zjv hS,ziX hS,zcB]at hc;simp only[];split at hc
  .rename_i f first cap hv
   split at hc
   .rename_i vs hvs;rw[hv,hvs];cases top with
    | true=>
     simp only[qdz]at hc ⊢;exact hput (T1:=⟨T.N,T.env,.fn f (first ++ vs ++ cap):: T.dfs,T.hp⟩) (S1:={ S with dfs:=.fn f (first ++ vs ++ cap):: S.dfs }) ⟨hS.1,hS.2.1,by rw[hS.2.2.1],hS.2.2.2⟩ hc
    | false=>simp only[qdA]at hc; cases hc
   cases hc
  .cases hc
 | _=>rw[hi]at hc; exact plain _ hc
def zpX(p:Option V)(H:HY)(n:Option Nat):Option V:=
 match p with
 | some (.ptr β o)=>(match zsT H β with
  | some cs=>zne cs o n
  | none=>none)
 | _=>none
def zxN(c:Option Bool)(T:TY)(a b:X):Option V:=
 match c with
 | some true=>evY T a
 | some false=>evY T b
 | none=>none
def zFN(x:X):Sy:=λ_ _ _ _ _ T o k=>zhO (evY T x) T o k
def zBX(n:Option Nat)(x:X):Sy:=λ_ _ _ _ _ T o k=>zhO (zpX (evY T x) T.hp n) T o k
def zEx(off:Nat)(x:X):Sy:=λ_ _ _ _ _ T o k=>zhO (zEz (evY T x) off) T o k
def zBI(n:Nat)(x i:X):Sy:=λ_ _ _ _ _ T o k=>zhO (zCu n (evY T x) (zBg (evY T i))) T o k
def zBD(n cnt:Nat)(x i:X):Sy:=λ_ _ _ _ _ T o k=>zhO (zBP n cnt (evY T x) (zBg (evY T i))) T o k
def zEu(op:BinOp)(x y:X):Sy:=λ_ _ _ _ _ T o k=>zhO (zEq (bOp op) (intOf (evY T x)) (intOf (evY T y))) T o k
def zCo(kd:IntKind)(x:X):Sy:=λ_ _ _ _ _ T o k=>zhO (zAy kd (intOf (evY T x))) T o k
def zA9(c a b:X):Sy:=λ_ _ _ _ _ T o k=>zhO (zxN (zp2 (evY T c)) T a b) T o k
def yUn(op:UnOp)(x:X):Sy:=λ_ _ _ _ _ T o k=>zhO (xUn op (evY T x)) T o k
def zEM(x:X):Sy:=λ_ _ _ _ _ T o k=>zhO (zFv (evY T x)) T o k
def zE0(x:X)(i:Nat):Sy:=λ_ _ _ _ _ T o k=>zhO (zFk (evY T x) i) T o k
def zB6(z:List Value):Sy:=λ_ _ _ _ _ T o k=>zpt T.hp (.blk (z.map .lit)) λn H=>zwH (zuS T H) o.dst (.ptr n 0) k
def zFA(x:X):Sy:=λ_ _ _ _ _ T o k=>ztI (zEh (zcO (evY T x))) T o k
def zA7(n:Nat)(a x:X):Sy:=λ_ B _ _ _ T o k=>ztI (zt3 B (zsT T.hp) n (evY T a) (zcO (evY T x))) T o k
def zEX(n bytes:Nat)(s x:X):Sy:=λ_ B _ _ _ T o k=>ztI (zDY B (zsT T.hp) n bytes (evY T s) ((evY T x).bind (zAu (zsT T.hp) n))) T o k
def zmi(i:I):Sy:=
 match i with
 | .mov x=>zFN x
 | .load n x=>zBX n x
 | .fld off x=>zEx off x
 | .idxS n x i=>zBI n x i
 | .idxA n cnt x i=>zBD n cnt x i
 | .bin op x y=>zEu op x y
 | .conv k x=>zCo k x
 | .pick c a b=>zA9 c a b
 | .un op x=>yUn op x
 | .len x=>zEM x
 | .ext x i=>zE0 x i
 | .call f xs=>zz0 f xs
 | .callv x xs=>ztM x xs
 | .panic x=>ztl x
 | .defer x xs=>zuZ x xs
 | .alloc z=>zB6 z
 | .box x=>zFA x
 | .store n a x=>zA7 n a x
 | .app n bytes s x=>zEX n bytes s x
 | i=>zgi i
theorem zvK(i:I)(r:RecY)(B:Nat)(bar top e:Bool)(T:TY)(o:O)(k:KY):zmi i r B bar top e T o k=zie i r B bar top e T o k:=by
 cases i with
 | load n x=>
  simp only[zmi,zie,zgi,zBX,zaj,qdz,qF,zpX];rfl
 | idxS n x i=>
  simp only[zmi,zie,zgi,zBI,zaj,qdz,qF,zCu];cases evY T x with
  | none=>rfl
  | some v=>
   cases v with
   | sl β o n' len c=>
    simp only[];cases evY T i with
    | none=>rfl
    | some w=>
     cases w with
     | lit y=>
      cases y with
      | int kd m=>cases m<;>rfl
      | _=>rfl
     | _=>rfl
   | _=>rfl
 | idxA n cnt x i=>
  simp only[zmi,zie,zgi,zBD,zaj,qdz,qF,zBP];cases evY T x with
  | none=>rfl
  | some v=>
   cases v with
   | ptr β o=>
    simp only[];cases evY T i with
    | none=>rfl
    | some w=>
     cases w with
     | lit y=>
      cases y with
      | int kd m=>cases m<;>rfl
      | _=>rfl
     | _=>rfl
   | _=>rfl
 | bin op x y=>
  simp only[zmi,zie,zgi,zEu,zaj,qdz,qF,zyX];rfl
 | conv kd x=>
  simp only[zmi,zie,zgi,zCo,zaj,qdz,qF,zAy];cases evY T x with
  | none=>rfl
  | some v=>
   cases v with
   | lit y=>cases y<;>rfl
   | _=>rfl
 | pick c a b=>
  simp only[zmi,zie,zgi,zA9,zaj,qdz,qF,qG,zCE,zxN];cases evY T c with
  | none=>rfl
  | some v=>
   cases v with
   | lit y=>
    cases y with
    | bool b=>cases b<;>rfl
    | _=>rfl
   | _=>rfl
 | _=>rfl
def zyG:Sy:=λr B bar top e T o k=>
 match zo6 T o.g with
 | false=>zwH T o.dst za0 k
 | true=>zmi o.i r B bar top e T o k
theorem zwG{rY:RecY}{r:Rec}(hr:RRY rY r){B:Nat}{bar top e:Bool}{T T':TY}{S:St}{o:O}{kY:KY}{ex:Ex}(hS:RY T S)(hk:∀ T1 S1,RY T1 S1->kY T1=some (ex,T')->∃ S',k S1=some (ex,S')/\RY T' S')(hc:zyG rY B bar top e T o kY=some (ex,T')):∃ S',zde r B bar top e S o k=some (ex,S')/\RY T' S':=by
 unfold zyG at hc;rw[zrQ hS]at hc;cases hw:wanted S.env o.g with
 | false=>
  rw[hw]at hc;unfold zde;rw[hw];obtain⟨T2,g1,g2⟩:=ztc hS hc;exact hk _ _ g1 g2
 | true=>
  rw[hw]at hc;simp only[zvK]at hc;exact zwc hr hS hw hk hc
def zlD(r:RecY)(B:Nat)(bar top e:Bool):List O->KY
 | [],T=>some (.normal,T)
 | o :: l,T=>zyG r B bar top e T o (zlD r B bar top e l)
theorem zkc{rY:RecY}{r:Rec}(hr:RRY rY r){B:Nat}{bar top e:Bool}{T':TY}{ex:Ex}:∀(l:List O) (T:TY) (S:St),RY T S->zlD rY B bar top e l T=some (ex,T')->∃ S',za6 r B bar top e l S=some (ex,S')/\RY T' S'
 | [],T,S,hS,hc=>by
  simp only[zlD,qad,qah]at hc;obtain⟨rfl,rfl⟩:=hc;exact⟨S,rfl,hS⟩
 | o :: l,T,S,hS,hc=>zwG hr hS (λT1 S1 h1 h2=>zkc hr l T1 S1 h1 h2) hc
end Go.Mx
