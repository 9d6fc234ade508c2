/-
 The machine with tries: one operation. Conditions: none.
-/
import Derived.Test.YtbjogdohfhdaiaaCaMx20
set_option linter.unusedSimpArgs false
set_option linter.unusedVariables false
namespace Go.Mx
open Go
abbrev Sy:=RecY->Nat->Bool->Bool->Bool->TY->O->KY->Option (Ex×TY)
def zfL(v:Option V)(T:TY)(o:O)(k:KY):Option (Ex×TY):=
 match v with
 | some v=>zrZ T o.dst v k
 | none=>none
def zqO(e:Option EffR)(T:TY)(o:O)(k:KY):Option (Ex×TY):=
 match e with
 | some e=>apY T.hp e λv H=>zrZ (znY T H) o.dst v k
 | none=>none
def zex(i:I):Sy:=λ_ B _ _ _ T o k=>
 bif zae i then zfL (qF (evY T) (zsX T) (zpJ T.hp) i) T o k else zqO (zrE B (zpJ T.hp) (evY T) i) T o k
def zwu(e:Bool)(o:O)(T:TY)(x:Option (CR×HY))(k:KY):Option (Ex×TY):=
 match x with
 | some (.ret v,H)=>zrZ (znY T H) o.dst v k
 | some (.pan v,H)=>some (.panic v e,znY T H)
 | none=>none
def zuR(f:Nat)(vs:Option (List V)):Sy:=λr B bar _ e T o k=>
 match vs with
 | some vs=>zcs (bif zlx bar f then T.hp.n else B) λB'=>zw7 T λH=>zwu e o T (r.call B' f vs H) k
 | none=>none
def ztK(f:Nat)(xs:List X):Sy:=λr B bar top e T o k=>zuR f (zsX T xs) r B bar top e T o k
def zsP(v:Option V)(vs:Option (List V)):Sy:=λr B bar _ e T o k=>
 match v with
 | some v=>(match vs with
  | some vs=>zcs (bif bar then T.hp.n else B) λB'=>zw7 T λH=>zwu e o T (zp4 r B' v vs H) k
  | none=>none)
 | none=>none
def zph(x:X)(xs:List X):Sy:=λr B bar top e T o k=>zsP (evY T x) (zsX T xs) r B bar top e T o k
def zss(v:Option V)(e:Bool)(T:TY):Option (Ex×TY):=
 match v with
 | some (.ifc t v)=>some (.panic (.ifc t v) e,T)
 | _=>none
def zpt(x:X):Sy:=λ_ _ _ _ e T _ _=>zss (evY T x) e T
def zsS(v:Option V)(vs:Option (List V))(top:Bool)(T:TY)(o:O)(k:KY):Option (Ex×TY):=
 match v with
 | some (.clo f first cap)=>(match vs with
  | some vs=>bif top then zcc (first ++ vs ++ cap) λl=>zrZ ⟨T.N,T.env,.fn f l :: T.dfs,T.hp⟩ o.dst zav k else none
  | none=>none)
 | _=>none
def zoq(x:X)(xs:List X):Sy:=λ_ _ _ top _ T o k=>zsS (evY T x) (zsX T xs) top T o k
def zf4(i:I):Sy:=
 match i with
 | .call f xs=>ztK f xs
 | .zc6 x xs=>zph x xs
 | .panic x=>zpt x
 | .defer x xs=>zoq x xs
 | i=>zex i
variable{k:St->Option (Ex×St)}
theorem zsd{rY:RecY}{r:Rec}(hr:RRY rY r){B:Nat}{bar top e:Bool}{T T':TY}{S:St}{o:O}{kY:KY}{ex:Ex}(hS:RY T S)(hw:wanted S.env o.g=true)(hk:∀ T1 S1,RY T1 S1->kY T1=some (ex,T')->∃ S',k S1=some (ex,S')/\RY T' S')(hc:zf4 o.i rY B bar top e T o kY=some (ex,T')):∃ S',zbO r B bar top e S o k=some (ex,S')/\RY T' S':=by
 have hput:∀ {T1:TY} {S1:St} {v:V},RY T1 S1->zrZ T1 o.dst v kY=some (ex,T')->∃ S',k (S1.put o.dst v)=some (ex,S')/\RY T' S':=by
  intro T1 S1 v h1 h2;obtain⟨T2,g1,g2⟩:=zoK h1 h2;exact hk _ _ g1 g2
 have hfin:∀ {x:Option (CR×HY)} {y:Option (CR×zaf)},(∀ cr H',x=some (cr,H')->∃ h',y=some (cr,h')/\zdu H' h')->zwu e o T x kY=some (ex,T')->∃ S',zjh e o S y k=some (ex,S')/\RY T' S':=by
  intro x y hxy hf;unfold zwu at hf;split at hf
  .rename_i v H;obtain⟨h',g1,g2⟩:=hxy _ _ rfl;rw[g1];exact hput (hS.heap g2) hf
  .rename_i v H;obtain⟨h',g1,g2⟩:=hxy _ _ rfl;rw[g1];simp only[qac,qag]at hf;obtain⟨rfl,rfl⟩:=hf;exact⟨_,rfl,hS.heap g2⟩
  cases hf
 have hn:T.hp.n=S.heap.length:=hS.2.2.2.1;unfold zbO;rw[hw];simp only[];have plain:∀ i,zex i rY B bar top e T o kY=some (ex,T')->
   ∃ S',(bif zae i then(match q S.heap S.env i with | some v=>k (S.put o.dst v)| none=>none)else(match eff B S.heap S.env i with | some (v,h)=>k ({ S with heap:=h }.put o.dst v)| none=>none))=some (ex,S')/\RY T' S':=by
  intro i hi;unfold zex at hi;rw[show evY T=ev S.env from funext (zgS hS),show zsX T=evs S.env from funext (zgF hS),show zpJ T.hp=zak S.heap from funext (zkK hS.2.2.2)]at hi;cases hq:zae i with
  | true=>
   rw[hq,qcR,zwY,zxu]at hi;simp only[qcR];unfold zfL at hi;split at hi
   .exact hput hS hi
   .cases hi
  | false=>
   rw[hq,qcS]at hi;simp only[qcS];rw[<- ztC];unfold zqO at hi;split at hi
   .rename_i er her;rw[her];obtain⟨H',g1,g2⟩:=zvm hS.2.2.2 hi;simp only[qaF];exact hput (hS.heap g1) g2
   cases hi
 cases hi:o.i with
 | call f xs=>
  rw[hi]at hc;simp only[zf4,ztK,zuR,zgF hS,zbP,hn,zn6]at hc;simp only[];split at hc
  .rename_i vs hvs;rw[hvs];exact hfin (λcr H' hz=>hr.call _ _ _ _ _ _ _ hS.2.2.2 hz) hc
  .cases hc
 | zc6 x xs=>
  rw[hi]at hc;simp only[zf4,zph,zsP,zgF hS,zgS hS,zbP,hn,zn6]at hc;simp only[];split at hc
  .rename_i v hv;split at hc
   .rename_i vs hvs;rw[hv,hvs];exact hfin (λcr H' hz=>zpN hr hS.2.2.2 hz) hc
   cases hc
  .cases hc
 | panic x=>
  rw[hi]at hc;simp only[zf4,zpt,zss,zgS hS]at hc;simp only[];split at hc
  .rename_i t v hv;rw[hv];simp only[qac,qag]at hc;obtain⟨rfl,rfl⟩:=hc;exact⟨S,rfl,hS⟩
  .cases hc
 | defer x xs=>
  rw[hi]at hc;simp only[zf4,zoq,zsS,zgF hS,zgS hS,zbJ]at hc;simp only[];split at hc
  .rename_i f first cap hv
   split at hc
   .rename_i vs hvs;rw[hv,hvs];cases top with
    | true=>
     simp only[qcR]at hc ⊢;exact hput (T1:=⟨T.N,T.env,.fn f (first ++ vs ++ cap):: T.dfs,T.hp⟩) (S1:={ S with dfs:=.fn f (first ++ vs ++ cap):: S.dfs }) ⟨hS.1,hS.2.1,by rw[hS.2.2.1],hS.2.2.2⟩ hc
    | false=>simp only[qcS]at hc; cases hc
   cases hc
  .cases hc
 | _=>rw[hi]at hc; exact plain _ hc
def zma(p:Option V)(H:HY)(n:Option Nat):Option V:=
 match p with
 | some (.ptr β o)=>(match zpJ H β with
  | some cs=>zjG cs o n
  | none=>none)
 | _=>none
def zs4(c:Option Bool)(T:TY)(a b:X):Option V:=
 match c with
 | some true=>evY T a
 | some false=>evY T b
 | none=>none
def zyD(x:X):Sy:=λ_ _ _ _ _ T o k=>zfL (evY T x) T o k
def zvJ(n:Option Nat)(x:X):Sy:=λ_ _ _ _ _ T o k=>zfL (zma (evY T x) T.hp n) T o k
def zyG(off:Nat)(x:X):Sy:=λ_ _ _ _ _ T o k=>zfL (zx1 (evY T x) off) T o k
def zuT(n:Nat)(x i:X):Sy:=λ_ _ _ _ _ T o k=>zfL (zvq n (evY T x) (zvM (evY T i))) T o k
def zvO(n cnt:Nat)(x i:X):Sy:=λ_ _ _ _ _ T o k=>zfL (zvx n cnt (evY T x) (zvM (evY T i))) T o k
def zxH(op:BinOp)(x y:X):Sy:=λ_ _ _ _ _ T o k=>zfL (zxE (bOp op) (intOf (evY T x)) (intOf (evY T y))) T o k
def zwb(kd:IntKind)(x:X):Sy:=λ_ _ _ _ _ T o k=>zfL (zv5 kd (intOf (evY T x))) T o k
def zvT(c a b:X):Sy:=λ_ _ _ _ _ T o k=>zfL (zs4 (zlO (evY T c)) T a b) T o k
def yUn(op:UnOp)(x:X):Sy:=λ_ _ _ _ _ T o k=>zfL (xUn op (evY T x)) T o k
def zxT(x:X):Sy:=λ_ _ _ _ _ T o k=>zfL (zx3 (evY T x)) T o k
def zyt(x:X)(i:Nat):Sy:=λ_ _ _ _ _ T o k=>zfL (zyB (evY T x) i) T o k
def zuN(z:List Value):Sy:=λ_ _ _ _ _ T o k=>zie T.hp (.blk (z.map .lit)) λn H=>zrZ (znY T H) o.dst (.ptr n 0) k
def zyL(x:X):Sy:=λ_ _ _ _ _ T o k=>zqO (zxM (zbT (evY T x))) T o k
def zvn(n:Nat)(a x:X):Sy:=λ_ B _ _ _ T o k=>zqO (zoC B (zpJ T.hp) n (evY T a) (zbT (evY T x))) T o k
def zyE(n bytes:Nat)(s x:X):Sy:=λ_ B _ _ _ T o k=>zqO (zwT B (zpJ T.hp) n bytes (evY T s) ((evY T x).bind (zur (zpJ T.hp) n))) T o k
def zjD(i:I):Sy:=
 match i with
 | .mov x=>zyD x
 | .load n x=>zvJ n x
 | .fld off x=>zyG off x
 | .idxS n x i=>zuT n x i
 | .idxA n cnt x i=>zvO n cnt x i
 | .bin op x y=>zxH op x y
 | .conv k x=>zwb k x
 | .pick c a b=>zvT c a b
 | .un op x=>yUn op x
 | .len x=>zxT x
 | .ext x i=>zyt x i
 | .call f xs=>ztK f xs
 | .zc6 x xs=>zph x xs
 | .panic x=>zpt x
 | .defer x xs=>zoq x xs
 | .alloc z=>zuN z
 | .box x=>zyL x
 | .store n a x=>zvn n a x
 | .app n bytes s x=>zyE n bytes s x
 | i=>zex i
theorem zra(i:I)(r:RecY)(B:Nat)(bar top e:Bool)(T:TY)(o:O)(k:KY):zjD i r B bar top e T o k=zf4 i r B bar top e T o k:=by
 cases i with
 | load n x=>
  simp only[zjD,zf4,zex,zvJ,zae,qcR,qF,zma];rfl
 | idxS n x i=>
  simp only[zjD,zf4,zex,zuT,zae,qcR,qF,zvq];cases evY T x with
  | none=>rfl
  | some v=>
   cases v with
   | sl β o n' len c=>
    simp only[];cases evY T i with
    | none=>rfl
    | some w=>
     cases w with
     | lit y=>
      cases y with
      | int kd m=>cases m<;>rfl
      | _=>rfl
     | _=>rfl
   | _=>rfl
 | idxA n cnt x i=>
  simp only[zjD,zf4,zex,zvO,zae,qcR,qF,zvx];cases evY T x with
  | none=>rfl
  | some v=>
   cases v with
   | ptr β o=>
    simp only[];cases evY T i with
    | none=>rfl
    | some w=>
     cases w with
     | lit y=>
      cases y with
      | int kd m=>cases m<;>rfl
      | _=>rfl
     | _=>rfl
   | _=>rfl
 | bin op x y=>
  simp only[zjD,zf4,zex,zxH,zae,qcR,qF,ztE];rfl
 | conv kd x=>
  simp only[zjD,zf4,zex,zwb,zae,qcR,qF,zv5];cases evY T x with
  | none=>rfl
  | some v=>
   cases v with
   | lit y=>cases y<;>rfl
   | _=>rfl
 | pick c a b=>
  simp only[zjD,zf4,zex,zvT,zae,qcR,qF,qG,zwq,zs4];cases evY T c with
  | none=>rfl
  | some v=>
   cases v with
   | lit y=>
    cases y with
    | bool b=>cases b<;>rfl
    | _=>rfl
   | _=>rfl
 | _=>rfl
def ztR:Sy:=λr B bar top e T o k=>
 match zk4 T o.g with
 | false=>zrZ T o.dst zav k
 | true=>zjD o.i r B bar top e T o k
theorem zq7{rY:RecY}{r:Rec}(hr:RRY rY r){B:Nat}{bar top e:Bool}{T T':TY}{S:St}{o:O}{kY:KY}{ex:Ex}(hS:RY T S)(hk:∀ T1 S1,RY T1 S1->kY T1=some (ex,T')->∃ S',k S1=some (ex,S')/\RY T' S')(hc:ztR rY B bar top e T o kY=some (ex,T')):∃ S',zbO r B bar top e S o k=some (ex,S')/\RY T' S':=by
 unfold ztR at hc;rw[znm hS]at hc;cases hw:wanted S.env o.g with
 | false=>
  rw[hw]at hc;unfold zbO;rw[hw];obtain⟨T2,g1,g2⟩:=zoK hS hc;exact hk _ _ g1 g2
 | true=>
  rw[hw]at hc;simp only[zra]at hc;exact zsd hr hS hw hk hc
def zib(r:RecY)(B:Nat)(bar top e:Bool):List O->KY
 | [],T=>some (.normal,T)
 | o :: l,T=>ztR r B bar top e T o (zib r B bar top e l)
theorem zhO{rY:RecY}{r:Rec}(hr:RRY rY r){B:Nat}{bar top e:Bool}{T':TY}{ex:Ex}:∀(l:List O) (T:TY) (S:St),RY T S->zib rY B bar top e l T=some (ex,T')->∃ S',zax r B bar top e l S=some (ex,S')/\RY T' S'
 | [],T,S,hS,hc=>by
  simp only[zib,qac,qag]at hc;obtain⟨rfl,rfl⟩:=hc;exact⟨S,rfl,hS⟩
 | o :: l,T,S,hS,hc=>zq7 hr hS (λT1 S1 h1 h2=>zhO hr l T1 S1 h1 h2) hc
end Go.Mx
