/-
 The machine with tries: one operation. Conditions: none.
-/
import Derived.Test.YtbjogdohfhdaiaaCfMx20
set_option linter.unusedSimpArgs false
set_option linter.unusedVariables false
namespace Go.Mx
open Go
abbrev Sy:=RecY->Nat->Bool->Bool->Bool->TY->O->KY->Option (Ex×TY)
def zhm(v:Option V)(T:TY)(o:O)(k:KY):Option (Ex×TY):=
 match v with
 | some v=>zwG T o.dst v k
 | none=>none
def zr0(e:Option EffR)(T:TY)(o:O)(k:KY):Option (Ex×TY):=
 match e with
 | some e=>apY T.hp e λv H=>zwG (zsn T H) o.dst v k
 | none=>none
def zfS(i:I):Sy:=λ_ B _ _ _ T o k=>
 bif zag i then zhm (qF (evY T) (zw5 T) (ztp T.hp) i) T o k else zr0 (zwg B (ztp T.hp) (evY T) i) T o k
def zBI(e:Bool)(o:O)(T:TY)(x:Option (CR×HY))(k:KY):Option (Ex×TY):=
 match x with
 | some (.ret v,H)=>zwG (zsn T H) o.dst v k
 | some (.pan v,H)=>some (.panic v e,zsn T H)
 | none=>none
def zAl(f:Nat)(vs:Option (List V)):Sy:=λr B bar _ e T o k=>
 match vs with
 | some vs=>zdt (bif zoT bar f then T.hp.n else B) λB'=>zCF T λH=>zBI e o T (r.call B' f vs H) k
 | none=>none
def zyn(f:Nat)(xs:List X):Sy:=λr B bar top e T o k=>zAl f (zw5 T xs) r B bar top e T o k
def zxm(v:Option V)(vs:Option (List V)):Sy:=λr B bar _ e T o k=>
 match v with
 | some v=>(match vs with
  | some vs=>zdt (bif bar then T.hp.n else B) λB'=>zCF T λH=>zBI e o T (zuR r B' v vs H) k
  | none=>none)
 | none=>none
def zsa(x:X)(xs:List X):Sy:=λr B bar top e T o k=>zxm (evY T x) (zw5 T xs) r B bar top e T o k
def zw7(v:Option V)(e:Bool)(T:TY):Option (Ex×TY):=
 match v with
 | some (.ifc t v)=>some (.panic (.ifc t v) e,T)
 | _=>none
def ztS(x:X):Sy:=λ_ _ _ _ e T _ _=>zw7 (evY T x) e T
def zxh(v:Option V)(vs:Option (List V))(top:Bool)(T:TY)(o:O)(k:KY):Option (Ex×TY):=
 match v with
 | some (.clo f first cap)=>(match vs with
  | some vs=>bif top then zcQ (first ++ vs ++ cap) λl=>zwG ⟨T.N,T.env,.fn f l :: T.dfs,T.hp⟩ o.dst zaG k else none
  | none=>none)
 | _=>none
def zuB(x:X)(xs:List X):Sy:=λ_ _ _ top _ T o k=>zxh (evY T x) (zw5 T xs) top T o k
def zhL(i:I):Sy:=
 match i with
 | .call f xs=>zyn f xs
 | .zdV x xs=>zsa x xs
 | .panic x=>ztS x
 | .defer x xs=>zuB x xs
 | i=>zfS i
variable{k:St->Option (Ex×St)}
theorem zwx{rY:RecY}{r:Rec}(hr:RRY rY r){B:Nat}{bar top e:Bool}{T T':TY}{S:St}{o:O}{kY:KY}{ex:Ex}(hS:RY T S)(hw:wanted S.env o.g=true)(hk:∀ T1 S1,RY T1 S1->kY T1=some (ex,T')->∃ S',k S1=some (ex,S')/\RY T' S')(hc:zhL o.i rY B bar top e T o kY=some (ex,T')):∃ S',zcj r B bar top e S o k=some (ex,S')/\RY T' S':=by
 have hput:∀ {T1:TY} {S1:St} {v:V},RY T1 S1->zwG T1 o.dst v kY=some (ex,T')->∃ S',k (S1.put o.dst v)=some (ex,S')/\RY T' S':=by
  intro T1 S1 v h1 h2;obtain⟨T2,g1,g2⟩:=zsO h1 h2;exact hk _ _ g1 g2
 have hfin:∀ {x:Option (CR×HY)} {y:Option (CR×zaj)},(∀ cr H',x=some (cr,H')->∃ h',y=some (cr,h')/\zez H' h')->zBI e o T x kY=some (ex,T')->∃ S',zlH e o S y k=some (ex,S')/\RY T' S':=by
  intro x y hxy hf;unfold zBI at hf;split at hf
  .rename_i v H;obtain⟨h',g1,g2⟩:=hxy _ _ rfl;rw[g1];exact hput (hS.heap g2) hf
  .rename_i v H;obtain⟨h',g1,g2⟩:=hxy _ _ rfl;rw[g1];simp only[qad,qag]at hf;obtain⟨rfl,rfl⟩:=hf;exact⟨_,rfl,hS.heap g2⟩
  cases hf
 have hn:T.hp.n=S.heap.length:=hS.2.2.2.1;unfold zcj;rw[hw];simp only[];have plain:∀ i,zfS i rY B bar top e T o kY=some (ex,T')->
   ∃ S',(bif zag i then(match q S.heap S.env i with | some v=>k (S.put o.dst v)| none=>none)else(match eff B S.heap S.env i with | some (v,h)=>k ({ S with heap:=h }.put o.dst v)| none=>none))=some (ex,S')/\RY T' S':=by
  intro i hi;unfold zfS at hi;rw[show evY T=ev S.env from funext (zit hS),show zw5 T=evs S.env from funext (ziq hS),show ztp T.hp=zas S.heap from funext (znX hS.2.2.2)]at hi;cases hq:zag i with
  | true=>
   rw[hq,qdl,zCd,zCi]at hi;simp only[qdl];unfold zhm at hi;split at hi
   .exact hput hS hi
   .cases hi
  | false=>
   rw[hq,qdm]at hi;simp only[qdm];rw[<- zyJ];unfold zr0 at hi;split at hi
   .rename_i er her;rw[her];obtain⟨H',g1,g2⟩:=zAg hS.2.2.2 hi;simp only[qaM];exact hput (hS.heap g1) g2
   cases hi
 cases hi:o.i with
 | call f xs=>
  rw[hi]at hc;simp only[zhL,zyn,zAl,ziq hS,zcg,hn,zui]at hc;simp only[];split at hc
  .rename_i vs hvs;rw[hvs];exact hfin (λcr H' hz=>hr.call _ _ _ _ _ _ _ hS.2.2.2 hz) hc
  .cases hc
 | zdV x xs=>
  rw[hi]at hc;simp only[zhL,zsa,zxm,ziq hS,zit hS,zcg,hn,zui]at hc;simp only[];split at hc
  .rename_i v hv;split at hc
   .rename_i vs hvs;rw[hv,hvs];exact hfin (λcr H' hz=>zsb hr hS.2.2.2 hz) hc
   cases hc
  .cases hc
 | panic x=>
  rw[hi]at hc;simp only[zhL,ztS,zw7,zit hS]at hc;simp only[];split at hc
  .rename_i t v hv;rw[hv];simp only[qad,qag]at hc;obtain⟨rfl,rfl⟩:=hc;exact⟨S,rfl,hS⟩
  .cases hc
 | defer x xs=>
  rw[hi]at hc;simp only[zhL,zuB,zxh,ziq hS,zit hS,zb5]at hc;simp only[];split at hc
  .rename_i f first cap hv
   split at hc
   .rename_i vs hvs;rw[hv,hvs];cases top with
    | true=>
     simp only[qdl]at hc ⊢;exact hput (T1:=⟨T.N,T.env,.fn f (first ++ vs ++ cap):: T.dfs,T.hp⟩) (S1:={ S with dfs:=.fn f (first ++ vs ++ cap):: S.dfs }) ⟨hS.1,hS.2.1,by rw[hS.2.2.1],hS.2.2.2⟩ hc
    | false=>simp only[qdm]at hc; cases hc
   cases hc
  .cases hc
 | _=>rw[hi]at hc; exact plain _ hc
def zpG(p:Option V)(H:HY)(n:Option Nat):Option V:=
 match p with
 | some (.ptr β o)=>(match ztp H β with
  | some cs=>zmx cs o n
  | none=>none)
 | _=>none
def zxc(c:Option Bool)(T:TY)(a b:X):Option V:=
 match c with
 | some true=>evY T a
 | some false=>evY T b
 | none=>none
def zDR(x:X):Sy:=λ_ _ _ _ _ T o k=>zhm (evY T x) T o k
def zAp(n:Option Nat)(x:X):Sy:=λ_ _ _ _ _ T o k=>zhm (zpG (evY T x) T.hp n) T o k
def zD2(off:Nat)(x:X):Sy:=λ_ _ _ _ _ T o k=>zhm (zDW (evY T x) off) T o k
def zBm(n:Nat)(x i:X):Sy:=λ_ _ _ _ _ T o k=>zhm (zAW n (evY T x) (zA3 (evY T i))) T o k
def zAQ(n cnt:Nat)(x i:X):Sy:=λ_ _ _ _ _ T o k=>zhm (zBA n cnt (evY T x) (zA3 (evY T i))) T o k
def zC2(op:BinOp)(x y:X):Sy:=λ_ _ _ _ _ T o k=>zhm (zDi (bOp op) (intOf (evY T x)) (intOf (evY T y))) T o k
def zz5(kd:IntKind)(x:X):Sy:=λ_ _ _ _ _ T o k=>zhm (zAe kd (intOf (evY T x))) T o k
def zBz(c a b:X):Sy:=λ_ _ _ _ _ T o k=>zhm (zxc (zoU (evY T c)) T a b) T o k
def yUn(op:UnOp)(x:X):Sy:=λ_ _ _ _ _ T o k=>zhm (xUn op (evY T x)) T o k
def zDB(x:X):Sy:=λ_ _ _ _ _ T o k=>zhm (zDS (evY T x)) T o k
def zEe(x:X)(i:Nat):Sy:=λ_ _ _ _ _ T o k=>zhm (zD4 (evY T x) i) T o k
def zA2(z:List Value):Sy:=λ_ _ _ _ _ T o k=>zkJ T.hp (.blk (z.map .lit)) λn H=>zwG (zsn T H) o.dst (.ptr n 0) k
def zD8(x:X):Sy:=λ_ _ _ _ _ T o k=>zr0 (zC0 (zcl (evY T x))) T o k
def zAh(n:Nat)(a x:X):Sy:=λ_ B _ _ _ T o k=>zr0 (zut B (ztp T.hp) n (evY T a) (zcl (evY T x))) T o k
def zDP(n bytes:Nat)(s x:X):Sy:=λ_ B _ _ _ T o k=>zr0 (zB9 B (ztp T.hp) n bytes (evY T s) ((evY T x).bind (zzF (ztp T.hp) n))) T o k
def zmI(i:I):Sy:=
 match i with
 | .mov x=>zDR x
 | .load n x=>zAp n x
 | .fld off x=>zD2 off x
 | .idxS n x i=>zBm n x i
 | .idxA n cnt x i=>zAQ n cnt x i
 | .bin op x y=>zC2 op x y
 | .conv k x=>zz5 k x
 | .pick c a b=>zBz c a b
 | .un op x=>yUn op x
 | .len x=>zDB x
 | .ext x i=>zEe x i
 | .call f xs=>zyn f xs
 | .zdV x xs=>zsa x xs
 | .panic x=>ztS x
 | .defer x xs=>zuB x xs
 | .alloc z=>zA2 z
 | .box x=>zD8 x
 | .store n a x=>zAh n a x
 | .app n bytes s x=>zDP n bytes s x
 | i=>zfS i
theorem zvZ(i:I)(r:RecY)(B:Nat)(bar top e:Bool)(T:TY)(o:O)(k:KY):zmI i r B bar top e T o k=zhL i r B bar top e T o k:=by
 cases i with
 | load n x=>
  simp only[zmI,zhL,zfS,zAp,zag,qdl,qF,zpG];rfl
 | idxS n x i=>
  simp only[zmI,zhL,zfS,zBm,zag,qdl,qF,zAW];cases evY T x with
  | none=>rfl
  | some v=>
   cases v with
   | sl β o n' len c=>
    simp only[];cases evY T i with
    | none=>rfl
    | some w=>
     cases w with
     | lit y=>
      cases y with
      | int kd m=>cases m<;>rfl
      | _=>rfl
     | _=>rfl
   | _=>rfl
 | idxA n cnt x i=>
  simp only[zmI,zhL,zfS,zAQ,zag,qdl,qF,zBA];cases evY T x with
  | none=>rfl
  | some v=>
   cases v with
   | ptr β o=>
    simp only[];cases evY T i with
    | none=>rfl
    | some w=>
     cases w with
     | lit y=>
      cases y with
      | int kd m=>cases m<;>rfl
      | _=>rfl
     | _=>rfl
   | _=>rfl
 | bin op x y=>
  simp only[zmI,zhL,zfS,zC2,zag,qdl,qF,zx6];rfl
 | conv kd x=>
  simp only[zmI,zhL,zfS,zz5,zag,qdl,qF,zAe];cases evY T x with
  | none=>rfl
  | some v=>
   cases v with
   | lit y=>cases y<;>rfl
   | _=>rfl
 | pick c a b=>
  simp only[zmI,zhL,zfS,zBz,zag,qdl,qF,qG,zBM,zxc];cases evY T c with
  | none=>rfl
  | some v=>
   cases v with
   | lit y=>
    cases y with
    | bool b=>cases b<;>rfl
    | _=>rfl
   | _=>rfl
 | _=>rfl
def zyt:Sy:=λr B bar top e T o k=>
 match zoc T o.g with
 | false=>zwG T o.dst zaG k
 | true=>zmI o.i r B bar top e T o k
theorem zwi{rY:RecY}{r:Rec}(hr:RRY rY r){B:Nat}{bar top e:Bool}{T T':TY}{S:St}{o:O}{kY:KY}{ex:Ex}(hS:RY T S)(hk:∀ T1 S1,RY T1 S1->kY T1=some (ex,T')->∃ S',k S1=some (ex,S')/\RY T' S')(hc:zyt rY B bar top e T o kY=some (ex,T')):∃ S',zcj r B bar top e S o k=some (ex,S')/\RY T' S':=by
 unfold zyt at hc;rw[zqB hS]at hc;cases hw:wanted S.env o.g with
 | false=>
  rw[hw]at hc;unfold zcj;rw[hw];obtain⟨T2,g1,g2⟩:=zsO hS hc;exact hk _ _ g1 g2
 | true=>
  rw[hw]at hc;simp only[zvZ]at hc;exact zwx hr hS hw hk hc
def zk5(r:RecY)(B:Nat)(bar top e:Bool):List O->KY
 | [],T=>some (.normal,T)
 | o :: l,T=>zyt r B bar top e T o (zk5 r B bar top e l)
theorem zjt{rY:RecY}{r:Rec}(hr:RRY rY r){B:Nat}{bar top e:Bool}{T':TY}{ex:Ex}:∀(l:List O) (T:TY) (S:St),RY T S->zk5 rY B bar top e l T=some (ex,T')->∃ S',zaI r B bar top e l S=some (ex,S')/\RY T' S'
 | [],T,S,hS,hc=>by
  simp only[zk5,qad,qag]at hc;obtain⟨rfl,rfl⟩:=hc;exact⟨S,rfl,hS⟩
 | o :: l,T,S,hS,hc=>zwi hr hS (λT1 S1 h1 h2=>zjt hr l T1 S1 h1 h2) hc
end Go.Mx
