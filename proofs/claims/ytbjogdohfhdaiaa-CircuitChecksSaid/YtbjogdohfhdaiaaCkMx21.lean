/-
 The machine with tries: one operation. Conditions: none.
-/
import Derived.Test.YtbjogdohfhdaiaaCkMx20
set_option linter.unusedSimpArgs false
set_option linter.unusedVariables false
namespace Go.Mx
open Go
abbrev Sy:=RecY->Nat->Bool->Bool->Bool->TY->O->KY->Option (Ex×TY)
def zf1(v:Option V)(T:TY)(o:O)(k:KY):Option (Ex×TY):=
 match v with
 | some v=>zqQ T o.dst v k
 | none=>none
def znI(e:Option EffR)(T:TY)(o:O)(k:KY):Option (Ex×TY):=
 match e with
 | some e=>apY T.hp e λv H=>zqQ (znC T H) o.dst v k
 | none=>none
def zeU(i:I):Sy:=λ_ B _ _ _ T o k=>
 bif zae i then zf1 (qF (evY T) (zr1 T) (zpw T.hp) i) T o k else znI (zqN B (zpw T.hp) (evY T) i) T o k
def zvl(e:Bool)(o:O)(T:TY)(x:Option (CR×HY))(k:KY):Option (Ex×TY):=
 match x with
 | some (.ret v,H)=>zqQ (znC T H) o.dst v k
 | some (.pan v,H)=>some (.panic v e,znC T H)
 | none=>none
def zul(f:Nat)(vs:Option (List V)):Sy:=λr B bar _ e T o k=>
 match vs with
 | some vs=>zcJ (bif zmx bar f then T.hp.n else B) λB'=>zwj T λH=>zvl e o T (r.call B' f vs H) k
 | none=>none
def ztr(f:Nat)(xs:List X):Sy:=λr B bar top e T o k=>zul f (zr1 T xs) r B bar top e T o k
def zrV(v:Option V)(vs:Option (List V)):Sy:=λr B bar _ e T o k=>
 match v with
 | some v=>(match vs with
  | some vs=>zcJ (bif bar then T.hp.n else B) λB'=>zwj T λH=>zvl e o T (zoR r B' v vs H) k
  | none=>none)
 | none=>none
def zor(x:X)(xs:List X):Sy:=λr B bar top e T o k=>zrV (evY T x) (zr1 T xs) r B bar top e T o k
def zrQ(v:Option V)(e:Bool)(T:TY):Option (Ex×TY):=
 match v with
 | some (.ifc t v)=>some (.panic (.ifc t v) e,T)
 | _=>none
def znK(x:X):Sy:=λ_ _ _ _ e T _ _=>zrQ (evY T x) e T
def zsa(v:Option V)(vs:Option (List V))(top:Bool)(T:TY)(o:O)(k:KY):Option (Ex×TY):=
 match v with
 | some (.clo f first cap)=>(match vs with
  | some vs=>bif top then zct (first ++ vs ++ cap) λl=>zqQ ⟨T.N,T.env,.fn f l :: T.dfs,T.hp⟩ o.dst zaE k else none
  | none=>none)
 | _=>none
def znQ(x:X)(xs:List X):Sy:=λ_ _ _ top _ T o k=>zsa (evY T x) (zr1 T xs) top T o k
def zge(i:I):Sy:=
 match i with
 | .call f xs=>ztr f xs
 | .callv x xs=>zor x xs
 | .panic x=>znK x
 | .defer x xs=>znQ x xs
 | i=>zeU i
variable{k:St->Option (Ex×St)}
theorem zqR{rY:RecY}{r:Rec}(hr:RRY rY r){B:Nat}{bar top e:Bool}{T T':TY}{S:St}{o:O}{kY:KY}{ex:Ex}(hS:RY T S)(hw:wanted S.env o.g=true)(hk:∀ T1 S1,RY T1 S1->kY T1=some (ex,T')->∃ S',k S1=some (ex,S')/\RY T' S')(hc:zge o.i rY B bar top e T o kY=some (ex,T')):∃ S',zcq r B bar top e S o k=some (ex,S')/\RY T' S':=by
 have hput:∀ {T1:TY} {S1:St} {v:V},RY T1 S1->zqQ T1 o.dst v kY=some (ex,T')->∃ S',k (S1.put o.dst v)=some (ex,S')/\RY T' S':=by
  intro T1 S1 v h1 h2;obtain⟨T2,g1,g2⟩:=znO h1 h2;exact hk _ _ g1 g2
 have hfin:∀ {x:Option (CR×HY)} {y:Option (CR×zaj)},(∀ cr H',x=some (cr,H')->∃ h',y=some (cr,h')/\zdJ H' h')->zvl e o T x kY=some (ex,T')->∃ S',zlZ e o S y k=some (ex,S')/\RY T' S':=by
  intro x y hxy hf;unfold zvl at hf;split at hf
  .rename_i v H;obtain⟨h',g1,g2⟩:=hxy _ _ rfl;rw[g1];exact hput (hS.heap g2) hf
  .rename_i v H;obtain⟨h',g1,g2⟩:=hxy _ _ rfl;rw[g1];simp only[qad,qag]at hf;obtain⟨rfl,rfl⟩:=hf;exact⟨_,rfl,hS.heap g2⟩
  cases hf
 have hn:T.hp.n=S.heap.length:=hS.2.2.2.1;unfold zcq;rw[hw];simp only[];have plain:∀ i,zeU i rY B bar top e T o kY=some (ex,T')->
   ∃ S',(bif zae i then(match q S.heap S.env i with | some v=>k (S.put o.dst v)| none=>none)else(match eff B S.heap S.env i with | some (v,h)=>k ({ S with heap:=h }.put o.dst v)| none=>none))=some (ex,S')/\RY T' S':=by
  intro i hi;unfold zeU at hi;rw[show evY T=ev S.env from funext (zgK hS),show zr1 T=evs S.env from funext (zhe hS),show zpw T.hp=zao S.heap from funext (zlp hS.2.2.2)]at hi;cases hq:zae i with
  | true=>
   rw[hq,qcE,zv3,zwi]at hi;simp only[qcE];unfold zf1 at hi;split at hi
   .exact hput hS hi
   .cases hi
  | false=>
   rw[hq,qcF]at hi;simp only[qcF];rw[<- zth];unfold znI at hi;split at hi
   .rename_i er her;rw[her];obtain⟨H',g1,g2⟩:=ztP hS.2.2.2 hi;simp only[qaD];exact hput (hS.heap g1) g2
   cases hi
 cases hi:o.i with
 | call f xs=>
  rw[hi]at hc;simp only[zge,ztr,zul,zhe hS,zb3,hn,zpB]at hc;simp only[];split at hc
  .rename_i vs hvs;rw[hvs];exact hfin (λcr H' hz=>hr.call _ _ _ _ _ _ _ hS.2.2.2 hz) hc
  .cases hc
 | callv x xs=>
  rw[hi]at hc;simp only[zge,zor,zrV,zhe hS,zgK hS,zb3,hn,zpB]at hc;simp only[];split at hc
  .rename_i v hv;split at hc
   .rename_i vs hvs;rw[hv,hvs];exact hfin (λcr H' hz=>znD hr hS.2.2.2 hz) hc
   cases hc
  .cases hc
 | panic x=>
  rw[hi]at hc;simp only[zge,znK,zrQ,zgK hS]at hc;simp only[];split at hc
  .rename_i t v hv;rw[hv];simp only[qad,qag]at hc;obtain⟨rfl,rfl⟩:=hc;exact⟨S,rfl,hS⟩
  .cases hc
 | defer x xs=>
  rw[hi]at hc;simp only[zge,znQ,zsa,zhe hS,zgK hS,zbW]at hc;simp only[];split at hc
  .rename_i f first cap hv
   split at hc
   .rename_i vs hvs;rw[hv,hvs];cases top with
    | true=>
     simp only[qcE]at hc ⊢;exact hput (T1:=⟨T.N,T.env,.fn f (first ++ vs ++ cap):: T.dfs,T.hp⟩) (S1:={ S with dfs:=.fn f (first ++ vs ++ cap):: S.dfs }) ⟨hS.1,hS.2.1,by rw[hS.2.2.1],hS.2.2.2⟩ hc
    | false=>simp only[qcF]at hc; cases hc
   cases hc
  .cases hc
 | _=>rw[hi]at hc; exact plain _ hc
def zl7(p:Option V)(H:HY)(n:Option Nat):Option V:=
 match p with
 | some (.ptr β o)=>(match zpw H β with
  | some cs=>zj3 cs o n
  | none=>none)
 | _=>none
def zsd(c:Option Bool)(T:TY)(a b:X):Option V:=
 match c with
 | some true=>evY T a
 | some false=>evY T b
 | none=>none
def zw0(x:X):Sy:=λ_ _ _ _ _ T o k=>zf1 (evY T x) T o k
def ztO(n:Option Nat)(x:X):Sy:=λ_ _ _ _ _ T o k=>zf1 (zl7 (evY T x) T.hp n) T o k
def zwM(off:Nat)(x:X):Sy:=λ_ _ _ _ _ T o k=>zf1 (zwY (evY T x) off) T o k
def zuP(n:Nat)(x i:X):Sy:=λ_ _ _ _ _ T o k=>zf1 (zt3 n (evY T x) (zuS (evY T i))) T o k
def ztF(n cnt:Nat)(x i:X):Sy:=λ_ _ _ _ _ T o k=>zf1 (zur n cnt (evY T x) (zuS (evY T i))) T o k
def zwz(op:BinOp)(x y:X):Sy:=λ_ _ _ _ _ T o k=>zf1 (zws (bOp op) (intOf (evY T x)) (intOf (evY T y))) T o k
def zud(kd:IntKind)(x:X):Sy:=λ_ _ _ _ _ T o k=>zf1 (ztT kd (intOf (evY T x))) T o k
def zuL(c a b:X):Sy:=λ_ _ _ _ _ T o k=>zf1 (zsd (zlH (evY T c)) T a b) T o k
def yUn(op:UnOp)(x:X):Sy:=λ_ _ _ _ _ T o k=>zf1 (xUn op (evY T x)) T o k
def zwW(x:X):Sy:=λ_ _ _ _ _ T o k=>zf1 (zwK (evY T x)) T o k
def zxc(x:X)(i:Nat):Sy:=λ_ _ _ _ _ T o k=>zf1 (zwV (evY T x) i) T o k
def ztS(z:List Value):Sy:=λ_ _ _ _ _ T o k=>ziN T.hp (.blk (z.map .lit)) λn H=>zqQ (znC T H) o.dst (.ptr n 0) k
def zwO(x:X):Sy:=λ_ _ _ _ _ T o k=>znI (zwr (zb6 (evY T x))) T o k
def ztZ(n:Nat)(a x:X):Sy:=λ_ B _ _ _ T o k=>znI (zpQ B (zpw T.hp) n (evY T a) (zb6 (evY T x))) T o k
def zw2(n bytes:Nat)(s x:X):Sy:=λ_ B _ _ _ T o k=>znI (zvx B (zpw T.hp) n bytes (evY T s) ((evY T x).bind (ztu (zpw T.hp) n))) T o k
def zjO(i:I):Sy:=
 match i with
 | .mov x=>zw0 x
 | .load n x=>ztO n x
 | .fld off x=>zwM off x
 | .idxS n x i=>zuP n x i
 | .idxA n cnt x i=>ztF n cnt x i
 | .bin op x y=>zwz op x y
 | .conv k x=>zud k x
 | .pick c a b=>zuL c a b
 | .un op x=>yUn op x
 | .len x=>zwW x
 | .ext x i=>zxc x i
 | .call f xs=>ztr f xs
 | .callv x xs=>zor x xs
 | .panic x=>znK x
 | .defer x xs=>znQ x xs
 | .alloc z=>ztS z
 | .box x=>zwO x
 | .store n a x=>ztZ n a x
 | .app n bytes s x=>zw2 n bytes s x
 | i=>zeU i
theorem zqK(i:I)(r:RecY)(B:Nat)(bar top e:Bool)(T:TY)(o:O)(k:KY):zjO i r B bar top e T o k=zge i r B bar top e T o k:=by
 cases i with
 | load n x=>
  simp only[zjO,zge,zeU,ztO,zae,qcE,qF,zl7];rfl
 | idxS n x i=>
  simp only[zjO,zge,zeU,zuP,zae,qcE,qF,zt3];cases evY T x with
  | none=>rfl
  | some v=>
   cases v with
   | sl β o n' len c=>
    simp only[];cases evY T i with
    | none=>rfl
    | some w=>
     cases w with
     | lit y=>
      cases y with
      | int kd m=>cases m<;>rfl
      | _=>rfl
     | _=>rfl
   | _=>rfl
 | idxA n cnt x i=>
  simp only[zjO,zge,zeU,ztF,zae,qcE,qF,zur];cases evY T x with
  | none=>rfl
  | some v=>
   cases v with
   | ptr β o=>
    simp only[];cases evY T i with
    | none=>rfl
    | some w=>
     cases w with
     | lit y=>
      cases y with
      | int kd m=>cases m<;>rfl
      | _=>rfl
     | _=>rfl
   | _=>rfl
 | bin op x y=>
  simp only[zjO,zge,zeU,zwz,zae,qcE,qF,zsl];rfl
 | conv kd x=>
  simp only[zjO,zge,zeU,zud,zae,qcE,qF,ztT];cases evY T x with
  | none=>rfl
  | some v=>
   cases v with
   | lit y=>cases y<;>rfl
   | _=>rfl
 | pick c a b=>
  simp only[zjO,zge,zeU,zuL,zae,qcE,qF,qG,zvm,zsd];cases evY T c with
  | none=>rfl
  | some v=>
   cases v with
   | lit y=>
    cases y with
    | bool b=>cases b<;>rfl
    | _=>rfl
   | _=>rfl
 | _=>rfl
def zst:Sy:=λr B bar top e T o k=>
 match zla T o.g with
 | false=>zqQ T o.dst zaE k
 | true=>zjO o.i r B bar top e T o k
theorem zqt{rY:RecY}{r:Rec}(hr:RRY rY r){B:Nat}{bar top e:Bool}{T T':TY}{S:St}{o:O}{kY:KY}{ex:Ex}(hS:RY T S)(hk:∀ T1 S1,RY T1 S1->kY T1=some (ex,T')->∃ S',k S1=some (ex,S')/\RY T' S')(hc:zst rY B bar top e T o kY=some (ex,T')):∃ S',zcq r B bar top e S o k=some (ex,S')/\RY T' S':=by
 unfold zst at hc;rw[zmY hS]at hc;cases hw:wanted S.env o.g with
 | false=>
  rw[hw]at hc;unfold zcq;rw[hw];obtain⟨T2,g1,g2⟩:=znO hS hc;exact hk _ _ g1 g2
 | true=>
  rw[hw]at hc;simp only[zqK]at hc;exact zqR hr hS hw hk hc
def ziS(r:RecY)(B:Nat)(bar top e:Bool):List O->KY
 | [],T=>some (.normal,T)
 | o :: l,T=>zst r B bar top e T o (ziS r B bar top e l)
theorem zhI{rY:RecY}{r:Rec}(hr:RRY rY r){B:Nat}{bar top e:Bool}{T':TY}{ex:Ex}:∀(l:List O) (T:TY) (S:St),RY T S->ziS rY B bar top e l T=some (ex,T')->∃ S',zaI r B bar top e l S=some (ex,S')/\RY T' S'
 | [],T,S,hS,hc=>by
  simp only[ziS,qad,qag]at hc;obtain⟨rfl,rfl⟩:=hc;exact⟨S,rfl,hS⟩
 | o :: l,T,S,hS,hc=>zqt hr hS (λT1 S1 h1 h2=>zhI hr l T1 S1 h1 h2) hc
end Go.Mx
