/-
 The machine with tries: one operation. Conditions: none.
-/
import Derived.Test.YtbjogdohfhdaiaaGreatErMx20
set_option linter.unusedSimpArgs false
set_option linter.unusedVariables false
namespace Go.Mx
open Go
abbrev Sy:=RecY->Nat->Bool->Bool->Bool->TY->O->KY->Option (Ex×TY)
def zjl(v:Option V)(T:TY)(o:O)(k:KY):Option (Ex×TY):=
 match v with
 | some v=>zzz T o.dst v k
 | none=>none
def zwy(e:Option EffR)(T:TY)(o:O)(k:KY):Option (Ex×TY):=
 match e with
 | some e=>apY T.hp e λv H=>zzz (zu3 T H) o.dst v k
 | none=>none
def zjw(i:I):Sy:=λ_ B _ _ _ T o k=>
 bif zak i then zjl (qF (evY T) (zAf T) (zw7 T.hp) i) T o k else zwy (zyO B (zw7 T.hp) (evY T) i) T o k
def zGh(e:Bool)(o:O)(T:TY)(x:Option (CR×HY))(k:KY):Option (Ex×TY):=
 match x with
 | some (.ret v,H)=>zzz (zu3 T H) o.dst v k
 | some (.pan v,H)=>some (.panic v e,zu3 T H)
 | none=>none
def zEx(f:Nat)(vs:Option (List V)):Sy:=λr B bar _ e T o k=>
 match vs with
 | some vs=>zd9 (bif zrn bar f then T.hp.n else B) λB'=>zGY T λH=>zGh e o T (r.call B' f vs H) k
 | none=>none
def zCR(f:Nat)(xs:List X):Sy:=λr B bar top e T o k=>zEx f (zAf T xs) r B bar top e T o k
def zAA(v:Option V)(vs:Option (List V)):Sy:=λr B bar _ e T o k=>
 match v with
 | some v=>(match vs with
  | some vs=>zd9 (bif bar then T.hp.n else B) λB'=>zGY T λH=>zGh e o T (zxY r B' v vs H) k
  | none=>none)
 | none=>none
def zwg(x:X)(xs:List X):Sy:=λr B bar top e T o k=>zAA (evY T x) (zAf T xs) r B bar top e T o k
def zAe(v:Option V)(e:Bool)(T:TY):Option (Ex×TY):=
 match v with
 | some (.ifc t v)=>some (.panic (.ifc t v) e,T)
 | _=>none
def zuq(x:X):Sy:=λ_ _ _ _ e T _ _=>zAe (evY T x) e T
def zz4(v:Option V)(vs:Option (List V))(top:Bool)(T:TY)(o:O)(k:KY):Option (Ex×TY):=
 match v with
 | some (.clo f first cap)=>(match vs with
  | some vs=>bif top then zd3 (first ++ vs ++ cap) λl=>zzz ⟨T.N,T.env,.fn f l :: T.dfs,T.hp⟩ o.dst zbc k else none
  | none=>none)
 | _=>none
def zxb(x:X)(xs:List X):Sy:=λ_ _ _ top _ T o k=>zz4 (evY T x) (zAf T xs) top T o k
def zlq(i:I):Sy:=
 match i with
 | .call f xs=>zCR f xs
 | .zd8 x xs=>zwg x xs
 | .panic x=>zuq x
 | .defer x xs=>zxb x xs
 | i=>zjw i
variable{k:St->Option (Ex×St)}
theorem zyS{rY:RecY}{r:Rec}(hr:RRY rY r){B:Nat}{bar top e:Bool}{T T':TY}{S:St}{o:O}{kY:KY}{ex:Ex}(hS:RY T S)(hw:wanted S.env o.g=true)(hk:∀ T1 S1,RY T1 S1->kY T1=some (ex,T')->∃ S',k S1=some (ex,S')/\RY T' S')(hc:zlq o.i rY B bar top e T o kY=some (ex,T')):∃ S',zdv r B bar top e S o k=some (ex,S')/\RY T' S':=by
 have hput:∀ {T1:TY} {S1:St} {v:V},RY T1 S1->zzz T1 o.dst v kY=some (ex,T')->∃ S',k (S1.put o.dst v)=some (ex,S')/\RY T' S':=by
  grind [zvt]
 have hfin:∀ {x:Option (CR×HY)} {y:Option (CR×zam)},(∀ cr H',x=some (cr,H')->∃ h',y=some (cr,h')/\zfy H' h')->zGh e o T x kY=some (ex,T')->∃ S',zpM e o S y k=some (ex,S')/\RY T' S':=by
  intro x y hxy hf;unfold zGh at hf;split at hf
  .rename_i v H;obtain⟨h',g1,g2⟩:=hxy _ _ rfl;rw[g1];exact hput (hS.heap g2) hf
  .rename_i v H;obtain⟨h',g1,g2⟩:=hxy _ _ rfl;rw[g1];simp only[qae,qan]at hf;obtain⟨rfl,rfl⟩:=hf;exact⟨_,rfl,hS.heap g2⟩
  cases hf
 have hn:T.hp.n=S.heap.length:=hS.2.2.2.1;unfold zdv;rw[hw];simp only[];have plain:∀ i,zjw i rY B bar top e T o kY=some (ex,T')->
   ∃ S',(bif zak i then(match q S.heap S.env i with | some v=>k (S.put o.dst v)| none=>none)else(match eff B S.heap S.env i with | some (v,h)=>k ({ S with heap:=h }.put o.dst v)| none=>none))=some (ex,S')/\RY T' S':=by
  intro i hi;unfold zjw at hi;rw[show evY T=ev S.env from funext (zkF hS),show zAf T=evs S.env from funext (zkD hS),show zw7 T.hp=zax S.heap from funext (zrf hS.2.2.2)]at hi;cases hq:zak i with
  | true=>
   rw[hq,qdt,zGo,zHi]at hi;simp only[qdt];unfold zjl at hi
   grind
  | false=>
   rw[hq,qdu]at hi;simp only[qdu];rw[<- zBw];unfold zwy at hi;split at hi
   .rename_i er her;rw[her];obtain⟨H',g1,g2⟩:=zz0 hS.2.2.2 hi;simp only[qbe];exact hput (hS.heap g1) g2
   cases hi
 cases hi:o.i with
 | call f xs=>
  rw[hi]at hc;simp only[zlq,zCR,zEx,zkD hS,zcC,hn,zvm]at hc;simp only[];split at hc
  .rename_i vs hvs;rw[hvs];exact hfin (λcr H' hz=>hr.call _ _ _ _ _ _ _ hS.2.2.2 hz) hc
  .cases hc
 | zd8 x xs=>
  rw[hi]at hc;simp only[zlq,zwg,zAA,zkD hS,zkF hS,zcC,hn,zvm]at hc;simp only[];split at hc
  .rename_i v hv;split at hc
   .rename_i vs hvs;rw[hv,hvs];exact hfin (λcr H' hz=>zwa hr hS.2.2.2 hz) hc
   cases hc
  .cases hc
 | panic x=>
  rw[hi]at hc;simp only[zlq,zuq,zAe,zkF hS]at hc
  grind
 | defer x xs=>
  rw[hi]at hc;simp only[zlq,zxb,zz4,zkD hS,zkF hS,zdc]at hc;simp only[];split at hc
  .rename_i f first cap hv
   split at hc
   .rename_i vs hvs;rw[hv,hvs];cases top with
    | true=>
     simp only[qdt]at hc ⊢;exact hput (T1:=⟨T.N,T.env,.fn f (first ++ vs ++ cap):: T.dfs,T.hp⟩) (S1:={ S with dfs:=.fn f (first ++ vs ++ cap):: S.dfs }) ⟨hS.1,hS.2.1,by rw[hS.2.2.1],hS.2.2.2⟩ hc
    | false=>simp only[qdu]at hc; cases hc
   cases hc
  .cases hc
 | _=>rw[hi]at hc; exact plain _ hc
def zxI(p:Option V)(H:HY)(n:Option Nat):Option V:=
 match p with
 | some (.ptr β o)=>(match zw7 H β with
  | some cs=>zo0 cs o n
  | none=>none)
 | _=>none
def zEO(c:Option Bool)(T:TY)(a b:X):Option V:=
 match c with
 | some true=>evY T a
 | some false=>evY T b
 | none=>none
def zIr(x:X):Sy:=λ_ _ _ _ _ T o k=>zjl (evY T x) T o k
def zHl(n:Option Nat)(x:X):Sy:=λ_ _ _ _ _ T o k=>zjl (zxI (evY T x) T.hp n) T o k
def zIq(off:Nat)(x:X):Sy:=λ_ _ _ _ _ T o k=>zjl (zI7 (evY T x) off) T o k
def zFg(n:Nat)(x i:X):Sy:=λ_ _ _ _ _ T o k=>zjl (zEc n (evY T x) (zD9 (evY T i))) T o k
def zDW(n cnt:Nat)(x i:X):Sy:=λ_ _ _ _ _ T o k=>zjl (zDJ n cnt (evY T x) (zD9 (evY T i))) T o k
def zHH(op:BinOp)(x y:X):Sy:=λ_ _ _ _ _ T o k=>zjl (zH3 (bOp op) (intOf (evY T x)) (intOf (evY T y))) T o k
def zEu(kd:IntKind)(x:X):Sy:=λ_ _ _ _ _ T o k=>zjl (zEB kd (intOf (evY T x))) T o k
def zGB(c a b:X):Sy:=λ_ _ _ _ _ T o k=>zjl (zEO (zrN (evY T c)) T a b) T o k
def yUn(op:UnOp)(x:X):Sy:=λ_ _ _ _ _ T o k=>zjl (xUn op (evY T x)) T o k
def zJj(x:X):Sy:=λ_ _ _ _ _ T o k=>zjl (zIz (evY T x)) T o k
def zJh(x:X)(i:Nat):Sy:=λ_ _ _ _ _ T o k=>zjl (zIb (evY T x) i) T o k
def zFs(z:List Value):Sy:=λ_ _ _ _ _ T o k=>zro T.hp (.blk (z.map .lit)) λn H=>zzz (zu3 T H) o.dst (.ptr n 0) k
def zIo(x:X):Sy:=λ_ _ _ _ _ T o k=>zwy (zHt (zc9 (evY T x))) T o k
def zFM(n:Nat)(a x:X):Sy:=λ_ B _ _ _ T o k=>zwy (zw1 B (zw7 T.hp) n (evY T a) (zc9 (evY T x))) T o k
def zId(n bytes:Nat)(s x:X):Sy:=λ_ B _ _ _ T o k=>zwy (zHp B (zw7 T.hp) n bytes (evY T s) ((evY T x).bind (zDr (zw7 T.hp) n))) T o k
def ztL(i:I):Sy:=
 match i with
 | .mov x=>zIr x
 | .load n x=>zHl n x
 | .fld off x=>zIq off x
 | .idxS n x i=>zFg n x i
 | .idxA n cnt x i=>zDW n cnt x i
 | .bin op x y=>zHH op x y
 | .conv k x=>zEu k x
 | .pick c a b=>zGB c a b
 | .un op x=>yUn op x
 | .len x=>zJj x
 | .ext x i=>zJh x i
 | .call f xs=>zCR f xs
 | .zd8 x xs=>zwg x xs
 | .panic x=>zuq x
 | .defer x xs=>zxb x xs
 | .alloc z=>zFs z
 | .box x=>zIo x
 | .store n a x=>zFM n a x
 | .app n bytes s x=>zId n bytes s x
 | i=>zjw i
theorem zzm(i:I)(r:RecY)(B:Nat)(bar top e:Bool)(T:TY)(o:O)(k:KY):ztL i r B bar top e T o k=zlq i r B bar top e T o k:=by
 cases i with
 | load n x=>
  rfl
 | idxS n x i=>
  simp only[ztL,zlq,zjw,zFg,zak,qdt,qF,zEc];cases evY T x with
  | none=>rfl
  | some v=>
   cases v with
   | sl β o n' len c=>
    simp only[];cases evY T i with
    | none=>rfl
    | some w=>
     cases w with
     | lit y=>
      cases y with
      | int kd m=>cases m<;>rfl
      | _=>rfl
     | _=>rfl
   | _=>rfl
 | idxA n cnt x i=>
  simp only[ztL,zlq,zjw,zDW,zak,qdt,qF,zDJ];cases evY T x with
  | none=>rfl
  | some v=>
   cases v with
   | ptr β o=>
    simp only[];cases evY T i with
    | none=>rfl
    | some w=>
     cases w with
     | lit y=>
      cases y with
      | int kd m=>cases m<;>rfl
      | _=>rfl
     | _=>rfl
   | _=>rfl
 | bin op x y=>
  simp only[ztL,zlq,zjw,zHH,zak,qdt,qF,zCC];rfl
 | conv kd x=>
  simp only[ztL,zlq,zjw,zEu,zak,qdt,qF,zEB]
  grind [Go.Mx.intOf]
 | pick c a b=>
  rfl
 | _=>rfl
def zCv:Sy:=λr B bar top e T o k=>
 match zqm T o.g with
 | false=>zzz T o.dst zbc k
 | true=>ztL o.i r B bar top e T o k
theorem zyr{rY:RecY}{r:Rec}(hr:RRY rY r){B:Nat}{bar top e:Bool}{T T':TY}{S:St}{o:O}{kY:KY}{ex:Ex}(hS:RY T S)(hk:∀ T1 S1,RY T1 S1->kY T1=some (ex,T')->∃ S',k S1=some (ex,S')/\RY T' S')(hc:zCv rY B bar top e T o kY=some (ex,T')):∃ S',zdv r B bar top e S o k=some (ex,S')/\RY T' S':=by
 unfold zCv at hc;rw[zt0 hS]at hc;cases hw:wanted S.env o.g with
 | false=>
  grind [zdv,zvt]
 | true=>
  rw[hw]at hc;simp only[zzm]at hc;exact zyS hr hS hw hk hc
def zn6(r:RecY)(B:Nat)(bar top e:Bool):List O->KY
 | [],T=>some (.normal,T)
 | o :: l,T=>zCv r B bar top e T o (zn6 r B bar top e l)
theorem zlX{rY:RecY}{r:Rec}(hr:RRY rY r){B:Nat}{bar top e:Bool}{T':TY}{ex:Ex}:∀(l:List O) (T:TY) (S:St),RY T S->zn6 rY B bar top e l T=some (ex,T')->∃ S',zbg r B bar top e l S=some (ex,S')/\RY T' S'
 | [],T,S,hS,hc=>by
  grind [zn6,Go.Mx.zbg]
 | o :: l,T,S,hS,hc=>zyr hr hS (λT1 S1 h1 h2=>zlX hr l T1 S1 h1 h2) hc
end Go.Mx
