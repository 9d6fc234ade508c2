/-
 The machine with tries: one operation. Conditions: none.
-/
import Derived.Test.YtcfdkhbflhdjeaaNcMx20
set_option linter.unusedSimpArgs false
set_option linter.unusedVariables false
namespace Go.Mx
open Go
abbrev Sy:=RecY→Nat→Bool→Bool→Bool→TY→O→KY→Option (Ex×TY)
def zgi(v:Option V)(T:TY)(o:O)(k:KY):Option (Ex×TY):=
 match v with
 | some v=>zq3 T o.dst v k
 | none=>none
def zpV(e:Option EffR)(T:TY)(o:O)(k:KY):Option (Ex×TY):=
 match e with
 | some e=>apY T.hp e fun v H=>zq3 (zpT T H) o.dst v k
 | none=>none
def zfo(i:I):Sy:=fun _ B _ _ _ T o k=>
 bif zak i then zgi (qF (evY T) (zsI T) (zqE T.hp) i) T o k else zpV (zrp B (zqE T.hp) (evY T) i) T o k
def zvQ(e:Bool)(o:O)(T:TY)(x:Option (CR×HY))(k:KY):Option (Ex×TY):=
 match x with
 | some (.ret v,H)=>zq3 (zpT T H) o.dst v k
 | some (.pan v,H)=>some (.panic v e,zpT T H)
 | none=>none
def zux(f:Nat)(vs:Option (List V)):Sy:=fun r B bar _ e T o k=>
 match vs with
 | some vs=>zc2 (bif bar then T.hp.n else B) fun B'=>zwe T fun H=>zvQ e o T (r.call B' f vs H) k
 | none=>none
def zte(f:Nat)(xs:List X):Sy:=fun r B bar top e T o k=>zux f (zsI T xs) r B bar top e T o k
def zsN(v:Option V)(vs:Option (List V)):Sy:=fun r B bar _ e T o k=>
 match v with
 | some v=>(match vs with
  | some vs=>zc2 (bif bar then T.hp.n else B) fun B'=>zwe T fun H=>zvQ e o T (zpP r B' v vs H) k
  | none=>none)
 | none=>none
def zpK(x:X)(xs:List X):Sy:=fun r B bar top e T o k=>zsN (evY T x) (zsI T xs) r B bar top e T o k
def zr9(v:Option V)(e:Bool)(T:TY):Option (Ex×TY):=
 match v with
 | some (.ifc t v)=>some (.panic (.ifc t v) e,T)
 | _=>none
def zo6(x:X):Sy:=fun _ _ _ _ e T _ _=>zr9 (evY T x) e T
def zsO(v:Option V)(vs:Option (List V))(top:Bool)(T:TY)(o:O)(k:KY):Option (Ex×TY):=
 match v with
 | some (.clo f first cap)=>(match vs with
  | some vs=>bif top then zcK (first ++ vs ++ cap) fun l=>zq3 ⟨T.N,T.env,.fn f l :: T.dfs,T.hp⟩ o.dst zaP k else none
  | none=>none)
 | _=>none
def zos(x:X)(xs:List X):Sy:=fun _ _ _ top _ T o k=>zsO (evY T x) (zsI T xs) top T o k
def zgH(i:I):Sy:=
 match i with
 | .call f xs=>zte f xs
 | .zbV x xs=>zpK x xs
 | .panic x=>zo6 x
 | .defer x xs=>zos x xs
 | i=>zfo i
theorem zrD{rY:RecY}{r:Rec}(hr:RRY rY r){B:Nat}{bar top e:Bool}{T T':TY}{S:St}{o:O}{kY:KY}{k:St→Option (Ex×St)}{ex:Ex}(hS:RY T S)(hw:wanted S.env o.g=true)
  (hk:∀ T1 S1,RY T1 S1→kY T1=some (ex,T')→∃ S',k S1=some (ex,S')∧RY T' S') (hc:zgH o.i rY B bar top e T o kY=some (ex,T')):∃ S',zcp r B bar top e S o k=some (ex,S')∧RY T' S':=by
 have hput:∀ {T1:TY} {S1:St} {v:V},RY T1 S1→zq3 T1 o.dst v kY=some (ex,T')→∃ S',k (S1.put o.dst v)=some (ex,S')∧RY T' S':=by
  intro T1 S1 v h1 h2;obtain⟨T2,g1,g2⟩:=zqC h1 h2;exact hk _ _ g1 g2
 have hfin:∀ {x:Option (CR×HY)} {y:Option (CR×zap)},(∀ cr H',x=some (cr,H')→∃ h',y=some (cr,h')∧zeu H' h')→zvQ e o T x kY=some (ex,T')→∃ S',zli e o S y k=some (ex,S')∧RY T' S':=by
  intro x y hxy hf;unfold zvQ at hf;split at hf
  ·rename_i v H;obtain⟨h',g1,g2⟩:=hxy _ _ rfl;rw[g1];exact hput (hS.heap g2) hf
  ·rename_i v H;obtain⟨h',g1,g2⟩:=hxy _ _ rfl;rw[g1];simp only[qad,qaf]at hf;obtain⟨rfl,rfl⟩:=hf;exact⟨_,rfl,hS.heap g2⟩
  cases hf
 have hn:T.hp.n=S.heap.length:=hS.2.2.2.1;unfold zcp;rw[hw];simp only[];have plain:∀ i,zfo i rY B bar top e T o kY=some (ex,T')→
   ∃ S',(bif zak i then(match q S.heap S.env i with | some v=>k (S.put o.dst v)| none=>none)else(match eff B S.heap S.env i with | some (v,h)=>k ({ S with heap:=h }.put o.dst v)| none=>none))=some (ex,S')∧RY T' S':=by
  intro i hi;unfold zfo at hi;rw[show evY T=ev S.env from funext (zhG hS),show zsI T=evs S.env from funext (zhf hS),show zqE T.hp=zaM S.heap from funext (zl1 hS.2.2.2)]at hi;cases hq:zak i with
  | true=>
   rw[hq,cond_true,zwn,zwc]at hi;simp only[cond_true];unfold zgi at hi;split at hi
   ·exact hput hS hi
   ·cases hi
  | false=>
   rw[hq,cond_false]at hi;simp only[cond_false];rw[← ztg];unfold zpV at hi;split at hi
   ·rename_i er her;rw[her];obtain⟨H',g1,g2⟩:=zuH hS.2.2.2 hi;simp only[qaI];exact hput (hS.heap g1) g2
   cases hi
 cases hi:o.i with
 | call f xs=>
  rw[hi]at hc;simp only[zgH,zte,zux,zhf hS,zcb,hn,zoZ]at hc;simp only[];split at hc
  ·rename_i vs hvs;rw[hvs];exact hfin (fun cr H' hz=>hr.call _ _ _ _ _ _ _ hS.2.2.2 hz) hc
  ·cases hc
 | zbV x xs=>
  rw[hi]at hc;simp only[zgH,zpK,zsN,zhf hS,zhG hS,zcb,hn,zoZ]at hc;simp only[];split at hc
  ·rename_i v hv;split at hc
   ·rename_i vs hvs;rw[hv,hvs];exact hfin (fun cr H' hz=>zpy hr hS.2.2.2 hz) hc
   cases hc
  ·cases hc
 | panic x=>
  rw[hi]at hc;simp only[zgH,zo6,zr9,zhG hS]at hc;simp only[];split at hc
  ·rename_i t v hv;rw[hv];simp only[qad,qaf]at hc;obtain⟨rfl,rfl⟩:=hc;exact⟨S,rfl,hS⟩
  ·cases hc
 | defer x xs=>
  rw[hi]at hc;simp only[zgH,zos,zsO,zhf hS,zhG hS,zck]at hc;simp only[];split at hc
  ·rename_i f first cap hv
   split at hc
   ·rename_i vs hvs;rw[hv,hvs];cases top with
    | true=>
     simp only[cond_true]at hc ⊢;exact hput (T1:=⟨T.N,T.env,.fn f (first ++ vs ++ cap):: T.dfs,T.hp⟩) (S1:={ S with dfs:=.fn f (first ++ vs ++ cap):: S.dfs }) ⟨hS.1,hS.2.1,by rw[hS.2.2.1],hS.2.2.2⟩ hc
    | false=>simp only[cond_false]at hc; cases hc
   cases hc
  ·cases hc
 | _=>rw[hi]at hc; exact plain _ hc
def zmr(p:Option V)(H:HY)(n:Option Nat):Option V:=
 match p with
 | some (.ptr β o)=>(match zqE H β with
  | some cs=>zjT cs o n
  | none=>none)
 | _=>none
def zsB(c:Option Bool)(T:TY)(a b:X):Option V:=
 match c with
 | some true=>evY T a
 | some false=>evY T b
 | none=>none
def zxy(x:X):Sy:=fun _ _ _ _ _ T o k=>zgi (evY T x) T o k
def zvJ(n:Option Nat)(x:X):Sy:=fun _ _ _ _ _ T o k=>zgi (zmr (evY T x) T.hp n) T o k
def zw9(off:Nat)(x:X):Sy:=fun _ _ _ _ _ T o k=>zgi (zxL (evY T x) off) T o k
def zuw(n:Nat)(x i:X):Sy:=fun _ _ _ _ _ T o k=>zgi (zuX n (evY T x) (zuW (evY T i))) T o k
def zvB(n cnt:Nat)(x i:X):Sy:=fun _ _ _ _ _ T o k=>zgi (zum n cnt (evY T x) (zuW (evY T i))) T o k
def zw8(op:BinOp)(x y:X):Sy:=fun _ _ _ _ _ T o k=>zgi (zwQ (bOp op) (intOf (evY T x)) (intOf (evY T y))) T o k
def zvH(kd:IntKind)(x:X):Sy:=fun _ _ _ _ _ T o k=>zgi (zvv kd (intOf (evY T x))) T o k
def zuU(c a b:X):Sy:=fun _ _ _ _ _ T o k=>zgi (zsB (zm4 (evY T c)) T a b) T o k
def yUn(op:UnOp)(x:X):Sy:=fun _ _ _ _ _ T o k=>zgi (xUn op (evY T x)) T o k
def zxM(x:X):Sy:=fun _ _ _ _ _ T o k=>zgi (zxp (evY T x)) T o k
def zxj(x:X)(i:Nat):Sy:=fun _ _ _ _ _ T o k=>zgi (zxC (evY T x) i) T o k
def zul(z:List Value):Sy:=fun _ _ _ _ _ T o k=>zjh T.hp (.blk (z.map .lit)) fun n H=>zq3 (zpT T H) o.dst (.ptr n 0) k
def zxB(x:X):Sy:=fun _ _ _ _ _ T o k=>zpV (zwR (zce (evY T x))) T o k
def zud(n:Nat)(a x:X):Sy:=fun _ B _ _ _ T o k=>zpV (zpB B (zqE T.hp) n (evY T a) (zce (evY T x))) T o k
def zxz(n bytes:Nat)(s x:X):Sy:=fun _ B _ _ _ T o k=>zpV (zwB B (zqE T.hp) n bytes (evY T s) ((evY T x).bind (zt5 (zqE T.hp) n))) T o k
def zkg(i:I):Sy:=
 match i with
 | .mov x=>zxy x
 | .load n x=>zvJ n x
 | .fld off x=>zw9 off x
 | .idxS n x i=>zuw n x i
 | .idxA n cnt x i=>zvB n cnt x i
 | .bin op x y=>zw8 op x y
 | .conv k x=>zvH k x
 | .pick c a b=>zuU c a b
 | .un op x=>yUn op x
 | .len x=>zxM x
 | .ext x i=>zxj x i
 | .call f xs=>zte f xs
 | .zbV x xs=>zpK x xs
 | .panic x=>zo6 x
 | .defer x xs=>zos x xs
 | .alloc z=>zul z
 | .box x=>zxB x
 | .store n a x=>zud n a x
 | .app n bytes s x=>zxz n bytes s x
 | i=>zfo i
theorem zrg(i:I)(r:RecY)(B:Nat)(bar top e:Bool)(T:TY)(o:O)(k:KY):zkg i r B bar top e T o k=zgH i r B bar top e T o k:=by
 cases i with
 | load n x=>
  simp only[zkg,zgH,zfo,zvJ,zak,cond_true,qF,zmr];rfl
 | idxS n x i=>
  simp only[zkg,zgH,zfo,zuw,zak,cond_true,qF,zuX];cases evY T x with
  | none=>rfl
  | some v=>
   cases v with
   | sl β o n' len c=>
    simp only[];cases evY T i with
    | none=>rfl
    | some w=>
     cases w with
     | lit y=>
      cases y with
      | int kd m=>cases m<;>rfl
      | _=>rfl
     | _=>rfl
   | _=>rfl
 | idxA n cnt x i=>
  simp only[zkg,zgH,zfo,zvB,zak,cond_true,qF,zum];cases evY T x with
  | none=>rfl
  | some v=>
   cases v with
   | ptr β o=>
    simp only[];cases evY T i with
    | none=>rfl
    | some w=>
     cases w with
     | lit y=>
      cases y with
      | int kd m=>cases m<;>rfl
      | _=>rfl
     | _=>rfl
   | _=>rfl
 | bin op x y=>
  simp only[zkg,zgH,zfo,zw8,zak,cond_true,qF,ztL];rfl
 | conv kd x=>
  simp only[zkg,zgH,zfo,zvH,zak,cond_true,qF,zvv];cases evY T x with
  | none=>rfl
  | some v=>
   cases v with
   | lit y=>cases y<;>rfl
   | _=>rfl
 | pick c a b=>
  simp only[zkg,zgH,zfo,zuU,zak,cond_true,qF,qG,zvX,zsB];cases evY T c with
  | none=>rfl
  | some v=>
   cases v with
   | lit y=>
    cases y with
    | bool b=>cases b<;>rfl
    | _=>rfl
   | _=>rfl
 | _=>rfl
def ztA:Sy:=fun r B bar top e T o k=>
 match zlQ T o.g with
 | false=>zq3 T o.dst zaP k
 | true=>zkg o.i r B bar top e T o k
theorem zr3{rY:RecY}{r:Rec}(hr:RRY rY r){B:Nat}{bar top e:Bool}{T T':TY}{S:St}{o:O}{kY:KY}{k:St→Option (Ex×St)}{ex:Ex}(hS:RY T S)
  (hk:∀ T1 S1,RY T1 S1→kY T1=some (ex,T')→∃ S',k S1=some (ex,S')∧RY T' S') (hc:ztA rY B bar top e T o kY=some (ex,T')):∃ S',zcp r B bar top e S o k=some (ex,S')∧RY T' S':=by
 unfold ztA at hc;rw[znQ hS]at hc;cases hw:wanted S.env o.g with
 | false=>
  rw[hw]at hc;unfold zcp;rw[hw];obtain⟨T2,g1,g2⟩:=zqC hS hc;exact hk _ _ g1 g2
 | true=>
  rw[hw]at hc;simp only[zrg]at hc;exact zrD hr hS hw hk hc
def zi7(r:RecY)(B:Nat)(bar top e:Bool):List O→KY
 | [],T=>some (.normal,T)
 | o :: l,T=>ztA r B bar top e T o (zi7 r B bar top e l)
theorem zii{rY:RecY}{r:Rec}(hr:RRY rY r){B:Nat}{bar top e:Bool}{T':TY}{ex:Ex}:∀(l:List O) (T:TY) (S:St),RY T S→zi7 rY B bar top e l T=some (ex,T')→∃ S',zaQ r B bar top e l S=some (ex,S')∧RY T' S'
 | [],T,S,hS,hc=>by
  simp only[zi7,qad,qaf]at hc;obtain⟨rfl,rfl⟩:=hc;exact⟨S,rfl,hS⟩
 | o :: l,T,S,hS,hc=>zr3 hr hS (fun T1 S1 h1 h2=>zii hr l T1 S1 h1 h2) hc
end Go.Mx
