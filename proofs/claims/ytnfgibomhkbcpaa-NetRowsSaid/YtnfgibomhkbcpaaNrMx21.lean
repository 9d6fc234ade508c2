/-
 The machine with tries: one operation. Conditions: none.
-/
import Derived.Test.YtnfgibomhkbcpaaNrMx20
set_option linter.unusedSimpArgs false
set_option linter.unusedVariables false
namespace Go.Mx
open Go
abbrev Sy:=RecY→Nat→Bool→Bool→Bool→TY→O→KY→Option (Ex×TY)
def zgW(v:Option V)(T:TY)(o:O)(k:KY):Option (Ex×TY):=
 match v with
 | some v=>ztL T o.dst v k
 | none=>none
def zrY(e:Option EffR)(T:TY)(o:O)(k:KY):Option (Ex×TY):=
 match e with
 | some e=>apY T.hp e fun v H=>ztL (zsw T H) o.dst v k
 | none=>none
def zfD(i:I):Sy:=fun _ B _ _ _ T o k=>
 bif zai i then zgW (qF (evY T) (zuw T) (zqB T.hp) i) T o k else zrY (ztR B (zqB T.hp) (evY T) i) T o k
def zyu(e:Bool)(o:O)(T:TY)(x:Option (CR×HY))(k:KY):Option (Ex×TY):=
 match x with
 | some (.ret v,H)=>ztL (zsw T H) o.dst v k
 | some (.pan v,H)=>some (.panic v e,zsw T H)
 | none=>none
def zxX(f:Nat)(vs:Option (List V)):Sy:=fun r B bar _ e T o k=>
 match vs with
 | some vs=>zdg (bif zmK bar f then T.hp.n else B) fun B'=>zyC T fun H=>zyu e o T (r.call B' f vs H) k
 | none=>none
def zve(f:Nat)(xs:List X):Sy:=fun r B bar top e T o k=>zxX f (zuw T xs) r B bar top e T o k
def zui(v:Option V)(vs:Option (List V)):Sy:=fun r B bar _ e T o k=>
 match v with
 | some v=>(match vs with
  | some vs=>zdg (bif bar then T.hp.n else B) fun B'=>zyC T fun H=>zyu e o T (zrA r B' v vs H) k
  | none=>none)
 | none=>none
def zsL(x:X)(xs:List X):Sy:=fun r B bar top e T o k=>zui (evY T x) (zuw T xs) r B bar top e T o k
def zuc(v:Option V)(e:Bool)(T:TY):Option (Ex×TY):=
 match v with
 | some (.ifc t v)=>some (.panic (.ifc t v) e,T)
 | _=>none
def zsH(x:X):Sy:=fun _ _ _ _ e T _ _=>zuc (evY T x) e T
def zux(v:Option V)(vs:Option (List V))(top:Bool)(T:TY)(o:O)(k:KY):Option (Ex×TY):=
 match v with
 | some (.clo f first cap)=>(match vs with
  | some vs=>bif top then zcX (first ++ vs ++ cap) fun l=>ztL ⟨T.N,T.env,.fn f l :: T.dfs,T.hp⟩ o.dst zaV k else none
  | none=>none)
 | _=>none
def zrs(x:X)(xs:List X):Sy:=fun _ _ _ top _ T o k=>zux (evY T x) (zuw T xs) top T o k
def zhe(i:I):Sy:=
 match i with
 | .call f xs=>zve f xs
 | .zbS x xs=>zsL x xs
 | .panic x=>zsH x
 | .defer x xs=>zrs x xs
 | i=>zfD i
theorem zsQ{rY:RecY}{r:Rec}(hr:RRY rY r){B:Nat}{bar top e:Bool}{T T':TY}{S:St}{o:O}{kY:KY}{k:St→Option (Ex×St)}{ex:Ex}(hS:RY T S)(hw:wanted S.env o.g=true)
  (hk:∀ T1 S1,RY T1 S1→kY T1=some (ex,T')→∃ S',k S1=some (ex,S')∧RY T' S') (hc:zhe o.i rY B bar top e T o kY=some (ex,T')):∃ S',zcz r B bar top e S o k=some (ex,S')∧RY T' S':=by
 have hput:∀ {T1:TY} {S1:St} {v:V},RY T1 S1→ztL T1 o.dst v kY=some (ex,T')→∃ S',k (S1.put o.dst v)=some (ex,S')∧RY T' S':=by
  intro T1 S1 v h1 h2;obtain⟨T2,g1,g2⟩:=zrc h1 h2;exact hk _ _ g1 g2
 have hfin:∀ {x:Option (CR×HY)} {y:Option (CR×zak)},(∀ cr H',x=some (cr,H')→∃ h',y=some (cr,h')∧zeB H' h')→zyu e o T x kY=some (ex,T')→∃ S',zmp e o S y k=some (ex,S')∧RY T' S':=by
  intro x y hxy hf;unfold zyu at hf;split at hf
  ·rename_i v H;obtain⟨h',g1,g2⟩:=hxy _ _ rfl;rw[g1];exact hput (hS.heap g2) hf
  ·rename_i v H;obtain⟨h',g1,g2⟩:=hxy _ _ rfl;rw[g1];simp only[qae,qag]at hf;obtain⟨rfl,rfl⟩:=hf;exact⟨_,rfl,hS.heap g2⟩
  cases hf
 have hn:T.hp.n=S.heap.length:=hS.2.2.2.1;unfold zcz;rw[hw];simp only[];have plain:∀ i,zfD i rY B bar top e T o kY=some (ex,T')→
   ∃ S',(bif zai i then(match q S.heap S.env i with | some v=>k (S.put o.dst v)| none=>none)else(match eff B S.heap S.env i with | some (v,h)=>k ({ S with heap:=h }.put o.dst v)| none=>none))=some (ex,S')∧RY T' S':=by
  intro i hi;unfold zfD at hi;rw[show evY T=ev S.env from funext (zh5 hS),show zuw T=evs S.env from funext (zii hS),show zqB T.hp=zaB S.heap from funext (zny hS.2.2.2)]at hi;cases hq:zai i with
  | true=>
   rw[hq,cond_true,zyH,zy2]at hi;simp only[cond_true];unfold zgW at hi;split at hi
   ·exact hput hS hi
   ·cases hi
  | false=>
   rw[hq,cond_false]at hi;simp only[cond_false];rw[← zu0];unfold zrY at hi;split at hi
   ·rename_i er her;rw[her];obtain⟨H',g1,g2⟩:=zwN hS.2.2.2 hi;simp only[qaM];exact hput (hS.heap g1) g2
   cases hi
 cases hi:o.i with
 | call f xs=>
  rw[hi]at hc;simp only[zhe,zve,zxX,zii hS,zcj,hn,zrC]at hc;simp only[];split at hc
  ·rename_i vs hvs;rw[hvs];exact hfin (fun cr H' hz=>hr.call _ _ _ _ _ _ _ hS.2.2.2 hz) hc
  ·cases hc
 | zbS x xs=>
  rw[hi]at hc;simp only[zhe,zsL,zui,zii hS,zh5 hS,zcj,hn,zrC]at hc;simp only[];split at hc
  ·rename_i v hv;split at hc
   ·rename_i vs hvs;rw[hv,hvs];exact hfin (fun cr H' hz=>zqe hr hS.2.2.2 hz) hc
   cases hc
  ·cases hc
 | panic x=>
  rw[hi]at hc;simp only[zhe,zsH,zuc,zh5 hS]at hc;simp only[];split at hc
  ·rename_i t v hv;rw[hv];simp only[qae,qag]at hc;obtain⟨rfl,rfl⟩:=hc;exact⟨S,rfl,hS⟩
  ·cases hc
 | defer x xs=>
  rw[hi]at hc;simp only[zhe,zrs,zux,zii hS,zh5 hS,zcu]at hc;simp only[];split at hc
  ·rename_i f first cap hv
   split at hc
   ·rename_i vs hvs;rw[hv,hvs];cases top with
    | true=>
     simp only[cond_true]at hc ⊢;exact hput (T1:=⟨T.N,T.env,.fn f (first ++ vs ++ cap):: T.dfs,T.hp⟩) (S1:={ S with dfs:=.fn f (first ++ vs ++ cap):: S.dfs }) ⟨hS.1,hS.2.1,by rw[hS.2.2.1],hS.2.2.2⟩ hc
    | false=>simp only[cond_false]at hc; cases hc
   cases hc
  ·cases hc
 | _=>rw[hi]at hc; exact plain _ hc
def zoC(p:Option V)(H:HY)(n:Option Nat):Option V:=
 match p with
 | some (.ptr β o)=>(match zqB H β with
  | some cs=>zll cs o n
  | none=>none)
 | _=>none
def zuz(c:Option Bool)(T:TY)(a b:X):Option V:=
 match c with
 | some true=>evY T a
 | some false=>evY T b
 | none=>none
def zAN(x:X):Sy:=fun _ _ _ _ _ T o k=>zgW (evY T x) T o k
def zw4(n:Option Nat)(x:X):Sy:=fun _ _ _ _ _ T o k=>zgW (zoC (evY T x) T.hp n) T o k
def zAS(off:Nat)(x:X):Sy:=fun _ _ _ _ _ T o k=>zgW (zzO (evY T x) off) T o k
def zx4(n:Nat)(x i:X):Sy:=fun _ _ _ _ _ T o k=>zgW (zyc n (evY T x) (zxf (evY T i))) T o k
def zw3(n cnt:Nat)(x i:X):Sy:=fun _ _ _ _ _ T o k=>zgW (zya n cnt (evY T x) (zxf (evY T i))) T o k
def zzD(op:BinOp)(x y:X):Sy:=fun _ _ _ _ _ T o k=>zgW (zzJ (bOp op) (intOf (evY T x)) (intOf (evY T y))) T o k
def zxi(kd:IntKind)(x:X):Sy:=fun _ _ _ _ _ T o k=>zgW (zxw kd (intOf (evY T x))) T o k
def zxg(c a b:X):Sy:=fun _ _ _ _ _ T o k=>zgW (zuz (zoA (evY T c)) T a b) T o k
def yUn(op:UnOp)(x:X):Sy:=fun _ _ _ _ _ T o k=>zgW (xUn op (evY T x)) T o k
def zAR(x:X):Sy:=fun _ _ _ _ _ T o k=>zgW (zz7 (evY T x)) T o k
def zzV(x:X)(i:Nat):Sy:=fun _ _ _ _ _ T o k=>zgW (zz5 (evY T x) i) T o k
def zxQ(z:List Value):Sy:=fun _ _ _ _ _ T o k=>zjP T.hp (.blk (z.map .lit)) fun n H=>ztL (zsw T H) o.dst (.ptr n 0) k
def zAk(x:X):Sy:=fun _ _ _ _ _ T o k=>zrY (zzu (zcn (evY T x))) T o k
def zxA(n:Nat)(a x:X):Sy:=fun _ B _ _ _ T o k=>zrY (zsp B (zqB T.hp) n (evY T a) (zcn (evY T x))) T o k
def zAr(n bytes:Nat)(s x:X):Sy:=fun _ B _ _ _ T o k=>zrY (zzi B (zqB T.hp) n bytes (evY T s) ((evY T x).bind (zwH (zqB T.hp) n))) T o k
def zlM(i:I):Sy:=
 match i with
 | .mov x=>zAN x
 | .load n x=>zw4 n x
 | .fld off x=>zAS off x
 | .idxS n x i=>zx4 n x i
 | .idxA n cnt x i=>zw3 n cnt x i
 | .bin op x y=>zzD op x y
 | .conv k x=>zxi k x
 | .pick c a b=>zxg c a b
 | .un op x=>yUn op x
 | .len x=>zAR x
 | .ext x i=>zzV x i
 | .call f xs=>zve f xs
 | .zbS x xs=>zsL x xs
 | .panic x=>zsH x
 | .defer x xs=>zrs x xs
 | .alloc z=>zxQ z
 | .box x=>zAk x
 | .store n a x=>zxA n a x
 | .app n bytes s x=>zAr n bytes s x
 | i=>zfD i
theorem zs3(i:I)(r:RecY)(B:Nat)(bar top e:Bool)(T:TY)(o:O)(k:KY):zlM i r B bar top e T o k=zhe i r B bar top e T o k:=by
 cases i with
 | load n x=>
  simp only[zlM,zhe,zfD,zw4,zai,cond_true,qF,zoC];rfl
 | idxS n x i=>
  simp only[zlM,zhe,zfD,zx4,zai,cond_true,qF,zyc];cases evY T x with
  | none=>rfl
  | some v=>
   cases v with
   | sl β o n' len c=>
    simp only[];cases evY T i with
    | none=>rfl
    | some w=>
     cases w with
     | lit y=>
      cases y with
      | int kd m=>cases m<;>rfl
      | _=>rfl
     | _=>rfl
   | _=>rfl
 | idxA n cnt x i=>
  simp only[zlM,zhe,zfD,zw3,zai,cond_true,qF,zya];cases evY T x with
  | none=>rfl
  | some v=>
   cases v with
   | ptr β o=>
    simp only[];cases evY T i with
    | none=>rfl
    | some w=>
     cases w with
     | lit y=>
      cases y with
      | int kd m=>cases m<;>rfl
      | _=>rfl
     | _=>rfl
   | _=>rfl
 | bin op x y=>
  simp only[zlM,zhe,zfD,zzD,zai,cond_true,qF,zwh];rfl
 | conv kd x=>
  simp only[zlM,zhe,zfD,zxi,zai,cond_true,qF,zxw];cases evY T x with
  | none=>rfl
  | some v=>
   cases v with
   | lit y=>cases y<;>rfl
   | _=>rfl
 | pick c a b=>
  simp only[zlM,zhe,zfD,zxg,zai,cond_true,qF,qG,zyr,zuz];cases evY T c with
  | none=>rfl
  | some v=>
   cases v with
   | lit y=>
    cases y with
    | bool b=>cases b<;>rfl
    | _=>rfl
   | _=>rfl
 | _=>rfl
def zvl:Sy:=fun r B bar top e T o k=>
 match zmx T o.g with
 | false=>ztL T o.dst zaV k
 | true=>zlM o.i r B bar top e T o k
theorem zt3{rY:RecY}{r:Rec}(hr:RRY rY r){B:Nat}{bar top e:Bool}{T T':TY}{S:St}{o:O}{kY:KY}{k:St→Option (Ex×St)}{ex:Ex}(hS:RY T S)
  (hk:∀ T1 S1,RY T1 S1→kY T1=some (ex,T')→∃ S',k S1=some (ex,S')∧RY T' S') (hc:zvl rY B bar top e T o kY=some (ex,T')):∃ S',zcz r B bar top e S o k=some (ex,S')∧RY T' S':=by
 unfold zvl at hc;rw[zpR hS]at hc;cases hw:wanted S.env o.g with
 | false=>
  rw[hw]at hc;unfold zcz;rw[hw];obtain⟨T2,g1,g2⟩:=zrc hS hc;exact hk _ _ g1 g2
 | true=>
  rw[hw]at hc;simp only[zs3]at hc;exact zsQ hr hS hw hk hc
def zj5(r:RecY)(B:Nat)(bar top e:Bool):List O→KY
 | [],T=>some (.normal,T)
 | o :: l,T=>zvl r B bar top e T o (zj5 r B bar top e l)
theorem ziE{rY:RecY}{r:Rec}(hr:RRY rY r){B:Nat}{bar top e:Bool}{T':TY}{ex:Ex}:∀(l:List O) (T:TY) (S:St),RY T S→zj5 rY B bar top e l T=some (ex,T')→∃ S',zaW r B bar top e l S=some (ex,S')∧RY T' S'
 | [],T,S,hS,hc=>by
  simp only[zj5,qae,qag]at hc;obtain⟨rfl,rfl⟩:=hc;exact⟨S,rfl,hS⟩
 | o :: l,T,S,hS,hc=>zt3 hr hS (fun T1 S1 h1 h2=>ziE hr l T1 S1 h1 h2) hc
end Go.Mx
