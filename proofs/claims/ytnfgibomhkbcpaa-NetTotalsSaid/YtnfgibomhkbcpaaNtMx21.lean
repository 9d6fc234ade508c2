/-
 The machine with tries: one operation. Conditions: none.
-/
import Derived.Test.YtnfgibomhkbcpaaNtMx20
set_option linter.unusedSimpArgs false
set_option linter.unusedVariables false
namespace Go.Mx
open Go
abbrev Sy:=RecY→Nat→Bool→Bool→Bool→TY→O→KY→Option (Ex×TY)
def zhh(v:Option V)(T:TY)(o:O)(k:KY):Option (Ex×TY):=
 match v with
 | some v=>ztL T o.dst v k
 | none=>none
def ztn(e:Option EffR)(T:TY)(o:O)(k:KY):Option (Ex×TY):=
 match e with
 | some e=>apY T.hp e fun v H=>ztL (zqA T H) o.dst v k
 | none=>none
def zf2(i:I):Sy:=fun _ B _ _ _ T o k=>
 bif zak i then zhh (qF (evY T) (zv0 T) (zrB T.hp) i) T o k else ztn (zu7 B (zrB T.hp) (evY T) i) T o k
def zzN(e:Bool)(o:O)(T:TY)(x:Option (CR×HY))(k:KY):Option (Ex×TY):=
 match x with
 | some (.ret v,H)=>ztL (zqA T H) o.dst v k
 | some (.pan v,H)=>some (.panic v e,zqA T H)
 | none=>none
def zyf(f:Nat)(vs:Option (List V)):Sy:=fun r B bar _ e T o k=>
 match vs with
 | some vs=>zdw (bif znG bar f then T.hp.n else B) fun B'=>zAx T fun H=>zzN e o T (r.call B' f vs H) k
 | none=>none
def zxp(f:Nat)(xs:List X):Sy:=fun r B bar top e T o k=>zyf f (zv0 T xs) r B bar top e T o k
def zvn(v:Option V)(vs:Option (List V)):Sy:=fun r B bar _ e T o k=>
 match v with
 | some v=>(match vs with
  | some vs=>zdw (bif bar then T.hp.n else B) fun B'=>zAx T fun H=>zzN e o T (zsN r B' v vs H) k
  | none=>none)
 | none=>none
def zqI(x:X)(xs:List X):Sy:=fun r B bar top e T o k=>zvn (evY T x) (zv0 T xs) r B bar top e T o k
def zvp(v:Option V)(e:Bool)(T:TY):Option (Ex×TY):=
 match v with
 | some (.ifc t v)=>some (.panic (.ifc t v) e,T)
 | _=>none
def ztD(x:X):Sy:=fun _ _ _ _ e T _ _=>zvp (evY T x) e T
def zvx(v:Option V)(vs:Option (List V))(top:Bool)(T:TY)(o:O)(k:KY):Option (Ex×TY):=
 match v with
 | some (.clo f first cap)=>(match vs with
  | some vs=>bif top then zc4 (first ++ vs ++ cap) fun l=>ztL ⟨T.N,T.env,.fn f l :: T.dfs,T.hp⟩ o.dst zaT k else none
  | none=>none)
 | _=>none
def zsW(x:X)(xs:List X):Sy:=fun _ _ _ top _ T o k=>zvx (evY T x) (zv0 T xs) top T o k
def zhB(i:I):Sy:=
 match i with
 | .call f xs=>zxp f xs
 | .callv x xs=>zqI x xs
 | .panic x=>ztD x
 | .defer x xs=>zsW x xs
 | i=>zf2 i
theorem zus{rY:RecY}{r:Rec}(hr:RRY rY r){B:Nat}{bar top e:Bool}{T T':TY}{S:St}{o:O}{kY:KY}{k:St→Option (Ex×St)}{ex:Ex}(hS:RY T S)(hw:wanted S.env o.g=true)
  (hk:∀ T1 S1,RY T1 S1→kY T1=some (ex,T')→∃ S',k S1=some (ex,S')∧RY T' S') (hc:zhB o.i rY B bar top e T o kY=some (ex,T')):∃ S',zc5 r B bar top e S o k=some (ex,S')∧RY T' S':=by
 have hput:∀ {T1:TY} {S1:St} {v:V},RY T1 S1→ztL T1 o.dst v kY=some (ex,T')→∃ S',k (S1.put o.dst v)=some (ex,S')∧RY T' S':=by
  intro T1 S1 v h1 h2;obtain⟨T2,g1,g2⟩:=ztq h1 h2;exact hk _ _ g1 g2
 have hfin:∀ {x:Option (CR×HY)} {y:Option (CR×zal)},(∀ cr H',x=some (cr,H')→∃ h',y=some (cr,h')∧zeJ H' h')→zzN e o T x kY=some (ex,T')→∃ S',zoJ e o S y k=some (ex,S')∧RY T' S':=by
  intro x y hxy hf;unfold zzN at hf;split at hf
  ·rename_i v H;obtain⟨h',g1,g2⟩:=hxy _ _ rfl;rw[g1];exact hput (hS.heap g2) hf
  ·rename_i v H;obtain⟨h',g1,g2⟩:=hxy _ _ rfl;rw[g1];simp only[qae,qag]at hf;obtain⟨rfl,rfl⟩:=hf;exact⟨_,rfl,hS.heap g2⟩
  cases hf
 have hn:T.hp.n=S.heap.length:=hS.2.2.2.1;unfold zc5;rw[hw];simp only[];have plain:∀ i,zf2 i rY B bar top e T o kY=some (ex,T')→
   ∃ S',(bif zak i then(match q S.heap S.env i with | some v=>k (S.put o.dst v)| none=>none)else(match eff B S.heap S.env i with | some (v,h)=>k ({ S with heap:=h }.put o.dst v)| none=>none))=some (ex,S')∧RY T' S':=by
  intro i hi;unfold zf2 at hi;rw[show evY T=ev S.env from funext (zie hS),show zv0 T=evs S.env from funext (zh6 hS),show zrB T.hp=zax S.heap from funext (znY hS.2.2.2)]at hi;cases hq:zak i with
  | true=>
   rw[hq,cond_true,zzT,zAa]at hi;simp only[cond_true];unfold zhh at hi;split at hi
   ·exact hput hS hi
   ·cases hi
  | false=>
   rw[hq,cond_false]at hi;simp only[cond_false];rw[← zxF];unfold ztn at hi;split at hi
   ·rename_i er her;rw[her];obtain⟨H',g1,g2⟩:=zzu hS.2.2.2 hi;simp only[qaP];exact hput (hS.heap g1) g2
   cases hi
 cases hi:o.i with
 | call f xs=>
  rw[hi]at hc;simp only[zhB,zxp,zyf,zh6 hS,zcm,hn,zsm]at hc;simp only[];split at hc
  ·rename_i vs hvs;rw[hvs];exact hfin (fun cr H' hz=>hr.call _ _ _ _ _ _ _ hS.2.2.2 hz) hc
  ·cases hc
 | callv x xs=>
  rw[hi]at hc;simp only[zhB,zqI,zvn,zh6 hS,zie hS,zcm,hn,zsm]at hc;simp only[];split at hc
  ·rename_i v hv;split at hc
   ·rename_i vs hvs;rw[hv,hvs];exact hfin (fun cr H' hz=>zsD hr hS.2.2.2 hz) hc
   cases hc
  ·cases hc
 | panic x=>
  rw[hi]at hc;simp only[zhB,ztD,zvp,zie hS]at hc;simp only[];split at hc
  ·rename_i t v hv;rw[hv];simp only[qae,qag]at hc;obtain⟨rfl,rfl⟩:=hc;exact⟨S,rfl,hS⟩
  ·cases hc
 | defer x xs=>
  rw[hi]at hc;simp only[zhB,zsW,zvx,zh6 hS,zie hS,zcE]at hc;simp only[];split at hc
  ·rename_i f first cap hv
   split at hc
   ·rename_i vs hvs;rw[hv,hvs];cases top with
    | true=>
     simp only[cond_true]at hc ⊢;exact hput (T1:=⟨T.N,T.env,.fn f (first ++ vs ++ cap):: T.dfs,T.hp⟩) (S1:={ S with dfs:=.fn f (first ++ vs ++ cap):: S.dfs }) ⟨hS.1,hS.2.1,by rw[hS.2.2.1],hS.2.2.2⟩ hc
    | false=>simp only[cond_false]at hc; cases hc
   cases hc
  ·cases hc
 | _=>rw[hi]at hc; exact plain _ hc
def zo8(p:Option V)(H:HY)(n:Option Nat):Option V:=
 match p with
 | some (.ptr β o)=>(match zrB H β with
  | some cs=>zmt cs o n
  | none=>none)
 | _=>none
def zvb(c:Option Bool)(T:TY)(a b:X):Option V:=
 match c with
 | some true=>evY T a
 | some false=>evY T b
 | none=>none
def zBT(x:X):Sy:=fun _ _ _ _ _ T o k=>zhh (evY T x) T o k
def zx6(n:Option Nat)(x:X):Sy:=fun _ _ _ _ _ T o k=>zhh (zo8 (evY T x) T.hp n) T o k
def zA3(off:Nat)(x:X):Sy:=fun _ _ _ _ _ T o k=>zhh (zBK (evY T x) off) T o k
def zyw(n:Nat)(x i:X):Sy:=fun _ _ _ _ _ T o k=>zhh (zy0 n (evY T x) (zzm (evY T i))) T o k
def zzh(n cnt:Nat)(x i:X):Sy:=fun _ _ _ _ _ T o k=>zhh (zyq n cnt (evY T x) (zzm (evY T i))) T o k
def zAO(op:BinOp)(x y:X):Sy:=fun _ _ _ _ _ T o k=>zhh (zAS (bOp op) (intOf (evY T x)) (intOf (evY T y))) T o k
def zyt(kd:IntKind)(x:X):Sy:=fun _ _ _ _ _ T o k=>zhh (zzi kd (intOf (evY T x))) T o k
def zy5(c a b:X):Sy:=fun _ _ _ _ _ T o k=>zhh (zvb (zo6 (evY T c)) T a b) T o k
def yUn(op:UnOp)(x:X):Sy:=fun _ _ _ _ _ T o k=>zhh (xUn op (evY T x)) T o k
def zA2(x:X):Sy:=fun _ _ _ _ _ T o k=>zhh (zBh (evY T x)) T o k
def zBo(x:X)(i:Nat):Sy:=fun _ _ _ _ _ T o k=>zhh (zAW (evY T x) i) T o k
def zyI(z:List Value):Sy:=fun _ _ _ _ _ T o k=>zkh T.hp (.blk (z.map .lit)) fun n H=>ztL (zqA T H) o.dst (.ptr n 0) k
def zBD(x:X):Sy:=fun _ _ _ _ _ T o k=>ztn (zAM (zcq (evY T x))) T o k
def zyE(n:Nat)(a x:X):Sy:=fun _ B _ _ _ T o k=>ztn (zrR B (zrB T.hp) n (evY T a) (zcq (evY T x))) T o k
def zAV(n bytes:Nat)(s x:X):Sy:=fun _ B _ _ _ T o k=>ztn (zz4 B (zrB T.hp) n bytes (evY T s) ((evY T x).bind (zxW (zrB T.hp) n))) T o k
def zl4(i:I):Sy:=
 match i with
 | .mov x=>zBT x
 | .load n x=>zx6 n x
 | .fld off x=>zA3 off x
 | .idxS n x i=>zyw n x i
 | .idxA n cnt x i=>zzh n cnt x i
 | .bin op x y=>zAO op x y
 | .conv k x=>zyt k x
 | .pick c a b=>zy5 c a b
 | .un op x=>yUn op x
 | .len x=>zA2 x
 | .ext x i=>zBo x i
 | .call f xs=>zxp f xs
 | .callv x xs=>zqI x xs
 | .panic x=>ztD x
 | .defer x xs=>zsW x xs
 | .alloc z=>zyI z
 | .box x=>zBD x
 | .store n a x=>zyE n a x
 | .app n bytes s x=>zAV n bytes s x
 | i=>zf2 i
theorem zu3(i:I)(r:RecY)(B:Nat)(bar top e:Bool)(T:TY)(o:O)(k:KY):zl4 i r B bar top e T o k=zhB i r B bar top e T o k:=by
 cases i with
 | load n x=>
  simp only[zl4,zhB,zf2,zx6,zak,cond_true,qF,zo8];rfl
 | idxS n x i=>
  simp only[zl4,zhB,zf2,zyw,zak,cond_true,qF,zy0];cases evY T x with
  | none=>rfl
  | some v=>
   cases v with
   | sl β o n' len c=>
    simp only[];cases evY T i with
    | none=>rfl
    | some w=>
     cases w with
     | lit y=>
      cases y with
      | int kd m=>cases m<;>rfl
      | _=>rfl
     | _=>rfl
   | _=>rfl
 | idxA n cnt x i=>
  simp only[zl4,zhB,zf2,zzh,zak,cond_true,qF,zyq];cases evY T x with
  | none=>rfl
  | some v=>
   cases v with
   | ptr β o=>
    simp only[];cases evY T i with
    | none=>rfl
    | some w=>
     cases w with
     | lit y=>
      cases y with
      | int kd m=>cases m<;>rfl
      | _=>rfl
     | _=>rfl
   | _=>rfl
 | bin op x y=>
  simp only[zl4,zhB,zf2,zAO,zak,cond_true,qF,zww]<;>rfl
 | conv kd x=>
  simp only[zl4,zhB,zf2,zyt,zak,cond_true,qF,zzi];cases evY T x with
  | none=>rfl
  | some v=>
   cases v with
   | lit y=>cases y<;>rfl
   | _=>rfl
 | pick c a b=>
  simp only[zl4,zhB,zf2,zy5,zak,cond_true,qF,qG,zzD,zvb];cases evY T c with
  | none=>rfl
  | some v=>
   cases v with
   | lit y=>
    cases y with
    | bool b=>cases b<;>rfl
    | _=>rfl
   | _=>rfl
 | _=>rfl
def zxg:Sy:=fun r B bar top e T o k=>
 match znH T o.g with
 | false=>ztL T o.dst zaT k
 | true=>zl4 o.i r B bar top e T o k
theorem zu0{rY:RecY}{r:Rec}(hr:RRY rY r){B:Nat}{bar top e:Bool}{T T':TY}{S:St}{o:O}{kY:KY}{k:St→Option (Ex×St)}{ex:Ex}(hS:RY T S)
  (hk:∀ T1 S1,RY T1 S1→kY T1=some (ex,T')→∃ S',k S1=some (ex,S')∧RY T' S') (hc:zxg rY B bar top e T o kY=some (ex,T')):∃ S',zc5 r B bar top e S o k=some (ex,S')∧RY T' S':=by
 unfold zxg at hc;rw[zqh hS]at hc;cases hw:wanted S.env o.g with
 | false=>
  rw[hw]at hc;unfold zc5;rw[hw];obtain⟨T2,g1,g2⟩:=ztq hS hc;exact hk _ _ g1 g2
 | true=>
  rw[hw]at hc;simp only[zu3]at hc;exact zus hr hS hw hk hc
def zkM(r:RecY)(B:Nat)(bar top e:Bool):List O→KY
 | [],T=>some (.normal,T)
 | o :: l,T=>zxg r B bar top e T o (zkM r B bar top e l)
theorem zjk{rY:RecY}{r:Rec}(hr:RRY rY r){B:Nat}{bar top e:Bool}{T':TY}{ex:Ex}:∀(l:List O) (T:TY) (S:St),RY T S→zkM rY B bar top e l T=some (ex,T')→∃ S',zaY r B bar top e l S=some (ex,S')∧RY T' S'
 | [],T,S,hS,hc=>by
  simp only[zkM,qae,qag]at hc;obtain⟨rfl,rfl⟩:=hc;exact⟨S,rfl,hS⟩
 | o :: l,T,S,hS,hc=>zu0 hr hS (fun T1 S1 h1 h2=>zjk hr l T1 S1 h1 h2) hc
end Go.Mx
