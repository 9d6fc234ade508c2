/-
 The machine with tries: one operation. Conditions: none.
-/
import Derived.Test.YtifdmgbehogecaaNwMx20
set_option linter.unusedSimpArgs false
set_option linter.unusedVariables false
namespace Go.Mx
open Go
abbrev Sy:=RecY→Nat→Bool→Bool→Bool→TY→O→KY→Option (Ex×TY)
def zgz(v:Option V)(T:TY)(o:O)(k:KY):Option (Ex×TY):=
 match v with
 | some v=>zsa T o.dst v k
 | none=>none
def zpf(e:Option EffR)(T:TY)(o:O)(k:KY):Option (Ex×TY):=
 match e with
 | some e=>apY T.hp e fun v H=>zsa (zpG T H) o.dst v k
 | none=>none
def zfA(i:I):Sy:=fun _ B _ _ _ T o k=>
 bif zak i then zgz (qF (evY T) (zst T) (zqd T.hp) i) T o k else zpf (zrp B (zqd T.hp) (evY T) i) T o k
def zwt(e:Bool)(o:O)(T:TY)(x:Option (CR×HY))(k:KY):Option (Ex×TY):=
 match x with
 | some (.ret v,H)=>zsa (zpG T H) o.dst v k
 | some (.pan v,H)=>some (.panic v e,zpG T H)
 | none=>none
def zwj(f:Nat)(vs:Option (List V)):Sy:=fun r B bar _ e T o k=>
 match vs with
 | some vs=>zdk (bif bar then T.hp.n else B) fun B'=>zwQ T fun H=>zwt e o T (r.call B' f vs H) k
 | none=>none
def ztP(f:Nat)(xs:List X):Sy:=fun r B bar top e T o k=>zwj f (zst T xs) r B bar top e T o k
def zs4(v:Option V)(vs:Option (List V)):Sy:=fun r B bar _ e T o k=>
 match v with
 | some v=>(match vs with
  | some vs=>zdk (bif bar then T.hp.n else B) fun B'=>zwQ T fun H=>zwt e o T (zqE r B' v vs H) k
  | none=>none)
 | none=>none
def zpo(x:X)(xs:List X):Sy:=fun r B bar top e T o k=>zs4 (evY T x) (zst T xs) r B bar top e T o k
def zsZ(v:Option V)(e:Bool)(T:TY):Option (Ex×TY):=
 match v with
 | some (.ifc t v)=>some (.panic (.ifc t v) e,T)
 | _=>none
def zq4(x:X):Sy:=fun _ _ _ _ e T _ _=>zsZ (evY T x) e T
def zsw(v:Option V)(vs:Option (List V))(top:Bool)(T:TY)(o:O)(k:KY):Option (Ex×TY):=
 match v with
 | some (.clo f first cap)=>(match vs with
  | some vs=>bif top then zcP (first ++ vs ++ cap) fun l=>zsa ⟨T.N,T.env,.fn f l :: T.dfs,T.hp⟩ o.dst zaQ k else none
  | none=>none)
 | _=>none
def zqw(x:X)(xs:List X):Sy:=fun _ _ _ top _ T o k=>zsw (evY T x) (zst T xs) top T o k
def zgS(i:I):Sy:=
 match i with
 | .call f xs=>ztP f xs
 | .callv x xs=>zpo x xs
 | .panic x=>zq4 x
 | .defer x xs=>zqw x xs
 | i=>zfA i
theorem zrP{rY:RecY}{r:Rec}(hr:RRY rY r){B:Nat}{bar top e:Bool}{T T':TY}{S:St}{o:O}{kY:KY}{k:St→Option (Ex×St)}{ex:Ex}(hS:RY T S)(hw:wanted S.env o.g=true)
  (hk:∀ T1 S1,RY T1 S1→kY T1=some (ex,T')→∃ S',k S1=some (ex,S')∧RY T' S') (hc:zgS o.i rY B bar top e T o kY=some (ex,T')):∃ S',zcM r B bar top e S o k=some (ex,S')∧RY T' S':=by
 have hput:∀ {T1:TY} {S1:St} {v:V},RY T1 S1→zsa T1 o.dst v kY=some (ex,T')→∃ S',k (S1.put o.dst v)=some (ex,S')∧RY T' S':=by
  intro T1 S1 v h1 h2;obtain⟨T2,g1,g2⟩:=zpr h1 h2;exact hk _ _ g1 g2
 have hfin:∀ {x:Option (CR×HY)} {y:Option (CR×zap)},(∀ cr H',x=some (cr,H')→∃ h',y=some (cr,h')∧zez H' h')→zwt e o T x kY=some (ex,T')→∃ S',znq e o S y k=some (ex,S')∧RY T' S':=by
  intro x y hxy hf;unfold zwt at hf;split at hf
  ·rename_i v H;obtain⟨h',g1,g2⟩:=hxy _ _ rfl;rw[g1];exact hput (hS.heap g2) hf
  ·rename_i v H;obtain⟨h',g1,g2⟩:=hxy _ _ rfl;rw[g1];simp only[qad,qaf]at hf;obtain⟨rfl,rfl⟩:=hf;exact⟨_,rfl,hS.heap g2⟩
  cases hf
 have hn:T.hp.n=S.heap.length:=hS.2.2.2.1;unfold zcM;rw[hw];simp only[];have plain:∀ i,zfA i rY B bar top e T o kY=some (ex,T')→
   ∃ S',(bif zak i then(match q S.heap S.env i with | some v=>k (S.put o.dst v)| none=>none)else(match eff B S.heap S.env i with | some (v,h)=>k ({ S with heap:=h }.put o.dst v)| none=>none))=some (ex,S')∧RY T' S':=by
  intro i hi;unfold zfA at hi;rw[show evY T=ev S.env from funext (zg8 hS),show zst T=evs S.env from funext (zhD hS),show zqd T.hp=zaP S.heap from funext (zlT hS.2.2.2)]at hi;cases hq:zak i with
  | true=>
   rw[hq,cond_true,zwN,zwH]at hi;simp only[cond_true];unfold zgz at hi;split at hi
   ·exact hput hS hi
   ·cases hi
  | false=>
   rw[hq,cond_false]at hi;simp only[cond_false];rw[← ztx];unfold zpf at hi;split at hi
   ·rename_i er her;rw[her];obtain⟨H',g1,g2⟩:=zvg hS.2.2.2 hi;simp only[qaJ];exact hput (hS.heap g1) g2
   cases hi
 cases hi:o.i with
 | call f xs=>
  rw[hi]at hc;simp only[zgS,ztP,zwj,zhD hS,zcj,hn,zpz]at hc;simp only[];split at hc
  ·rename_i vs hvs;rw[hvs];exact hfin (fun cr H' hz=>hr.call _ _ _ _ _ _ _ hS.2.2.2 hz) hc
  ·cases hc
 | callv x xs=>
  rw[hi]at hc;simp only[zgS,zpo,zs4,zhD hS,zg8 hS,zcj,hn,zpz]at hc;simp only[];split at hc
  ·rename_i v hv;split at hc
   ·rename_i vs hvs;rw[hv,hvs];exact hfin (fun cr H' hz=>zqP hr hS.2.2.2 hz) hc
   cases hc
  ·cases hc
 | panic x=>
  rw[hi]at hc;simp only[zgS,zq4,zsZ,zg8 hS]at hc;simp only[];split at hc
  ·rename_i t v hv;rw[hv];simp only[qad,qaf]at hc;obtain⟨rfl,rfl⟩:=hc;exact⟨S,rfl,hS⟩
  ·cases hc
 | defer x xs=>
  rw[hi]at hc;simp only[zgS,zqw,zsw,zhD hS,zg8 hS,zct]at hc;simp only[];split at hc
  ·rename_i f first cap hv
   split at hc
   ·rename_i vs hvs;rw[hv,hvs];cases top with
    | true=>
     simp only[cond_true]at hc ⊢;exact hput (T1:=⟨T.N,T.env,.fn f (first ++ vs ++ cap):: T.dfs,T.hp⟩) (S1:={ S with dfs:=.fn f (first ++ vs ++ cap):: S.dfs }) ⟨hS.1,hS.2.1,by rw[hS.2.2.1],hS.2.2.2⟩ hc
    | false=>simp only[cond_false]at hc; cases hc
   cases hc
  ·cases hc
 | _=>rw[hi]at hc; exact plain _ hc
def znm(p:Option V)(H:HY)(n:Option Nat):Option V:=
 match p with
 | some (.ptr β o)=>(match zqd H β with
  | some cs=>zki cs o n
  | none=>none)
 | _=>none
def ztb(c:Option Bool)(T:TY)(a b:X):Option V:=
 match c with
 | some true=>evY T a
 | some false=>evY T b
 | none=>none
def zxY(x:X):Sy:=fun _ _ _ _ _ T o k=>zgz (evY T x) T o k
def zv1(n:Option Nat)(x:X):Sy:=fun _ _ _ _ _ T o k=>zgz (znm (evY T x) T.hp n) T o k
def zyn(off:Nat)(x:X):Sy:=fun _ _ _ _ _ T o k=>zgz (zyj (evY T x) off) T o k
def zv8(n:Nat)(x i:X):Sy:=fun _ _ _ _ _ T o k=>zgz (zvj n (evY T x) (zvZ (evY T i))) T o k
def zuJ(n cnt:Nat)(x i:X):Sy:=fun _ _ _ _ _ T o k=>zgz (zvf n cnt (evY T x) (zvZ (evY T i))) T o k
def zxs(op:BinOp)(x y:X):Sy:=fun _ _ _ _ _ T o k=>zgz (zxF (bOp op) (intOf (evY T x)) (intOf (evY T y))) T o k
def zvY(kd:IntKind)(x:X):Sy:=fun _ _ _ _ _ T o k=>zgz (zwc kd (intOf (evY T x))) T o k
def zuK(c a b:X):Sy:=fun _ _ _ _ _ T o k=>zgz (ztb (zmT (evY T c)) T a b) T o k
def yUn(op:UnOp)(x:X):Sy:=fun _ _ _ _ _ T o k=>zgz (xUn op (evY T x)) T o k
def zx8(x:X):Sy:=fun _ _ _ _ _ T o k=>zgz (zyg (evY T x)) T o k
def zx1(x:X)(i:Nat):Sy:=fun _ _ _ _ _ T o k=>zgz (zxL (evY T x) i) T o k
def zvS(z:List Value):Sy:=fun _ _ _ _ _ T o k=>zj4 T.hp (.blk (z.map .lit)) fun n H=>zsa (zpG T H) o.dst (.ptr n 0) k
def zx2(x:X):Sy:=fun _ _ _ _ _ T o k=>zpf (zxA (zcm (evY T x))) T o k
def zvp(n:Nat)(a x:X):Sy:=fun _ B _ _ _ T o k=>zpf (zqg B (zqd T.hp) n (evY T a) (zcm (evY T x))) T o k
def zyq(n bytes:Nat)(s x:X):Sy:=fun _ B _ _ _ T o k=>zpf (zxr B (zqd T.hp) n bytes (evY T s) ((evY T x).bind (zup (zqd T.hp) n))) T o k
def zkd(i:I):Sy:=
 match i with
 | .mov x=>zxY x
 | .load n x=>zv1 n x
 | .fld off x=>zyn off x
 | .idxS n x i=>zv8 n x i
 | .idxA n cnt x i=>zuJ n cnt x i
 | .bin op x y=>zxs op x y
 | .conv k x=>zvY k x
 | .pick c a b=>zuK c a b
 | .un op x=>yUn op x
 | .len x=>zx8 x
 | .ext x i=>zx1 x i
 | .call f xs=>ztP f xs
 | .callv x xs=>zpo x xs
 | .panic x=>zq4 x
 | .defer x xs=>zqw x xs
 | .alloc z=>zvS z
 | .box x=>zx2 x
 | .store n a x=>zvp n a x
 | .app n bytes s x=>zyq n bytes s x
 | i=>zfA i
theorem zrG(i:I)(r:RecY)(B:Nat)(bar top e:Bool)(T:TY)(o:O)(k:KY):zkd i r B bar top e T o k=zgS i r B bar top e T o k:=by
 cases i with
 | load n x=>
  simp only[zkd,zgS,zfA,zv1,zak,cond_true,qF,znm];rfl
 | idxS n x i=>
  simp only[zkd,zgS,zfA,zv8,zak,cond_true,qF,zvj];cases evY T x with
  | none=>rfl
  | some v=>
   cases v with
   | sl β o n' len c=>
    simp only[];cases evY T i with
    | none=>rfl
    | some w=>
     cases w with
     | lit y=>
      cases y with
      | int kd m=>cases m<;>rfl
      | _=>rfl
     | _=>rfl
   | _=>rfl
 | idxA n cnt x i=>
  simp only[zkd,zgS,zfA,zuJ,zak,cond_true,qF,zvf];cases evY T x with
  | none=>rfl
  | some v=>
   cases v with
   | ptr β o=>
    simp only[];cases evY T i with
    | none=>rfl
    | some w=>
     cases w with
     | lit y=>
      cases y with
      | int kd m=>cases m<;>rfl
      | _=>rfl
     | _=>rfl
   | _=>rfl
 | bin op x y=>
  simp only[zkd,zgS,zfA,zxs,zak,cond_true,qF,zt1];rfl
 | conv kd x=>
  simp only[zkd,zgS,zfA,zvY,zak,cond_true,qF,zwc];cases evY T x with
  | none=>rfl
  | some v=>
   cases v with
   | lit y=>cases y<;>rfl
   | _=>rfl
 | pick c a b=>
  simp only[zkd,zgS,zfA,zuK,zak,cond_true,qF,qG,zwx,ztb];cases evY T c with
  | none=>rfl
  | some v=>
   cases v with
   | lit y=>
    cases y with
    | bool b=>cases b<;>rfl
    | _=>rfl
   | _=>rfl
 | _=>rfl
def ztg:Sy:=fun r B bar top e T o k=>
 match zmH T o.g with
 | false=>zsa T o.dst zaQ k
 | true=>zkd o.i r B bar top e T o k
theorem zri{rY:RecY}{r:Rec}(hr:RRY rY r){B:Nat}{bar top e:Bool}{T T':TY}{S:St}{o:O}{kY:KY}{k:St→Option (Ex×St)}{ex:Ex}(hS:RY T S)
  (hk:∀ T1 S1,RY T1 S1→kY T1=some (ex,T')→∃ S',k S1=some (ex,S')∧RY T' S') (hc:ztg rY B bar top e T o kY=some (ex,T')):∃ S',zcM r B bar top e S o k=some (ex,S')∧RY T' S':=by
 unfold ztg at hc;rw[zn8 hS]at hc;cases hw:wanted S.env o.g with
 | false=>
  rw[hw]at hc;unfold zcM;rw[hw];obtain⟨T2,g1,g2⟩:=zpr hS hc;exact hk _ _ g1 g2
 | true=>
  rw[hw]at hc;simp only[zrG]at hc;exact zrP hr hS hw hk hc
def zjI(r:RecY)(B:Nat)(bar top e:Bool):List O→KY
 | [],T=>some (.normal,T)
 | o :: l,T=>ztg r B bar top e T o (zjI r B bar top e l)
theorem ziM{rY:RecY}{r:Rec}(hr:RRY rY r){B:Nat}{bar top e:Bool}{T':TY}{ex:Ex}:∀(l:List O) (T:TY) (S:St),RY T S→zjI rY B bar top e l T=some (ex,T')→∃ S',zaV r B bar top e l S=some (ex,S')∧RY T' S'
 | [],T,S,hS,hc=>by
  simp only[zjI,qad,qaf]at hc;obtain⟨rfl,rfl⟩:=hc;exact⟨S,rfl,hS⟩
 | o :: l,T,S,hS,hc=>zri hr hS (fun T1 S1 h1 h2=>ziM hr l T1 S1 h1 h2) hc
end Go.Mx
