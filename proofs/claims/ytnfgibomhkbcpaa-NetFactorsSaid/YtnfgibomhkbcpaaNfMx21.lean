/-
 The machine with tries: one operation. Conditions: none.
-/
import Derived.Test.YtnfgibomhkbcpaaNfMx20
set_option linter.unusedSimpArgs false
set_option linter.unusedVariables false
namespace Go.Mx
open Go
abbrev Sy:=RecY→Nat→Bool→Bool→Bool→TY→O→KY→Option (Ex×TY)
def zgR(v:Option V)(T:TY)(o:O)(k:KY):Option (Ex×TY):=
 match v with
 | some v=>zsM T o.dst v k
 | none=>none
def zpQ(e:Option EffR)(T:TY)(o:O)(k:KY):Option (Ex×TY):=
 match e with
 | some e=>apY T.hp e fun v H=>zsM (zr4 T H) o.dst v k
 | none=>none
def zfG(i:I):Sy:=fun _ B _ _ _ T o k=>
 bif zan i then zgR (qF (evY T) (ztS T) (zsb T.hp) i) T o k else zpQ (zsL B (zsb T.hp) (evY T) i) T o k
def zyr(e:Bool)(o:O)(T:TY)(x:Option (CR×HY))(k:KY):Option (Ex×TY):=
 match x with
 | some (.ret v,H)=>zsM (zr4 T H) o.dst v k
 | some (.pan v,H)=>some (.panic v e,zr4 T H)
 | none=>none
def zxj(f:Nat)(vs:Option (List V)):Sy:=fun r B bar _ e T o k=>
 match vs with
 | some vs=>zdB (bif znK bar f then T.hp.n else B) fun B'=>zyQ T fun H=>zyr e o T (r.call B' f vs H) k
 | none=>none
def zuM(f:Nat)(xs:List X):Sy:=fun r B bar top e T o k=>zxj f (ztS T xs) r B bar top e T o k
def zt3(v:Option V)(vs:Option (List V)):Sy:=fun r B bar _ e T o k=>
 match v with
 | some v=>(match vs with
  | some vs=>zdB (bif bar then T.hp.n else B) fun B'=>zyQ T fun H=>zyr e o T (zqG r B' v vs H) k
  | none=>none)
 | none=>none
def zpP(x:X)(xs:List X):Sy:=fun r B bar top e T o k=>zt3 (evY T x) (ztS T xs) r B bar top e T o k
def zuf(v:Option V)(e:Bool)(T:TY):Option (Ex×TY):=
 match v with
 | some (.ifc t v)=>some (.panic (.ifc t v) e,T)
 | _=>none
def zry(x:X):Sy:=fun _ _ _ _ e T _ _=>zuf (evY T x) e T
def ztY(v:Option V)(vs:Option (List V))(top:Bool)(T:TY)(o:O)(k:KY):Option (Ex×TY):=
 match v with
 | some (.clo f first cap)=>(match vs with
  | some vs=>bif top then zc1 (first ++ vs ++ cap) fun l=>zsM ⟨T.N,T.env,.fn f l :: T.dfs,T.hp⟩ o.dst zaU k else none
  | none=>none)
 | _=>none
def zqR(x:X)(xs:List X):Sy:=fun _ _ _ top _ T o k=>ztY (evY T x) (ztS T xs) top T o k
def zg4(i:I):Sy:=
 match i with
 | .call f xs=>zuM f xs
 | .callv x xs=>zpP x xs
 | .panic x=>zry x
 | .defer x xs=>zqR x xs
 | i=>zfG i
theorem ztC{rY:RecY}{r:Rec}(hr:RRY rY r){B:Nat}{bar top e:Bool}{T T':TY}{S:St}{o:O}{kY:KY}{k:St→Option (Ex×St)}{ex:Ex}(hS:RY T S)(hw:wanted S.env o.g=true)
  (hk:∀ T1 S1,RY T1 S1→kY T1=some (ex,T')→∃ S',k S1=some (ex,S')∧RY T' S') (hc:zg4 o.i rY B bar top e T o kY=some (ex,T')):∃ S',zc0 r B bar top e S o k=some (ex,S')∧RY T' S':=by
 have hput:∀ {T1:TY} {S1:St} {v:V},RY T1 S1→zsM T1 o.dst v kY=some (ex,T')→∃ S',k (S1.put o.dst v)=some (ex,S')∧RY T' S':=by
  intro T1 S1 v h1 h2;obtain⟨T2,g1,g2⟩:=zr8 h1 h2;exact hk _ _ g1 g2
 have hfin:∀ {x:Option (CR×HY)} {y:Option (CR×zap)},(∀ cr H',x=some (cr,H')→∃ h',y=some (cr,h')∧zeK H' h')→zyr e o T x kY=some (ex,T')→∃ S',zn1 e o S y k=some (ex,S')∧RY T' S':=by
  intro x y hxy hf;unfold zyr at hf;split at hf
  ·rename_i v H;obtain⟨h',g1,g2⟩:=hxy _ _ rfl;rw[g1];exact hput (hS.heap g2) hf
  ·rename_i v H;obtain⟨h',g1,g2⟩:=hxy _ _ rfl;rw[g1];simp only[qae,qag]at hf;obtain⟨rfl,rfl⟩:=hf;exact⟨_,rfl,hS.heap g2⟩
  cases hf
 have hn:T.hp.n=S.heap.length:=hS.2.2.2.1;unfold zc0;rw[hw];simp only[];have plain:∀ i,zfG i rY B bar top e T o kY=some (ex,T')→
   ∃ S',(bif zan i then(match q S.heap S.env i with | some v=>k (S.put o.dst v)| none=>none)else(match eff B S.heap S.env i with | some (v,h)=>k ({ S with heap:=h }.put o.dst v)| none=>none))=some (ex,S')∧RY T' S':=by
  intro i hi;unfold zfG at hi;rw[show evY T=ev S.env from funext (zhA hS),show ztS T=evs S.env from funext (zhL hS),show zsb T.hp=zaC S.heap from funext (zm8 hS.2.2.2)]at hi;cases hq:zan i with
  | true=>
   rw[hq,cond_true,zyB,zzb]at hi;simp only[cond_true];unfold zgR at hi;split at hi
   ·exact hput hS hi
   ·cases hi
  | false=>
   rw[hq,cond_false]at hi;simp only[cond_false];rw[← zvm];unfold zpQ at hi;split at hi
   ·rename_i er her;rw[her];obtain⟨H',g1,g2⟩:=zxK hS.2.2.2 hi;simp only[qaQ];exact hput (hS.heap g1) g2
   cases hi
 cases hi:o.i with
 | call f xs=>
  rw[hi]at hc;simp only[zg4,zuM,zxj,zhL hS,zct,hn,zq8]at hc;simp only[];split at hc
  ·rename_i vs hvs;rw[hvs];exact hfin (fun cr H' hz=>hr.call _ _ _ _ _ _ _ hS.2.2.2 hz) hc
  ·cases hc
 | callv x xs=>
  rw[hi]at hc;simp only[zg4,zpP,zt3,zhL hS,zhA hS,zct,hn,zq8]at hc;simp only[];split at hc
  ·rename_i v hv;split at hc
   ·rename_i vs hvs;rw[hv,hvs];exact hfin (fun cr H' hz=>zpS hr hS.2.2.2 hz) hc
   cases hc
  ·cases hc
 | panic x=>
  rw[hi]at hc;simp only[zg4,zry,zuf,zhA hS]at hc;simp only[];split at hc
  ·rename_i t v hv;rw[hv];simp only[qae,qag]at hc;obtain⟨rfl,rfl⟩:=hc;exact⟨S,rfl,hS⟩
  ·cases hc
 | defer x xs=>
  rw[hi]at hc;simp only[zg4,zqR,ztY,zhL hS,zhA hS,zcC]at hc;simp only[];split at hc
  ·rename_i f first cap hv
   split at hc
   ·rename_i vs hvs;rw[hv,hvs];cases top with
    | true=>
     simp only[cond_true]at hc ⊢;exact hput (T1:=⟨T.N,T.env,.fn f (first ++ vs ++ cap):: T.dfs,T.hp⟩) (S1:={ S with dfs:=.fn f (first ++ vs ++ cap):: S.dfs }) ⟨hS.1,hS.2.1,by rw[hS.2.2.1],hS.2.2.2⟩ hc
    | false=>simp only[cond_false]at hc; cases hc
   cases hc
  ·cases hc
 | _=>rw[hi]at hc; exact plain _ hc
def zn5(p:Option V)(H:HY)(n:Option Nat):Option V:=
 match p with
 | some (.ptr β o)=>(match zsb H β with
  | some cs=>zk8 cs o n
  | none=>none)
 | _=>none
def ztV(c:Option Bool)(T:TY)(a b:X):Option V:=
 match c with
 | some true=>evY T a
 | some false=>evY T b
 | none=>none
def zAT(x:X):Sy:=fun _ _ _ _ _ T o k=>zgR (evY T x) T o k
def zwT(n:Option Nat)(x:X):Sy:=fun _ _ _ _ _ T o k=>zgR (zn5 (evY T x) T.hp n) T o k
def zz3(off:Nat)(x:X):Sy:=fun _ _ _ _ _ T o k=>zgR (zAY (evY T x) off) T o k
def zxn(n:Nat)(x i:X):Sy:=fun _ _ _ _ _ T o k=>zgR (zxD n (evY T x) (zxY (evY T i))) T o k
def zxo(n cnt:Nat)(x i:X):Sy:=fun _ _ _ _ _ T o k=>zgR (zwr n cnt (evY T x) (zxY (evY T i))) T o k
def zzN(op:BinOp)(x y:X):Sy:=fun _ _ _ _ _ T o k=>zgR (zzA (bOp op) (intOf (evY T x)) (intOf (evY T y))) T o k
def zwX(kd:IntKind)(x:X):Sy:=fun _ _ _ _ _ T o k=>zgR (zxc kd (intOf (evY T x))) T o k
def zwn(c a b:X):Sy:=fun _ _ _ _ _ T o k=>zgR (ztV (znW (evY T c)) T a b) T o k
def yUn(op:UnOp)(x:X):Sy:=fun _ _ _ _ _ T o k=>zgR (xUn op (evY T x)) T o k
def zz5(x:X):Sy:=fun _ _ _ _ _ T o k=>zgR (zAU (evY T x)) T o k
def zAa(x:X)(i:Nat):Sy:=fun _ _ _ _ _ T o k=>zgR (zzX (evY T x) i) T o k
def zxP(z:List Value):Sy:=fun _ _ _ _ _ T o k=>zjm T.hp (.blk (z.map .lit)) fun n H=>zsM (zr4 T H) o.dst (.ptr n 0) k
def zAy(x:X):Sy:=fun _ _ _ _ _ T o k=>zpQ (zzL (zcv (evY T x))) T o k
def zwZ(n:Nat)(a x:X):Sy:=fun _ B _ _ _ T o k=>zpQ (zrK B (zsb T.hp) n (evY T a) (zcv (evY T x))) T o k
def zAr(n bytes:Nat)(s x:X):Sy:=fun _ B _ _ _ T o k=>zpQ (zyD B (zsb T.hp) n bytes (evY T s) ((evY T x).bind (zv9 (zsb T.hp) n))) T o k
def zkI(i:I):Sy:=
 match i with
 | .mov x=>zAT x
 | .load n x=>zwT n x
 | .fld off x=>zz3 off x
 | .idxS n x i=>zxn n x i
 | .idxA n cnt x i=>zxo n cnt x i
 | .bin op x y=>zzN op x y
 | .conv k x=>zwX k x
 | .pick c a b=>zwn c a b
 | .un op x=>yUn op x
 | .len x=>zz5 x
 | .ext x i=>zAa x i
 | .call f xs=>zuM f xs
 | .callv x xs=>zpP x xs
 | .panic x=>zry x
 | .defer x xs=>zqR x xs
 | .alloc z=>zxP z
 | .box x=>zAy x
 | .store n a x=>zwZ n a x
 | .app n bytes s x=>zAr n bytes s x
 | i=>zfG i
theorem ztb(i:I)(r:RecY)(B:Nat)(bar top e:Bool)(T:TY)(o:O)(k:KY):zkI i r B bar top e T o k=zg4 i r B bar top e T o k:=by
 cases i with
 | load n x=>
  simp only[zkI,zg4,zfG,zwT,zan,cond_true,qF,zn5];rfl
 | idxS n x i=>
  simp only[zkI,zg4,zfG,zxn,zan,cond_true,qF,zxD];cases evY T x with
  | none=>rfl
  | some v=>
   cases v with
   | sl β o n' len c=>
    simp only[];cases evY T i with
    | none=>rfl
    | some w=>
     cases w with
     | lit y=>
      cases y with
      | int kd m=>cases m<;>rfl
      | _=>rfl
     | _=>rfl
   | _=>rfl
 | idxA n cnt x i=>
  simp only[zkI,zg4,zfG,zxo,zan,cond_true,qF,zwr];cases evY T x with
  | none=>rfl
  | some v=>
   cases v with
   | ptr β o=>
    simp only[];cases evY T i with
    | none=>rfl
    | some w=>
     cases w with
     | lit y=>
      cases y with
      | int kd m=>cases m<;>rfl
      | _=>rfl
     | _=>rfl
   | _=>rfl
 | bin op x y=>
  simp only[zkI,zg4,zfG,zzN,zan,cond_true,qF,zvR]<;>rfl
 | conv kd x=>
  simp only[zkI,zg4,zfG,zwX,zan,cond_true,qF,zxc];cases evY T x with
  | none=>rfl
  | some v=>
   cases v with
   | lit y=>cases y<;>rfl
   | _=>rfl
 | pick c a b=>
  simp only[zkI,zg4,zfG,zwn,zan,cond_true,qF,qG,zym,ztV];cases evY T c with
  | none=>rfl
  | some v=>
   cases v with
   | lit y=>
    cases y with
    | bool b=>cases b<;>rfl
    | _=>rfl
   | _=>rfl
 | _=>rfl
def zvD:Sy:=fun r B bar top e T o k=>
 match zmd T o.g with
 | false=>zsM T o.dst zaU k
 | true=>zkI o.i r B bar top e T o k
theorem ztx{rY:RecY}{r:Rec}(hr:RRY rY r){B:Nat}{bar top e:Bool}{T T':TY}{S:St}{o:O}{kY:KY}{k:St→Option (Ex×St)}{ex:Ex}(hS:RY T S)
  (hk:∀ T1 S1,RY T1 S1→kY T1=some (ex,T')→∃ S',k S1=some (ex,S')∧RY T' S') (hc:zvD rY B bar top e T o kY=some (ex,T')):∃ S',zc0 r B bar top e S o k=some (ex,S')∧RY T' S':=by
 unfold zvD at hc;rw[zpi hS]at hc;cases hw:wanted S.env o.g with
 | false=>
  rw[hw]at hc;unfold zc0;rw[hw];obtain⟨T2,g1,g2⟩:=zr8 hS hc;exact hk _ _ g1 g2
 | true=>
  rw[hw]at hc;simp only[ztb]at hc;exact ztC hr hS hw hk hc
def zjq(r:RecY)(B:Nat)(bar top e:Bool):List O→KY
 | [],T=>some (.normal,T)
 | o :: l,T=>zvD r B bar top e T o (zjq r B bar top e l)
theorem zix{rY:RecY}{r:Rec}(hr:RRY rY r){B:Nat}{bar top e:Bool}{T':TY}{ex:Ex}:∀(l:List O) (T:TY) (S:St),RY T S→zjq rY B bar top e l T=some (ex,T')→∃ S',zaW r B bar top e l S=some (ex,S')∧RY T' S'
 | [],T,S,hS,hc=>by
  simp only[zjq,qae,qag]at hc;obtain⟨rfl,rfl⟩:=hc;exact⟨S,rfl,hS⟩
 | o :: l,T,S,hS,hc=>ztx hr hS (fun T1 S1 h1 h2=>zix hr l T1 S1 h1 h2) hc
end Go.Mx
