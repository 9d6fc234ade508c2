/-
 The machine with tries: one operation. Conditions: none.
-/
import Derived.Test.YtifdmgbehogecaaNhMx20
set_option linter.unusedSimpArgs false
set_option linter.unusedVariables false
namespace Go.Mx
open Go
abbrev Sy:=RecY→Nat→Bool→Bool→Bool→TY→O→KY→Option (Ex×TY)
def zgs(v:Option V)(T:TY)(o:O)(k:KY):Option (Ex×TY):=
 match v with
 | some v=>zqT T o.dst v k
 | none=>none
def zpl(e:Option EffR)(T:TY)(o:O)(k:KY):Option (Ex×TY):=
 match e with
 | some e=>apY T.hp e fun v H=>zqT (zpc T H) o.dst v k
 | none=>none
def zfk(i:I):Sy:=fun _ B _ _ _ T o k=>
 bif zam i then zgs (qF (evY T) (zsd T) (zoI T.hp) i) T o k else zpl (zrp B (zoI T.hp) (evY T) i) T o k
def zv3(e:Bool)(o:O)(T:TY)(x:Option (CR×HY))(k:KY):Option (Ex×TY):=
 match x with
 | some (.ret v,H)=>zqT (zpc T H) o.dst v k
 | some (.pan v,H)=>some (.panic v e,zpc T H)
 | none=>none
def zuK(f:Nat)(vs:Option (List V)):Sy:=fun r B bar _ e T o k=>
 match vs with
 | some vs=>zdi (bif bar then T.hp.n else B) fun B'=>zwL T fun H=>zv3 e o T (r.call B' f vs H) k
 | none=>none
def ztv(f:Nat)(xs:List X):Sy:=fun r B bar top e T o k=>zuK f (zsd T xs) r B bar top e T o k
def zsz(v:Option V)(vs:Option (List V)):Sy:=fun r B bar _ e T o k=>
 match v with
 | some v=>(match vs with
  | some vs=>zdi (bif bar then T.hp.n else B) fun B'=>zwL T fun H=>zv3 e o T (zoR r B' v vs H) k
  | none=>none)
 | none=>none
def zqI(x:X)(xs:List X):Sy:=fun r B bar top e T o k=>zsz (evY T x) (zsd T xs) r B bar top e T o k
def zsH(v:Option V)(e:Bool)(T:TY):Option (Ex×TY):=
 match v with
 | some (.ifc t v)=>some (.panic (.ifc t v) e,T)
 | _=>none
def zqg(x:X):Sy:=fun _ _ _ _ e T _ _=>zsH (evY T x) e T
def zsp(v:Option V)(vs:Option (List V))(top:Bool)(T:TY)(o:O)(k:KY):Option (Ex×TY):=
 match v with
 | some (.clo f first cap)=>(match vs with
  | some vs=>bif top then zcO (first ++ vs ++ cap) fun l=>zqT ⟨T.N,T.env,.fn f l :: T.dfs,T.hp⟩ o.dst zaR k else none
  | none=>none)
 | _=>none
def zqA(x:X)(xs:List X):Sy:=fun _ _ _ top _ T o k=>zsp (evY T x) (zsd T xs) top T o k
def zgC(i:I):Sy:=
 match i with
 | .call f xs=>ztv f xs
 | .zbU x xs=>zqI x xs
 | .panic x=>zqg x
 | .defer x xs=>zqA x xs
 | i=>zfk i
theorem zro{rY:RecY}{r:Rec}(hr:RRY rY r){B:Nat}{bar top e:Bool}{T T':TY}{S:St}{o:O}{kY:KY}{k:St→Option (Ex×St)}{ex:Ex}(hS:RY T S)(hw:wanted S.env o.g=true)
  (hk:∀ T1 S1,RY T1 S1→kY T1=some (ex,T')→∃ S',k S1=some (ex,S')∧RY T' S') (hc:zgC o.i rY B bar top e T o kY=some (ex,T')):∃ S',zcw r B bar top e S o k=some (ex,S')∧RY T' S':=by
 have hput:∀ {T1:TY} {S1:St} {v:V},RY T1 S1→zqT T1 o.dst v kY=some (ex,T')→∃ S',k (S1.put o.dst v)=some (ex,S')∧RY T' S':=by
  intro T1 S1 v h1 h2;obtain⟨T2,g1,g2⟩:=zoE h1 h2;exact hk _ _ g1 g2
 have hfin:∀ {x:Option (CR×HY)} {y:Option (CR×zaq)},(∀ cr H',x=some (cr,H')→∃ h',y=some (cr,h')∧zer H' h')→zv3 e o T x kY=some (ex,T')→∃ S',zlm e o S y k=some (ex,S')∧RY T' S':=by
  intro x y hxy hf;unfold zv3 at hf;split at hf
  ·rename_i v H;obtain⟨h',g1,g2⟩:=hxy _ _ rfl;rw[g1];exact hput (hS.heap g2) hf
  ·rename_i v H;obtain⟨h',g1,g2⟩:=hxy _ _ rfl;rw[g1];simp only[qad,qaf]at hf;obtain⟨rfl,rfl⟩:=hf;exact⟨_,rfl,hS.heap g2⟩
  cases hf
 have hn:T.hp.n=S.heap.length:=hS.2.2.2.1;unfold zcw;rw[hw];simp only[];have plain:∀ i,zfk i rY B bar top e T o kY=some (ex,T')→
   ∃ S',(bif zam i then(match q S.heap S.env i with | some v=>k (S.put o.dst v)| none=>none)else(match eff B S.heap S.env i with | some (v,h)=>k ({ S with heap:=h }.put o.dst v)| none=>none))=some (ex,S')∧RY T' S':=by
  intro i hi;unfold zfk at hi;rw[show evY T=ev S.env from funext (zhc hS),show zsd T=evs S.env from funext (zgX hS),show zoI T.hp=zaN S.heap from funext (zlY hS.2.2.2)]at hi;cases hq:zam i with
  | true=>
   rw[hq,cond_true,zwP,zwR]at hi;simp only[cond_true];unfold zgs at hi;split at hi
   ·exact hput hS hi
   ·cases hi
  | false=>
   rw[hq,cond_false]at hi;simp only[cond_false];rw[← zs3];unfold zpl at hi;split at hi
   ·rename_i er her;rw[her];obtain⟨H',g1,g2⟩:=zvC hS.2.2.2 hi;simp only[qaK];exact hput (hS.heap g1) g2
   cases hi
 cases hi:o.i with
 | call f xs=>
  rw[hi]at hc;simp only[zgC,ztv,zuK,zgX hS,zch,hn,zqE]at hc;simp only[];split at hc
  ·rename_i vs hvs;rw[hvs];exact hfin (fun cr H' hz=>hr.call _ _ _ _ _ _ _ hS.2.2.2 hz) hc
  ·cases hc
 | zbU x xs=>
  rw[hi]at hc;simp only[zgC,zqI,zsz,zgX hS,zhc hS,zch,hn,zqE]at hc;simp only[];split at hc
  ·rename_i v hv;split at hc
   ·rename_i vs hvs;rw[hv,hvs];exact hfin (fun cr H' hz=>zp4 hr hS.2.2.2 hz) hc
   cases hc
  ·cases hc
 | panic x=>
  rw[hi]at hc;simp only[zgC,zqg,zsH,zhc hS]at hc;simp only[];split at hc
  ·rename_i t v hv;rw[hv];simp only[qad,qaf]at hc;obtain⟨rfl,rfl⟩:=hc;exact⟨S,rfl,hS⟩
  ·cases hc
 | defer x xs=>
  rw[hi]at hc;simp only[zgC,zqA,zsp,zgX hS,zhc hS,zcn]at hc;simp only[];split at hc
  ·rename_i f first cap hv
   split at hc
   ·rename_i vs hvs;rw[hv,hvs];cases top with
    | true=>
     simp only[cond_true]at hc ⊢;exact hput (T1:=⟨T.N,T.env,.fn f (first ++ vs ++ cap):: T.dfs,T.hp⟩) (S1:={ S with dfs:=.fn f (first ++ vs ++ cap):: S.dfs }) ⟨hS.1,hS.2.1,by rw[hS.2.2.1],hS.2.2.2⟩ hc
    | false=>simp only[cond_false]at hc; cases hc
   cases hc
  ·cases hc
 | _=>rw[hi]at hc; exact plain _ hc
def zmy(p:Option V)(H:HY)(n:Option Nat):Option V:=
 match p with
 | some (.ptr β o)=>(match zoI H β with
  | some cs=>zkh cs o n
  | none=>none)
 | _=>none
def zr3(c:Option Bool)(T:TY)(a b:X):Option V:=
 match c with
 | some true=>evY T a
 | some false=>evY T b
 | none=>none
def zxr(x:X):Sy:=fun _ _ _ _ _ T o k=>zgs (evY T x) T o k
def zuq(n:Option Nat)(x:X):Sy:=fun _ _ _ _ _ T o k=>zgs (zmy (evY T x) T.hp n) T o k
def zxD(off:Nat)(x:X):Sy:=fun _ _ _ _ _ T o k=>zgs (zxU (evY T x) off) T o k
def zum(n:Nat)(x i:X):Sy:=fun _ _ _ _ _ T o k=>zgs (zuS n (evY T x) (zun (evY T i))) T o k
def zu1(n cnt:Nat)(x i:X):Sy:=fun _ _ _ _ _ T o k=>zgs (zt9 n cnt (evY T x) (zun (evY T i))) T o k
def zxm(op:BinOp)(x y:X):Sy:=fun _ _ _ _ _ T o k=>zgs (zxc (bOp op) (intOf (evY T x)) (intOf (evY T y))) T o k
def zva(kd:IntKind)(x:X):Sy:=fun _ _ _ _ _ T o k=>zgs (zvy kd (intOf (evY T x))) T o k
def zvW(c a b:X):Sy:=fun _ _ _ _ _ T o k=>zgs (zr3 (zng (evY T c)) T a b) T o k
def yUn(op:UnOp)(x:X):Sy:=fun _ _ _ _ _ T o k=>zgs (xUn op (evY T x)) T o k
def zxY(x:X):Sy:=fun _ _ _ _ _ T o k=>zgs (zxv (evY T x)) T o k
def zxT(x:X)(i:Nat):Sy:=fun _ _ _ _ _ T o k=>zgs (zxF (evY T x) i) T o k
def zvm(z:List Value):Sy:=fun _ _ _ _ _ T o k=>zjt T.hp (.blk (z.map .lit)) fun n H=>zqT (zpc T H) o.dst (.ptr n 0) k
def zxM(x:X):Sy:=fun _ _ _ _ _ T o k=>zpl (zxl (zcj (evY T x))) T o k
def zuM(n:Nat)(a x:X):Sy:=fun _ B _ _ _ T o k=>zpl (zqy B (zoI T.hp) n (evY T a) (zcj (evY T x))) T o k
def zxW(n bytes:Nat)(s x:X):Sy:=fun _ B _ _ _ T o k=>zpl (zwY B (zoI T.hp) n bytes (evY T s) ((evY T x).bind (ztW (zoI T.hp) n))) T o k
def zk9(i:I):Sy:=
 match i with
 | .mov x=>zxr x
 | .load n x=>zuq n x
 | .fld off x=>zxD off x
 | .idxS n x i=>zum n x i
 | .idxA n cnt x i=>zu1 n cnt x i
 | .bin op x y=>zxm op x y
 | .conv k x=>zva k x
 | .pick c a b=>zvW c a b
 | .un op x=>yUn op x
 | .len x=>zxY x
 | .ext x i=>zxT x i
 | .call f xs=>ztv f xs
 | .zbU x xs=>zqI x xs
 | .panic x=>zqg x
 | .defer x xs=>zqA x xs
 | .alloc z=>zvm z
 | .box x=>zxM x
 | .store n a x=>zuM n a x
 | .app n bytes s x=>zxW n bytes s x
 | i=>zfk i
theorem zrK(i:I)(r:RecY)(B:Nat)(bar top e:Bool)(T:TY)(o:O)(k:KY):zk9 i r B bar top e T o k=zgC i r B bar top e T o k:=by
 cases i with
 | load n x=>
  simp only[zk9,zgC,zfk,zuq,zam,cond_true,qF,zmy];rfl
 | idxS n x i=>
  simp only[zk9,zgC,zfk,zum,zam,cond_true,qF,zuS];cases evY T x with
  | none=>rfl
  | some v=>
   cases v with
   | sl β o n' len c=>
    simp only[];cases evY T i with
    | none=>rfl
    | some w=>
     cases w with
     | lit y=>
      cases y with
      | int kd m=>cases m<;>rfl
      | _=>rfl
     | _=>rfl
   | _=>rfl
 | idxA n cnt x i=>
  simp only[zk9,zgC,zfk,zu1,zam,cond_true,qF,zt9];cases evY T x with
  | none=>rfl
  | some v=>
   cases v with
   | ptr β o=>
    simp only[];cases evY T i with
    | none=>rfl
    | some w=>
     cases w with
     | lit y=>
      cases y with
      | int kd m=>cases m<;>rfl
      | _=>rfl
     | _=>rfl
   | _=>rfl
 | bin op x y=>
  simp only[zk9,zgC,zfk,zxm,zam,cond_true,qF,ztF];rfl
 | conv kd x=>
  simp only[zk9,zgC,zfk,zva,zam,cond_true,qF,zvy];cases evY T x with
  | none=>rfl
  | some v=>
   cases v with
   | lit y=>cases y<;>rfl
   | _=>rfl
 | pick c a b=>
  simp only[zk9,zgC,zfk,zvW,zam,cond_true,qF,qG,zvX,zr3];cases evY T c with
  | none=>rfl
  | some v=>
   cases v with
   | lit y=>
    cases y with
    | bool b=>cases b<;>rfl
    | _=>rfl
   | _=>rfl
 | _=>rfl
def zs2:Sy:=fun r B bar top e T o k=>
 match zlI T o.g with
 | false=>zqT T o.dst zaR k
 | true=>zk9 o.i r B bar top e T o k
theorem zrx{rY:RecY}{r:Rec}(hr:RRY rY r){B:Nat}{bar top e:Bool}{T T':TY}{S:St}{o:O}{kY:KY}{k:St→Option (Ex×St)}{ex:Ex}(hS:RY T S)
  (hk:∀ T1 S1,RY T1 S1→kY T1=some (ex,T')→∃ S',k S1=some (ex,S')∧RY T' S') (hc:zs2 rY B bar top e T o kY=some (ex,T')):∃ S',zcw r B bar top e S o k=some (ex,S')∧RY T' S':=by
 unfold zs2 at hc;rw[znr hS]at hc;cases hw:wanted S.env o.g with
 | false=>
  rw[hw]at hc;unfold zcw;rw[hw];obtain⟨T2,g1,g2⟩:=zoE hS hc;exact hk _ _ g1 g2
 | true=>
  rw[hw]at hc;simp only[zrK]at hc;exact zro hr hS hw hk hc
def zi8(r:RecY)(B:Nat)(bar top e:Bool):List O→KY
 | [],T=>some (.normal,T)
 | o :: l,T=>zs2 r B bar top e T o (zi8 r B bar top e l)
theorem zir{rY:RecY}{r:Rec}(hr:RRY rY r){B:Nat}{bar top e:Bool}{T':TY}{ex:Ex}:∀(l:List O) (T:TY) (S:St),RY T S→zi8 rY B bar top e l T=some (ex,T')→∃ S',zaQ r B bar top e l S=some (ex,S')∧RY T' S'
 | [],T,S,hS,hc=>by
  simp only[zi8,qad,qaf]at hc;obtain⟨rfl,rfl⟩:=hc;exact⟨S,rfl,hS⟩
 | o :: l,T,S,hS,hc=>zrx hr hS (fun T1 S1 h1 h2=>zir hr l T1 S1 h1 h2) hc
end Go.Mx
