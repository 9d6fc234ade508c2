/-
 The machine with tries: one operation. Conditions: none.
-/
import Derived.Test.YtbjogdohfhdaiaaGreatESMx20
set_option linter.unusedSimpArgs false
set_option linter.unusedVariables false
namespace Go.Mx
open Go
abbrev Sy:=RecY→Nat→Bool→Bool→Bool→TY→O→KY→Option (Ex×TY)
def zgV(v:Option V)(T:TY)(o:O)(k:KY):Option (Ex×TY):=
 match v with
 | some v=>zt7 T o.dst v k
 | none=>none
def zsA(e:Option EffR)(T:TY)(o:O)(k:KY):Option (Ex×TY):=
 match e with
 | some e=>apY T.hp e fun v H=>zt7 (zsa T H) o.dst v k
 | none=>none
def zfC(i:I):Sy:=fun _ B _ _ _ T o k=>
 bif zag i then zgV (qF (evY T) (zvV T) (zrd T.hp) i) T o k else zsA (zu5 B (zrd T.hp) (evY T) i) T o k
def zzU(e:Bool)(o:O)(T:TY)(x:Option (CR×HY))(k:KY):Option (Ex×TY):=
 match x with
 | some (.ret v,H)=>zt7 (zsa T H) o.dst v k
 | some (.pan v,H)=>some (.panic v e,zsa T H)
 | none=>none
def zzc(f:Nat)(vs:Option (List V)):Sy:=fun r B bar _ e T o k=>
 match vs with
 | some vs=>zcS (bif zph bar f then T.hp.n else B) fun B'=>zAK T fun H=>zzU e o T (r.call B' f vs H) k
 | none=>none
def zxM(f:Nat)(xs:List X):Sy:=fun r B bar top e T o k=>zzc f (zvV T xs) r B bar top e T o k
def zv6(v:Option V)(vs:Option (List V)):Sy:=fun r B bar _ e T o k=>
 match v with
 | some v=>(match vs with
  | some vs=>zcS (bif bar then T.hp.n else B) fun B'=>zAK T fun H=>zzU e o T (zrJ r B' v vs H) k
  | none=>none)
 | none=>none
def zsb(x:X)(xs:List X):Sy:=fun r B bar top e T o k=>zv6 (evY T x) (zvV T xs) r B bar top e T o k
def zvv(v:Option V)(e:Bool)(T:TY):Option (Ex×TY):=
 match v with
 | some (.ifc t v)=>some (.panic (.ifc t v) e,T)
 | _=>none
def zsi(x:X):Sy:=fun _ _ _ _ e T _ _=>zvv (evY T x) e T
def zvD(v:Option V)(vs:Option (List V))(top:Bool)(T:TY)(o:O)(k:KY):Option (Ex×TY):=
 match v with
 | some (.clo f first cap)=>(match vs with
  | some vs=>bif top then zcH (first ++ vs ++ cap) fun l=>zt7 ⟨T.N,T.env,.fn f l :: T.dfs,T.hp⟩ o.dst zaT k else none
  | none=>none)
 | _=>none
def zsO(x:X)(xs:List X):Sy:=fun _ _ _ top _ T o k=>zvD (evY T x) (zvV T xs) top T o k
def zhv(i:I):Sy:=
 match i with
 | .call f xs=>zxM f xs
 | .zde x xs=>zsb x xs
 | .panic x=>zsi x
 | .defer x xs=>zsO x xs
 | i=>zfC i
theorem ztV{rY:RecY}{r:Rec}(hr:RRY rY r){B:Nat}{bar top e:Bool}{T T':TY}{S:St}{o:O}{kY:KY}{k:St→Option (Ex×St)}{ex:Ex}(hS:RY T S)(hw:wanted S.env o.g=true)
  (hk:∀ T1 S1,RY T1 S1→kY T1=some (ex,T')→∃ S',k S1=some (ex,S')∧RY T' S') (hc:zhv o.i rY B bar top e T o kY=some (ex,T')):∃ S',zcq r B bar top e S o k=some (ex,S')∧RY T' S':=by
 have hput:∀ {T1:TY} {S1:St} {v:V},RY T1 S1→zt7 T1 o.dst v kY=some (ex,T')→∃ S',k (S1.put o.dst v)=some (ex,S')∧RY T' S':=by
  intro T1 S1 v h1 h2;obtain⟨T2,g1,g2⟩:=zsU h1 h2;exact hk _ _ g1 g2
 have hfin:∀ {x:Option (CR×HY)} {y:Option (CR×zaj)},(∀ cr H',x=some (cr,H')→∃ h',y=some (cr,h')∧zeE H' h')→zzU e o T x kY=some (ex,T')→∃ S',zmY e o S y k=some (ex,S')∧RY T' S':=by
  intro x y hxy hf;unfold zzU at hf;split at hf
  ·rename_i v H;obtain⟨h',g1,g2⟩:=hxy _ _ rfl;rw[g1];exact hput (hS.heap g2) hf
  ·rename_i v H;obtain⟨h',g1,g2⟩:=hxy _ _ rfl;rw[g1];simp only[qad,qag]at hf;obtain⟨rfl,rfl⟩:=hf;exact⟨_,rfl,hS.heap g2⟩
  cases hf
 have hn:T.hp.n=S.heap.length:=hS.2.2.2.1;unfold zcq;rw[hw];simp only[];have plain:∀ i,zfC i rY B bar top e T o kY=some (ex,T')→
   ∃ S',(bif zag i then(match q S.heap S.env i with | some v=>k (S.put o.dst v)| none=>none)else(match eff B S.heap S.env i with | some (v,h)=>k ({ S with heap:=h }.put o.dst v)| none=>none))=some (ex,S')∧RY T' S':=by
  intro i hi;unfold zfC at hi;rw[show evY T=ev S.env from funext (zis hS),show zvV T=evs S.env from funext (ziP hS),show zrd T.hp=zaq S.heap from funext (znK hS.2.2.2)]at hi;cases hq:zag i with
  | true=>
   rw[hq,cond_true,zAp,zAM]at hi;simp only[cond_true];unfold zgV at hi;split at hi
   ·exact hput hS hi
   ·cases hi
  | false=>
   rw[hq,cond_false]at hi;simp only[cond_false];rw[← zwv];unfold zsA at hi;split at hi
   ·rename_i er her;rw[her];obtain⟨H',g1,g2⟩:=zvk hS.2.2.2 hi;simp only[qaU];exact hput (hS.heap g1) g2
   cases hi
 cases hi:o.i with
 | call f xs=>
  rw[hi]at hc;simp only[zhv,zxM,zzc,ziP hS,zbK,hn,zsh]at hc;simp only[];split at hc
  ·rename_i vs hvs;rw[hvs];exact hfin (fun cr H' hz=>hr.call _ _ _ _ _ _ _ hS.2.2.2 hz) hc
  ·cases hc
 | zde x xs=>
  rw[hi]at hc;simp only[zhv,zsb,zv6,ziP hS,zis hS,zbK,hn,zsh]at hc;simp only[];split at hc
  ·rename_i v hv;split at hc
   ·rename_i vs hvs;rw[hv,hvs];exact hfin (fun cr H' hz=>zsY hr hS.2.2.2 hz) hc
   cases hc
  ·cases hc
 | panic x=>
  rw[hi]at hc;simp only[zhv,zsi,zvv,zis hS]at hc;simp only[];split at hc
  ·rename_i t v hv;rw[hv];simp only[qad,qag]at hc;obtain⟨rfl,rfl⟩:=hc;exact⟨S,rfl,hS⟩
  ·cases hc
 | defer x xs=>
  rw[hi]at hc;simp only[zhv,zsO,zvD,ziP hS,zis hS,zck]at hc;simp only[];split at hc
  ·rename_i f first cap hv
   split at hc
   ·rename_i vs hvs;rw[hv,hvs];cases top with
    | true=>
     simp only[cond_true]at hc ⊢;exact hput (T1:=⟨T.N,T.env,.fn f (first ++ vs ++ cap):: T.dfs,T.hp⟩) (S1:={ S with dfs:=.fn f (first ++ vs ++ cap):: S.dfs }) ⟨hS.1,hS.2.1,by rw[hS.2.2.1],hS.2.2.2⟩ hc
    | false=>simp only[cond_false]at hc; cases hc
   cases hc
  ·cases hc
 | _=>rw[hi]at hc; exact plain _ hc
def zoF(p:Option V)(H:HY)(n:Option Nat):Option V:=
 match p with
 | some (.ptr β o)=>(match zrd H β with
  | some cs=>zl0 cs o n
  | none=>none)
 | _=>none
def zvr(c:Option Bool)(T:TY)(a b:X):Option V:=
 match c with
 | some true=>evY T a
 | some false=>evY T b
 | none=>none
def zB8(x:X):Sy:=fun _ _ _ _ _ T o k=>zgV (evY T x) T o k
def zyI(n:Option Nat)(x:X):Sy:=fun _ _ _ _ _ T o k=>zgV (zoF (evY T x) T.hp n) T o k
def zCx(off:Nat)(x:X):Sy:=fun _ _ _ _ _ T o k=>zgV (zBq (evY T x) off) T o k
def zx9(n:Nat)(x i:X):Sy:=fun _ _ _ _ _ T o k=>zgV (zze n (evY T x) (zzy (evY T i))) T o k
def zyQ(n cnt:Nat)(x i:X):Sy:=fun _ _ _ _ _ T o k=>zgV (zys n cnt (evY T x) (zzy (evY T i))) T o k
def zBa(op:BinOp)(x y:X):Sy:=fun _ _ _ _ _ T o k=>zgV (zBi (bOp op) (intOf (evY T x)) (intOf (evY T y))) T o k
def zzi(kd:IntKind)(x:X):Sy:=fun _ _ _ _ _ T o k=>zgV (zyN kd (intOf (evY T x))) T o k
def zzd(c a b:X):Sy:=fun _ _ _ _ _ T o k=>zgV (zvr (zoA (evY T c)) T a b) T o k
def yUn(op:UnOp)(x:X):Sy:=fun _ _ _ _ _ T o k=>zgV (xUn op (evY T x)) T o k
def zCu(x:X):Sy:=fun _ _ _ _ _ T o k=>zgV (zBX (evY T x)) T o k
def zCt(x:X)(i:Nat):Sy:=fun _ _ _ _ _ T o k=>zgV (zCb (evY T x) i) T o k
def zy7(z:List Value):Sy:=fun _ _ _ _ _ T o k=>znI T.hp (.blk (z.map .lit)) fun n H=>zt7 (zsa T H) o.dst (.ptr n 0) k
def zCq(x:X):Sy:=fun _ _ _ _ _ T o k=>zsA (zA3 (zb9 (evY T x))) T o k
def zyA(n:Nat)(a x:X):Sy:=fun _ B _ _ _ T o k=>zsA (zrk B (zrd T.hp) n (evY T a) (zb9 (evY T x))) T o k
def zBu(n bytes:Nat)(s x:X):Sy:=fun _ B _ _ _ T o k=>zsA (zAQ B (zrd T.hp) n bytes (evY T s) ((evY T x).bind (zxW (zrd T.hp) n))) T o k
def zlz(i:I):Sy:=
 match i with
 | .mov x=>zB8 x
 | .load n x=>zyI n x
 | .fld off x=>zCx off x
 | .idxS n x i=>zx9 n x i
 | .idxA n cnt x i=>zyQ n cnt x i
 | .bin op x y=>zBa op x y
 | .conv k x=>zzi k x
 | .pick c a b=>zzd c a b
 | .un op x=>yUn op x
 | .len x=>zCu x
 | .ext x i=>zCt x i
 | .call f xs=>zxM f xs
 | .zde x xs=>zsb x xs
 | .panic x=>zsi x
 | .defer x xs=>zsO x xs
 | .alloc z=>zy7 z
 | .box x=>zCq x
 | .store n a x=>zyA n a x
 | .app n bytes s x=>zBu n bytes s x
 | i=>zfC i
theorem zuO(i:I)(r:RecY)(B:Nat)(bar top e:Bool)(T:TY)(o:O)(k:KY):zlz i r B bar top e T o k=zhv i r B bar top e T o k:=by
 cases i with
 | load n x=>
  simp only[zlz,zhv,zfC,zyI,zag,cond_true,qF,zoF];rfl
 | idxS n x i=>
  simp only[zlz,zhv,zfC,zx9,zag,cond_true,qF,zze];cases evY T x with
  | none=>rfl
  | some v=>
   cases v with
   | sl β o n' len c=>
    simp only[];cases evY T i with
    | none=>rfl
    | some w=>
     cases w with
     | lit y=>
      cases y with
      | int kd m=>cases m<;>rfl
      | _=>rfl
     | _=>rfl
   | _=>rfl
 | idxA n cnt x i=>
  simp only[zlz,zhv,zfC,zyQ,zag,cond_true,qF,zys];cases evY T x with
  | none=>rfl
  | some v=>
   cases v with
   | ptr β o=>
    simp only[];cases evY T i with
    | none=>rfl
    | some w=>
     cases w with
     | lit y=>
      cases y with
      | int kd m=>cases m<;>rfl
      | _=>rfl
     | _=>rfl
   | _=>rfl
 | bin op x y=>
  simp only[zlz,zhv,zfC,zBa,zag,cond_true,qF,zwc];rfl
 | conv kd x=>
  simp only[zlz,zhv,zfC,zzi,zag,cond_true,qF,zyN];cases evY T x with
  | none=>rfl
  | some v=>
   cases v with
   | lit y=>cases y<;>rfl
   | _=>rfl
 | pick c a b=>
  simp only[zlz,zhv,zfC,zzd,zag,cond_true,qF,qG,zzW,zvr];cases evY T c with
  | none=>rfl
  | some v=>
   cases v with
   | lit y=>
    cases y with
    | bool b=>cases b<;>rfl
    | _=>rfl
   | _=>rfl
 | _=>rfl
def zxD:Sy:=fun r B bar top e T o k=>
 match zm1 T o.g with
 | false=>zt7 T o.dst zaT k
 | true=>zlz o.i r B bar top e T o k
theorem zuQ{rY:RecY}{r:Rec}(hr:RRY rY r){B:Nat}{bar top e:Bool}{T T':TY}{S:St}{o:O}{kY:KY}{k:St→Option (Ex×St)}{ex:Ex}(hS:RY T S)
  (hk:∀ T1 S1,RY T1 S1→kY T1=some (ex,T')→∃ S',k S1=some (ex,S')∧RY T' S') (hc:zxD rY B bar top e T o kY=some (ex,T')):∃ S',zcq r B bar top e S o k=some (ex,S')∧RY T' S':=by
 unfold zxD at hc;rw[zpv hS]at hc;cases hw:wanted S.env o.g with
 | false=>
  rw[hw]at hc;unfold zcq;rw[hw];obtain⟨T2,g1,g2⟩:=zsU hS hc;exact hk _ _ g1 g2
 | true=>
  rw[hw]at hc;simp only[zuO]at hc;exact ztV hr hS hw hk hc
def zj5(r:RecY)(B:Nat)(bar top e:Bool):List O→KY
 | [],T=>some (.normal,T)
 | o :: l,T=>zxD r B bar top e T o (zj5 r B bar top e l)
theorem zju{rY:RecY}{r:Rec}(hr:RRY rY r){B:Nat}{bar top e:Bool}{T':TY}{ex:Ex}:∀(l:List O) (T:TY) (S:St),RY T S→zj5 rY B bar top e l T=some (ex,T')→∃ S',zaW r B bar top e l S=some (ex,S')∧RY T' S'
 | [],T,S,hS,hc=>by
  simp only[zj5,qad,qag]at hc;obtain⟨rfl,rfl⟩:=hc;exact⟨S,rfl,hS⟩
 | o :: l,T,S,hS,hc=>zuQ hr hS (fun T1 S1 h1 h2=>zju hr l T1 S1 h1 h2) hc
end Go.Mx
