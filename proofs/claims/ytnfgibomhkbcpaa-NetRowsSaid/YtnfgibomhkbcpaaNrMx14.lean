/-
 The machine once more, step by step in full, for the kernel: it computes the same. Conditions: none.
-/
import Derived.Test.YtnfgibomhkbcpaaNrJ25
set_option linter.unusedSimpArgs false
set_option linter.unusedVariables false
namespace Go.Mx
open Go
def zdg{α:Type}(n:Nat)(k:Nat→α):α:=
 match n with
 | .zero=>k .zero
 | .succ m=>k (.succ m)
theorem zcj{α:Type}(n:Nat)(k:Nat→α):zdg n k=k n:=by cases n<;>rfl
def ztN{α:Type}(n:Int)(k:Int→α):α:=
 match n with
 | .ofNat m=>zdg m fun m'=>k (.ofNat m')
 | .negSucc m=>zdg m fun m'=>k (.negSucc m')
theorem zn4{α:Type}(n:Int)(k:Int→α):ztN n k=k n:=by cases n<;>simp[ztN,zcj]
def zse{α:Type}(b:Bool)(k:Bool→α):α:=
 match b with
 | true=>k true
 | false=>k false
theorem zlf{α:Type}(b:Bool)(k:Bool→α):zse b k=k b:=by cases b<;>rfl
def zcX{α β:Type}(l:List β)(k:List β→α):α:=
 match l with
 | []=>k []
 | x :: r=>zcX r fun r'=>k (x :: r')
theorem zcu{α β:Type}:∀(l:List β) (k:List β→α),zcX l k=k l
 | [],_=>rfl
 | x :: r,k=>by simp[zcX,zcu r]
def zyv{α:Type}(o:Option Nat)(k:Option Nat→α):α:=
 match o with
 | none=>k none
 | some n=>zdg n fun n'=>k (some n')
theorem zrB{α:Type}(o:Option Nat)(k:Option Nat→α):zyv o k=k o:=by cases o<;>simp[zyv,zcj]
def fcV{α:Type}(v:V)(k:V→α):α:=
 match v with
 | .lit (.int kd n)=>ztN n fun n'=>k (.lit (.int kd n'))
 | .lit (.bool b)=>zse b fun b'=>k (.lit (.bool b'))
 | .lit x=>k (.lit x)
 | .ptr β o=>zdg β fun β'=>zdg o fun o'=>k (.ptr β' o')
 | .sl β o n len cap=>zdg β fun β'=>zdg o fun o'=>zdg n fun n'=>zdg len fun len'=>zyv cap fun cap'=>k (.sl β' o' n' len' cap')
 | .clo f a b=>zcX a fun a'=>zcX b fun b'=>k (.clo f a' b')
 | .agg vs=>zcX vs fun vs'=>k (.agg vs')
 | .tup vs=>zcX vs fun vs'=>k (.tup vs')
 | v=>k v
theorem zxl{α:Type}(v:V)(k:V→α):fcV v k=k v:=by
 cases v with
 | lit x=>cases x<;>simp[fcV,zn4,zlf]
 | _=>simp[fcV,zcj,zrB,zcu]
def zq6{α β:Type}(l:List β)(n:Nat)(v:β)(k:List β→α):α:=
 match l with
 | []=>k []
 | x :: r=>match n with
  | .zero=>k (v :: r)
  | .succ m=>zq6 r m v fun r'=>k (x :: r')
theorem zj2{α β:Type}:∀(l:List β) (n:Nat) (v:β) (k:List β→α),zq6 l n v k=k (l.set n v)
 | [],n,v,k=>by simp[zq6]
 | x :: r,0,v,k=>by simp[zq6]
 | x :: r,n+1,v,k=>by simp[zq6,zj2 r n]
def nth{β:Type}(l:List β)(n:Nat):Option β:=
 match l with
 | []=>none
 | x :: r=>match n with
  | .zero=>some x
  | .succ m=>nth r m
theorem zgj{β:Type}:∀(l:List β) (n:Nat),nth l n=l[n]?
 | [],n=>by simp[nth]
 | x :: r,0=>by simp[nth]
 | x :: r,n+1=>by simp[nth,zgj r n]
def zyN(h:zak)(β:Nat):Option (List V):=
 match nth h β with
 | some (.blk cs)=>some cs
 | _=>none
theorem zqw(h:zak)(β:Nat):zyN h β=zaB h β:=by simp only[zyN,zaB,zgj]; rfl
def zpN(g:X→Option V)(x:X):Option Int:=match g x with | some (.lit (.int _ n))=>some n | _=>none
def zyr(g:X→Option V)(x:X):Option Bool:=match g x with | some (.lit (.bool b))=>some b | _=>none
def znj(g:X→Option V):Option X→Option (Option Int)
 | none=>some none
 | some x=>(zpN g x).map some
def zll(cs:List V)(o:Nat):Option Nat→Option V
 | none=>nth cs o
 | some n=>(slot o n cs).map .agg
theorem zhx(cs:List V)(o:Nat)(n:Option Nat):zll cs o n=takeN cs o n:=by cases n<;>simp[zll,takeN,zgj]
def zsY(g:X→Option V)(cs:List V):List (Nat×Nat×X)→Option (List V)
 | []=>some cs
 |(off,n,x):: r=>match (g x).bind V.cells with
  | some l=>bif (l.length == n) && Nat.ble (off+n) cs.length then zcX (zbq cs off l) fun cs'=>zsY g cs' r else none
  | none=>none
theorem zox(env:List V):∀(ps:List (Nat×Nat×X)) (cs:List V),zsY (ev env) cs ps=zfb env cs ps
 | [],cs=>rfl
 |(off,n,x):: r,cs=>by
  simp only[zsY,zfb,zcu,zox env r]; rfl
def zzp(blk:Nat→Option (List V))(β n:Nat):Bool:=match blk β with | some cs=>Nat.ble n cs.length | none=>false
def zt5(g:X→Option V)(blk:Nat→Option (List V))(β:Nat)(x:X):Bool:=match g x with
 | some (.ptr γ _)=>(match blk γ with | some _=>true | none=>false) && !(γ == β)
 | _=>false
def zvY(g:X→Option V)(blk:Nat→Option (List V))(xs:List X)(y:X):Bool:=match g y with
 | some v=>(match zp0 v with
  | some β=>xs.all (zt5 g blk β)
  | none=>true)
 | none=>false
theorem ztu(h:zak)(env:List V)(xs:List X)(y:X):zvY (ev env) (zaB h) xs y=zpW h env xs y:=by
 have hb:∀ β,zt5 (ev env) (zaB h) β=zvF h env β:=by
  intro β
  funext x
  simp only[zt5,zvF];cases ev env x with
  | none=>rfl
  | some v=>
   cases v with
   | ptr γ o=>simp only[]; cases zaB h γ<;>rfl
   | _=>rfl
 simp only[zvY,zpW];cases ev env y with
 | none=>rfl
 | some v=>
  simp only[];cases zp0 v with
  | none=>rfl
  | some β=>simp only[show zt5 (ev env) (zaB h)=zvF h env from funext hb]
def qG(g:X→Option V)(gs:List X→Option (List V))(blk:Nat→Option (List V)):I→Option V
 | .mov x=>g x
 | .avo xs y=>bif zvY g blk xs y then some zaV else none
 | .pick c a b=>(match zyr g c with
  | some true=>g a
  | some false=>g b
  | none=>none)
 | .build z parts=>(zsY g (z.map .lit) parts).map .agg
 | .load n x=>(match g x with
  | some (.ptr β o)=>(match blk β with
   | some cs=>zll cs o n
   | none=>none)
  | _=>none)
 | .fld off x=>(match g x with
  | some (.ptr β o)=>some (.ptr β (o+off))
  | _=>none)
 | .idxS n x i=>(match g x,zpN g i with
  | some (.sl β o n' len _),some m=>bif (n == n') && decide (0≤m) && decide (m<len)then some (.ptr β (o+m.toNat * n))else none
  | _,_=>none)
 | .idxA n cnt x i=>(match g x,zpN g i with
  | some (.ptr β o),some m=>bif decide (0≤m) && decide (m<cnt)then some (.ptr β (o+m.toNat * n))else none
  | _,_=>none)
 | .idxV n cnt x i=>(match g x,zpN g i with
  | some (.agg vs),some m=>bif decide (0≤m) && decide (m<cnt)then zll vs (m.toNat * n.getD 1) n else none
  | _,_=>none)
 | .part n off x=>(match g x with
  | some (.agg vs)=>zll vs off n
  | _=>none)
 | .bin op x y=>(match g x,g y with
  | some v,some v'=>zmj op v v'
  | _,_=>none)
 | .eqb neg x y=>(match zyr g x,zyr g y with
  | some a,some b=>some (.lit (.bool (bif neg then !(a == b)else(a == b))))
  | _,_=>none)
 | .eqn neg x=>(match g x with
  | some (.lit (.slice none 0 0))=>some (.lit (.bool !neg))
  | some (.sl ..)=>some (.lit (.bool neg))
  | _=>none)
 | .eqi neg x=>(match g x with
  | some (.lit .nilIface)=>some (.lit (.bool !neg))
  | some (.ifc ..)=>some (.lit (.bool neg))
  | _=>none)
 | .eqp neg x=>(match g x with
  | some (.lit (.pointer none))=>some (.lit (.bool !neg))
  | some (.ptr ..)=>some (.lit (.bool neg))
  | _=>none)
 | .un op x=>(match g x with
  | some v=>unV op v
  | none=>none)
 | .conv k x=>(match zpN g x with
  | some m=>some (.lit (.int k (k.wrap m)))
  | none=>none)
 | .len x=>(match g x with
  | some v=>zxn v
  | none=>none)
 | .mm b xs=>(match gs xs with
  | some (v :: vs)=>mms b v vs
  | _=>none)
 | .ext x i=>(match g x with
  | some (.tup vs)=>nth vs i
  | _=>none)
 | .slc n x lo hi mx=>(match g x,znj g lo,znj g hi,znj g mx with
  | some v,some l,some hh,some m=>zwT blk n l hh m v
  | _,_,_,_=>none)
 | .slcA n cnt x lo hi mx=>(match g x,znj g lo,znj g hi,znj g mx with
  | some (.ptr β o),some l,some hh,some m=>bif Nat.blt 0 n && Nat.blt cnt (2 ^ 63) && zzp blk β (o+cnt * n)then(bounds cnt (some cnt) l hh m).map fun(l,hh,c)=>.sl β (o+l * n) n (hh - l) c else none
  | _,_,_,_=>none)
 | .nilck x=>(match g x with
  | some (.ptr β o)=>some (.ptr β o)
  | some (.clo f a b)=>some (.clo f a b)
  | _=>none)
 | .clo f first cap=>(match gs first,gs cap with
  | some vs,some vs'=>some (.clo f vs vs')
  | _,_=>none)
 | .mkI t x=>(match g x with
  | some v=>some (.ifc t v)
  | none=>none)
 | .chr l i=>(match zpN g i with
  | some m=>bif decide (0≤m)then(match nth l m.toNat with
   | some b=>some (.lit (.int .u8 (Int.ofNat b)))
   | none=>none)else none
  | none=>none)
 | _=>none
theorem zq8(env:List V)(x:X):zpN (ev env) x=evI env x:=rfl
theorem zn8(env:List V)(x:Option X):znj (ev env) x=zpv env x:=by cases x<;>rfl
theorem zy2(h:zak)(env:List V)(i:I):qG (ev env) (evs env) (zaB h) i=q h env i:=by
 cases i with
 | build z ps=>simp only[qG,q,zox]
 | avo xs y=>simp only[qG,q,ztu]
 | load n x=>
  simp only[qG,q,zhx];cases ev env x with
  | none=>rfl
  | some v=>
   cases v<;>first | rfl | (simp only[]; cases zaB h _<;>rfl)
 | idxV n cnt x i=>simp only[qG,q,zhx,zq8]; rfl
 | part n off x=>simp only[qG,q,zhx]; rfl
 | ext x i=>simp only[qG,q,zgj]; rfl
 | un op x=>simp only[qG,q]; cases ev env x<;>rfl
 | len x=>simp only[qG,q]; cases ev env x<;>rfl
 | mkI t x=>simp only[qG,q]; cases ev env x<;>rfl
 | chr l i=>
  simp only[qG,q,zq8,zgj];cases evI env i with
  | none=>rfl
  | some m=>simp only[]; cases l[m.toNat]?<;>rfl
 | slc n x lo hi mx=>simp only[qG,q,zn8]; rfl
 | slcA n cnt x lo hi mx=>simp only[qG,q,zn8]; rfl
 | _=>rfl
def zxx{α:Type}(o:Ob)(k:Ob→α):α:=
 match o with
 | .blk cs=>zcX cs fun cs'=>k (.blk cs')
 | o=>k o
theorem zmu{α:Type}(o:Ob)(k:Ob→α):zxx o k=k o:=by cases o<;>simp[zxx,zcu]
def zko{α:Type}(env:List V)(ps:List Nat)(vs:List V)(k:List V→Option α):Option α:=
 match ps,vs with
 | [],[]=>k env
 | p :: ps,v :: vs=>fcV v fun v'=>zq6 env p v' fun env'=>zko env' ps vs k
 | _,_=>none
theorem ziU{α:Type}:∀(ps:List Nat) (vs:List V) (env:List V) (k:List V→Option α),zko env ps vs k=(match ze8 env ps vs with | some e=>k e | none=>none)
 | [],[],env,k=>rfl
 | p :: ps,v :: vs,env,k=>by simp only[zko,ze8,zxl,zj2,ziU ps vs]
 | [],_ :: _,_,_=>rfl
 | _ :: _,[],_,_=>rfl
def ziq(h:zak)(env:List V):RX→Option V
 | .tmp k=>nth env k
 | .cell k n=>(match nth env k with
  | some (.ptr β o)=>(match zyN h β with
   | some cs=>zll cs o n
   | none=>none)
  | _=>none)
theorem zpm(h:zak)(env:List V)(x:RX):ziq h env x=zfE h env x:=by
 cases x with
 | tmp k=>simp[ziq,zfE,zgj]
 | cell k n=>
  simp only[ziq,zfE,zgj,zqw,zhx];cases env[k]? with
  | none=>rfl
  | some v=>cases v<;>first | rfl | (simp only[]; cases zaB h _<;>rfl)
end Go.Mx
