/-
 The machine once more, step by step in full, for the kernel: it computes the same. Conditions: none.
-/
import Derived.Test.YtnfgibomhkbcpaaNtJ25
set_option linter.unusedSimpArgs false
set_option linter.unusedVariables false
namespace Go.Mx
open Go
def zdw{α:Type}(n:Nat)(k:Nat→α):α:=
 match n with
 | .zero=>k .zero
 | .succ m=>k (.succ m)
theorem zcm{α:Type}(n:Nat)(k:Nat→α):zdw n k=k n:=by cases n<;>rfl
def zui{α:Type}(n:Int)(k:Int→α):α:=
 match n with
 | .ofNat m=>zdw m fun m'=>k (.ofNat m')
 | .negSucc m=>zdw m fun m'=>k (.negSucc m')
theorem zpp{α:Type}(n:Int)(k:Int→α):zui n k=k n:=by cases n<;>simp[zui,zcm]
def zrV{α:Type}(b:Bool)(k:Bool→α):α:=
 match b with
 | true=>k true
 | false=>k false
theorem zll{α:Type}(b:Bool)(k:Bool→α):zrV b k=k b:=by cases b<;>rfl
def zc4{α β:Type}(l:List β)(k:List β→α):α:=
 match l with
 | []=>k []
 | x :: r=>zc4 r fun r'=>k (x :: r')
theorem zcE{α β:Type}:∀(l:List β) (k:List β→α),zc4 l k=k l
 | [],_=>rfl
 | x :: r,k=>by simp[zc4,zcE r]
def zzG{α:Type}(o:Option Nat)(k:Option Nat→α):α:=
 match o with
 | none=>k none
 | some n=>zdw n fun n'=>k (some n')
theorem zsc{α:Type}(o:Option Nat)(k:Option Nat→α):zzG o k=k o:=by cases o<;>simp[zzG,zcm]
def fcV{α:Type}(v:V)(k:V→α):α:=
 match v with
 | .lit (.int kd n)=>zui n fun n'=>k (.lit (.int kd n'))
 | .lit (.bool b)=>zrV b fun b'=>k (.lit (.bool b'))
 | .lit x=>k (.lit x)
 | .ptr β o=>zdw β fun β'=>zdw o fun o'=>k (.ptr β' o')
 | .sl β o n len cap=>zdw β fun β'=>zdw o fun o'=>zdw n fun n'=>zdw len fun len'=>zzG cap fun cap'=>k (.sl β' o' n' len' cap')
 | .clo f a b=>zc4 a fun a'=>zc4 b fun b'=>k (.clo f a' b')
 | .agg vs=>zc4 vs fun vs'=>k (.agg vs')
 | .tup vs=>zc4 vs fun vs'=>k (.tup vs')
 | v=>k v
theorem zzo{α:Type}(v:V)(k:V→α):fcV v k=k v:=by
 cases v with
 | lit x=>cases x<;>simp[fcV,zpp,zll]
 | _=>simp[fcV,zcm,zsc,zcE]
def zs8{α β:Type}(l:List β)(n:Nat)(v:β)(k:List β→α):α:=
 match l with
 | []=>k []
 | x :: r=>match n with
  | .zero=>k (v :: r)
  | .succ m=>zs8 r m v fun r'=>k (x :: r')
theorem zkv{α β:Type}:∀(l:List β) (n:Nat) (v:β) (k:List β→α),zs8 l n v k=k (l.set n v)
 | [],n,v,k=>by simp[zs8]
 | x :: r,0,v,k=>by simp[zs8]
 | x :: r,n+1,v,k=>by simp[zs8,zkv r n]
def nth{β:Type}(l:List β)(n:Nat):Option β:=
 match l with
 | []=>none
 | x :: r=>match n with
  | .zero=>some x
  | .succ m=>nth r m
theorem zgj{β:Type}:∀(l:List β) (n:Nat),nth l n=l[n]?
 | [],n=>by simp[nth]
 | x :: r,0=>by simp[nth]
 | x :: r,n+1=>by simp[nth,zgj r n]
def zAu(h:zal)(β:Nat):Option (List V):=
 match nth h β with
 | some (.blk cs)=>some cs
 | _=>none
theorem zqZ(h:zal)(β:Nat):zAu h β=zax h β:=by simp only[zAu,zax,zgj]; rfl
def zpH(g:X→Option V)(x:X):Option Int:=match g x with | some (.lit (.int _ n))=>some n | _=>none
def zzD(g:X→Option V)(x:X):Option Bool:=match g x with | some (.lit (.bool b))=>some b | _=>none
def znx(g:X→Option V):Option X→Option (Option Int)
 | none=>some none
 | some x=>(zpH g x).map some
def zmt(cs:List V)(o:Nat):Option Nat→Option V
 | none=>nth cs o
 | some n=>(slot o n cs).map .agg
theorem zhI(cs:List V)(o:Nat)(n:Option Nat):zmt cs o n=takeN cs o n:=by cases n<;>simp[zmt,takeN,zgj]
def zuN(g:X→Option V)(cs:List V):List (Nat×Nat×X)→Option (List V)
 | []=>some cs
 |(off,n,x):: r=>match (g x).bind V.cells with
  | some l=>bif (l.length == n) && Nat.ble (off+n) cs.length then zc4 (zbp cs off l) fun cs'=>zuN g cs' r else none
  | none=>none
theorem zoN(env:List V):∀(ps:List (Nat×Nat×X)) (cs:List V),zuN (ev env) cs ps=zfe env cs ps
 | [],cs=>rfl
 |(off,n,x):: r,cs=>by
  simp only[zuN,zfe,zcE,zoN env r]; rfl
def zzW(blk:Nat→Option (List V))(β n:Nat):Bool:=match blk β with | some cs=>Nat.ble n cs.length | none=>false
def zuF(g:X→Option V)(blk:Nat→Option (List V))(β:Nat)(x:X):Bool:=match g x with
 | some (.ptr γ _)=>(match blk γ with | some _=>true | none=>false) && !(γ == β)
 | _=>false
def zxd(g:X→Option V)(blk:Nat→Option (List V))(xs:List X)(y:X):Bool:=match g y with
 | some v=>(match zqu v with
  | some β=>xs.all (zuF g blk β)
  | none=>true)
 | none=>false
theorem zum(h:zal)(env:List V)(xs:List X)(y:X):zxd (ev env) (zax h) xs y=zqv h env xs y:=by
 have hb:∀ β,zuF (ev env) (zax h) β=zxs h env β:=by
  intro β
  funext x
  simp only[zuF,zxs];cases ev env x with
  | none=>rfl
  | some v=>
   cases v with
   | ptr γ o=>simp only[]; cases zax h γ<;>rfl
   | _=>rfl
 simp only[zxd,zqv];cases ev env y with
 | none=>rfl
 | some v=>
  simp only[];cases zqu v with
  | none=>rfl
  | some β=>simp only[show zuF (ev env) (zax h)=zxs h env from funext hb]
def qG(g:X→Option V)(gs:List X→Option (List V))(blk:Nat→Option (List V)):I→Option V
 | .mov x=>g x
 | .avo xs y=>bif zxd g blk xs y then some zaT else none
 | .pick c a b=>(match zzD g c with
  | some true=>g a
  | some false=>g b
  | none=>none)
 | .build z parts=>(zuN g (z.map .lit) parts).map .agg
 | .load n x=>(match g x with
  | some (.ptr β o)=>(match blk β with
   | some cs=>zmt cs o n
   | none=>none)
  | _=>none)
 | .fld off x=>(match g x with
  | some (.ptr β o)=>some (.ptr β (o+off))
  | _=>none)
 | .idxS n x i=>(match g x,zpH g i with
  | some (.sl β o n' len _),some m=>bif (n == n') && decide (0≤m) && decide (m<len)then some (.ptr β (o+m.toNat * n))else none
  | _,_=>none)
 | .idxA n cnt x i=>(match g x,zpH g i with
  | some (.ptr β o),some m=>bif decide (0≤m) && decide (m<cnt)then some (.ptr β (o+m.toNat * n))else none
  | _,_=>none)
 | .idxV n cnt x i=>(match g x,zpH g i with
  | some (.agg vs),some m=>bif decide (0≤m) && decide (m<cnt)then zmt vs (m.toNat * n.getD 1) n else none
  | _,_=>none)
 | .part n off x=>(match g x with
  | some (.agg vs)=>zmt vs off n
  | _=>none)
 | .bin op x y=>(match g x,g y with
  | some v,some v'=>zl9 op v v'
  | _,_=>none)
 | .eqb neg x y=>(match zzD g x,zzD g y with
  | some a,some b=>some (.lit (.bool (bif neg then !(a == b)else(a == b))))
  | _,_=>none)
 | .eqn neg x=>(match g x with
  | some (.lit (.slice none 0 0))=>some (.lit (.bool !neg))
  | some (.sl ..)=>some (.lit (.bool neg))
  | _=>none)
 | .eqi neg x=>(match g x with
  | some (.lit .nilIface)=>some (.lit (.bool !neg))
  | some (.ifc ..)=>some (.lit (.bool neg))
  | _=>none)
 | .eqp neg x=>(match g x with
  | some (.lit (.pointer none))=>some (.lit (.bool !neg))
  | some (.ptr ..)=>some (.lit (.bool neg))
  | _=>none)
 | .un op x=>(match g x with
  | some v=>unV op v
  | none=>none)
 | .conv k x=>(match zpH g x with
  | some m=>some (.lit (.int k (k.wrap m)))
  | none=>none)
 | .len x=>(match g x with
  | some v=>zyg v
  | none=>none)
 | .mm b xs=>(match gs xs with
  | some (v :: vs)=>mms b v vs
  | _=>none)
 | .ext x i=>(match g x with
  | some (.tup vs)=>nth vs i
  | _=>none)
 | .slc n x lo hi mx=>(match g x,znx g lo,znx g hi,znx g mx with
  | some v,some l,some hh,some m=>zym blk n l hh m v
  | _,_,_,_=>none)
 | .slcA n cnt x lo hi mx=>(match g x,znx g lo,znx g hi,znx g mx with
  | some (.ptr β o),some l,some hh,some m=>bif Nat.blt 0 n && Nat.blt cnt (2 ^ 63) && zzW blk β (o+cnt * n)then(bounds cnt (some cnt) l hh m).map fun(l,hh,c)=>.sl β (o+l * n) n (hh - l) c else none
  | _,_,_,_=>none)
 | .nilck x=>(match g x with
  | some (.ptr β o)=>some (.ptr β o)
  | some (.clo f a b)=>some (.clo f a b)
  | _=>none)
 | .clo f first cap=>(match gs first,gs cap with
  | some vs,some vs'=>some (.clo f vs vs')
  | _,_=>none)
 | .mkI t x=>(match g x with
  | some v=>some (.ifc t v)
  | none=>none)
 | .chr l i=>(match zpH g i with
  | some m=>bif decide (0≤m)then(match nth l m.toNat with
   | some b=>some (.lit (.int .u8 (Int.ofNat b)))
   | none=>none)else none
  | none=>none)
 | _=>none
theorem zty(env:List V)(x:X):zpH (ev env) x=evI env x:=rfl
theorem zo3(env:List V)(x:Option X):znx (ev env) x=zp1 env x:=by cases x<;>rfl
theorem zAa(h:zal)(env:List V)(i:I):qG (ev env) (evs env) (zax h) i=q h env i:=by
 cases i with
 | build z ps=>simp only[qG,q,zoN]
 | avo xs y=>simp only[qG,q,zum]
 | load n x=>
  simp only[qG,q,zhI];cases ev env x with
  | none=>rfl
  | some v=>
   cases v<;>first | rfl | (simp only[]; cases zax h _<;>rfl)
 | idxV n cnt x i=>simp only[qG,q,zhI,zty]; rfl
 | part n off x=>simp only[qG,q,zhI]; rfl
 | ext x i=>simp only[qG,q,zgj]; rfl
 | un op x=>simp only[qG,q]; cases ev env x<;>rfl
 | len x=>simp only[qG,q]; cases ev env x<;>rfl
 | mkI t x=>simp only[qG,q]; cases ev env x<;>rfl
 | chr l i=>
  simp only[qG,q,zty,zgj];cases evI env i with
  | none=>rfl
  | some m=>simp only[]; cases l[m.toNat]?<;>rfl
 | slc n x lo hi mx=>simp only[qG,q,zo3]; rfl
 | slcA n cnt x lo hi mx=>simp only[qG,q,zo3]; rfl
 | _=>rfl
def zyu{α:Type}(o:Ob)(k:Ob→α):α:=
 match o with
 | .blk cs=>zc4 cs fun cs'=>k (.blk cs')
 | o=>k o
theorem znV{α:Type}(o:Ob)(k:Ob→α):zyu o k=k o:=by cases o<;>simp[zyu,zcE]
def zkV{α:Type}(env:List V)(ps:List Nat)(vs:List V)(k:List V→Option α):Option α:=
 match ps,vs with
 | [],[]=>k env
 | p :: ps,v :: vs=>fcV v fun v'=>zs8 env p v' fun env'=>zkV env' ps vs k
 | _,_=>none
theorem zjc{α:Type}:∀(ps:List Nat) (vs:List V) (env:List V) (k:List V→Option α),zkV env ps vs k=(match ze9 env ps vs with | some e=>k e | none=>none)
 | [],[],env,k=>rfl
 | p :: ps,v :: vs,env,k=>by simp only[zkV,ze9,zzo,zkv,zjc ps vs]
 | [],_ :: _,_,_=>rfl
 | _ :: _,[],_,_=>rfl
def zh1(h:zal)(env:List V):RX→Option V
 | .tmp k=>nth env k
 | .cell k n=>(match nth env k with
  | some (.ptr β o)=>(match zAu h β with
   | some cs=>zmt cs o n
   | none=>none)
  | _=>none)
theorem zqn(h:zal)(env:List V)(x:RX):zh1 h env x=zfY h env x:=by
 cases x with
 | tmp k=>simp[zh1,zfY,zgj]
 | cell k n=>
  simp only[zh1,zfY,zgj,zqZ,zhI];cases env[k]? with
  | none=>rfl
  | some v=>cases v<;>first | rfl | (simp only[]; cases zax h _<;>rfl)
end Go.Mx
