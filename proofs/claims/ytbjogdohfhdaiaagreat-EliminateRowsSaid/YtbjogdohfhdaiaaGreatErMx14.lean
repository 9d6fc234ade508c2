/-
 The machine once more, step by step in full, for the kernel: it computes the same. Conditions: none.
-/
import Derived.Test.YtbjogdohfhdaiaaGreatErJ21
set_option linter.unusedSimpArgs false
set_option linter.unusedVariables false
namespace Go.Mx
open Go
def zd9{α:Type}(n:Nat)(k:Nat->α):α:=
 match n with
 | .zero=>k .zero
 | .succ m=>k (.succ m)
variable{α:Type}
theorem zcC(n:Nat)(k:Nat->α):zd9 n k=k n:=by cases n<;>rfl
def zzu{α:Type}(n:Int)(k:Int->α):α:=
 match n with
 | .ofNat m=>zd9 m λm'=>k (.ofNat m')
 | .negSucc m=>zd9 m λm'=>k (.negSucc m')
theorem zsU(n:Int)(k:Int->α):zzu n k=k n:=by cases n<;>simp[zzu,zcC]
def zuU{α:Type}(b:Bool)(k:Bool->α):α:=
 match b with
 | true=>k true
 | false=>k false
theorem zpx(b:Bool)(k:Bool->α):zuU b k=k b:=by cases b<;>rfl
def zd3{α β:Type}(l:List β)(k:List β->α):α:=
 match l with
 | []=>k []
 | x :: r=>zd3 r λr'=>k (x :: r')
theorem zdc{α β:Type}:∀(l:List β) (k:List β->α),zd3 l k=k l
 | [],_=>rfl
 | x :: r,k=>by simp[zd3,zdc r]
def zGg{α:Type}(o:Option Nat)(k:Option Nat->α):α:=
 match o with
 | none=>k none
 | some n=>zd9 n λn'=>k (some n')
theorem zvT(o:Option Nat)(k:Option Nat->α):zGg o k=k o:=by cases o<;>simp[zGg,zcC]
def fcV{α:Type}(v:V)(k:V->α):α:=
 match v with
 | .lit (.int kd n)=>zzu n λn'=>k (.lit (.int kd n'))
 | .lit (.bool b)=>zuU b λb'=>k (.lit (.bool b'))
 | .lit x=>k (.lit x)
 | .ptr β o=>zd9 β λβ'=>zd9 o λo'=>k (.ptr β' o')
 | .sl β o n len cap=>zd9 β λβ'=>zd9 o λo'=>zd9 n λn'=>zd9 len λlen'=>zGg cap λcap'=>k (.sl β' o' n' len' cap')
 | .clo f a b=>zd3 a λa'=>zd3 b λb'=>k (.clo f a' b')
 | .agg vs=>zd3 vs λvs'=>k (.agg vs')
 | .tup vs=>zd3 vs λvs'=>k (.tup vs')
 | v=>k v
theorem zDN(v:V)(k:V->α):fcV v k=k v:=by
 cases v with
 | lit x=>cases x<;>simp[fcV,zsU,zpx]
 | _=>simp[fcV,zcC,zvT,zdc]
def zxM{α β:Type}(l:List β)(n:Nat)(v:β)(k:List β->α):α:=
 match l with
 | []=>k []
 | x :: r=>match n with
  | .zero=>k (v :: r)
  | .succ m=>zxM r m v λr'=>k (x :: r')
theorem zi6{α β:Type}:∀(l:List β) (n:Nat) (v:β) (k:List β->α),zxM l n v k=k (l.set n v)
 | [],n,v,k=>by simp[zxM]
 | x :: r,0,v,k=>by simp[zxM]
 | x :: r,n+1,v,k=>by simp[zxM,zi6 r n]
def nth{β:Type}(l:List β)(n:Nat):Option β:=
 match l with
 | []=>none
 | x :: r=>match n with
  | .zero=>some x
  | .succ m=>nth r m
theorem zju{β:Type}:∀(l:List β) (n:Nat),nth l n=l[n]?
 | [],n=>by simp[nth]
 | x :: r,0=>by simp[nth]
 | x :: r,n+1=>by simp[nth,zju r n]
def zHC(h:zam)(β:Nat):Option (List V):=
 match nth h β with
 | some (.blk cs)=>some cs
 | _=>none
theorem zwc(h:zam)(β:Nat):zHC h β=zax h β:=by simp only[zHC,zax,zju]; rfl
def ztA(g:X->Option V)(x:X):Option Int:=match g x with | some (.lit (.int _ n))=>some n | _=>none
def zGr(g:X->Option V)(x:X):Option Bool:=match g x with | some (.lit (.bool b))=>some b | _=>none
def zrr(g:X->Option V):Option X->Option (Option Int)
 | none=>some none
 | some x=>(ztA g x).map some
def zo0(cs:List V)(o:Nat):Option Nat->Option V
 | none=>nth cs o
 | some n=>(slot o n cs).map .agg
theorem zjW(cs:List V)(o:Nat)(n:Option Nat):zo0 cs o n=takeN cs o n:=by cases n<;>simp[zo0,takeN,zju]
def zzw(g:X->Option V)(cs:List V):List (Nat×Nat×X)->Option (List V)
 | []=>some cs
 |(off,n,x):: r=>match (g x).bind V.cells with
  | some l=>bif (l.length == n) && Nat.ble (off+n) cs.length then zd3 (zbT cs off l) λcs'=>zzw g cs' r else none
  | none=>none
theorem zsJ(env:List V):∀(ps:List (Nat×Nat×X)) (cs:List V),zzw (ev env) cs ps=zgN env cs ps
 | [],cs=>rfl
 |(off,n,x):: r,cs=>by
  simp only[zzw,zgN,zdc,zsJ env r]; rfl
def zHe(blk:Nat->Option (List V))(β n:Nat):Bool:=match blk β with | some cs=>Nat.ble n cs.length | none=>false
def zCM(g:X->Option V)(blk:Nat->Option (List V))(β:Nat)(x:X):Bool:=match g x with
 | some (.ptr γ _)=>(match blk γ with | some _=>true | none=>false) && !(γ == β)
 | _=>false
def zDe(g:X->Option V)(blk:Nat->Option (List V))(xs:List X)(y:X):Bool:=match g y with
 | some v=>(match zum v with
  | some β=>xs.all (zCM g blk β)
  | none=>true)
 | none=>false
theorem zyA(h:zam)(env:List V)(xs:List X)(y:X):zDe (ev env) (zax h) xs y=zwv h env xs y:=by
 have hb:∀ β,zCM (ev env) (zax h) β=zDz h env β:=by
  grind [zCM,zDz]
 grind [zDe,zwv]
def qG(g:X->Option V)(gs:List X->Option (List V))(blk:Nat->Option (List V)):I->Option V
 | .mov x=>g x
 | .avo xs y=>bif zDe g blk xs y then some zbc else none
 | .pick c a b=>(match zGr g c with
  | some true=>g a
  | some false=>g b
  | none=>none)
 | .build z parts=>(zzw g (z.map .lit) parts).map .agg
 | .load n x=>(match g x with
  | some (.ptr β o)=>(match blk β with
   | some cs=>zo0 cs o n
   | none=>none)
  | _=>none)
 | .fld off x=>(match g x with
  | some (.ptr β o)=>some (.ptr β (o+off))
  | _=>none)
 | .idxS n x i=>(match g x,ztA g i with
  | some (.sl β o n' len _),some m=>bif (n == n') && decide (0<=m) && decide (m<len)then some (.ptr β (o+m.toNat * n))else none
  | _,_=>none)
 | .idxA n cnt x i=>(match g x,ztA g i with
  | some (.ptr β o),some m=>bif decide (0<=m) && decide (m<cnt)then some (.ptr β (o+m.toNat * n))else none
  | _,_=>none)
 | .idxV n cnt x i=>(match g x,ztA g i with
  | some (.agg vs),some m=>bif decide (0<=m) && decide (m<cnt)then zo0 vs (m.toNat * n.getD 1) n else none
  | _,_=>none)
 | .part n off x=>(match g x with
  | some (.agg vs)=>zo0 vs off n
  | _=>none)
 | .bin op x y=>(match g x,g y with
  | some v,some v'=>zod op v v'
  | _,_=>none)
 | .eqb neg x y=>(match zGr g x,zGr g y with
  | some a,some b=>some (.lit (.bool (bif neg then !(a == b)else(a == b))))
  | _,_=>none)
 | .eqa n neg x y=>(match g x,g y with
  | some (.agg vs),some (.agg ws)=>bif Nat.beq vs.length n && Nat.beq ws.length n then(match zx3 vs ws with
   | some b=>some (.lit (.bool (bif neg then !b else b)))
   | none=>none)else none
  | _,_=>none)
 | .eqn neg x=>(match g x with
  | some (.lit (.slice none 0 0))=>some (.lit (.bool !neg))
  | some (.sl ..)=>some (.lit (.bool neg))
  | _=>none)
 | .eqi neg x=>(match g x with
  | some (.lit .nilIface)=>some (.lit (.bool !neg))
  | some (.ifc ..)=>some (.lit (.bool neg))
  | _=>none)
 | .eqp neg x=>(match g x with
  | some (.lit (.pointer none))=>some (.lit (.bool !neg))
  | some (.ptr ..)=>some (.lit (.bool neg))
  | _=>none)
 | .un op x=>(match g x with
  | some v=>unV op v
  | none=>none)
 | .conv k x=>(match ztA g x with
  | some m=>some (.lit (.int k (k.wrap m)))
  | none=>none)
 | .len x=>(match g x with
  | some v=>zDs v
  | none=>none)
 | .mm b xs=>(match gs xs with
  | some (v :: vs)=>mms b v vs
  | _=>none)
 | .ext x i=>(match g x with
  | some (.tup vs)=>nth vs i
  | _=>none)
 | .slc n x lo hi mx=>(match g x,zrr g lo,zrr g hi,zrr g mx with
  | some v,some l,some hh,some m=>zEs blk n l hh m v
  | _,_,_,_=>none)
 | .slcA n cnt x lo hi mx=>(match g x,zrr g lo,zrr g hi,zrr g mx with
  | some (.ptr β o),some l,some hh,some m=>bif Nat.blt 0 n && Nat.blt cnt (2 ^ 63) && zHe blk β (o+cnt * n)then(bounds cnt (some cnt) l hh m).map λ(l,hh,c)=>.sl β (o+l * n) n (hh - l) c else none
  | _,_,_,_=>none)
 | .nilck x=>(match g x with
  | some (.ptr β o)=>some (.ptr β o)
  | some (.clo f a b)=>some (.clo f a b)
  | _=>none)
 | .clo f first cap=>(match gs first,gs cap with
  | some vs,some vs'=>some (.clo f vs vs')
  | _,_=>none)
 | .mkI t x=>(match g x with
  | some v=>some (.ifc t v)
  | none=>none)
 | .chr l i=>(match ztA g i with
  | some m=>bif decide (0<=m)then(match nth l m.toNat with
   | some b=>some (.lit (.int .u8 (Int.ofNat b)))
   | none=>none)else none
  | none=>none)
 | _=>none
theorem zxo(env:List V)(x:X):ztA (ev env) x=evI env x:=rfl
theorem zzJ(env:List V)(x:Option X):zrr (ev env) x=zuf env x:=by cases x<;>rfl
theorem zHi(h:zam)(env:List V)(i:I):qG (ev env) (evs env) (zax h) i=q h env i:=by
 cases i with
 | build z ps=>simp only[qG,q,zsJ]
 | avo xs y=>simp only[qG,q,zyA]
 | load n x=>
  grind [qG,zjW,Go.Mx.q]
 | idxV n cnt x i=>simp only[qG,q,zjW,zxo]; rfl
 | part n off x=>simp only[qG,q,zjW]; rfl
 | ext x i=>simp only[qG,q,zju]; rfl
 | un op x=>grind [qG,Go.Mx.q]
 | len x=>grind [qG,Go.Mx.q]
 | mkI t x=>grind [qG,Go.Mx.q]
 | chr l i=>
  grind [qG,zxo,zju,Go.Mx.q]
 | slc n x lo hi mx=>simp only[qG,q,zzJ]; rfl
 | slcA n cnt x lo hi mx=>rfl
 | _=>rfl
def zF2{α:Type}(o:Ob)(k:Ob->α):α:=
 match o with
 | .blk cs=>zd3 cs λcs'=>k (.blk cs')
 | o=>k o
theorem zvb(o:Ob)(k:Ob->α):zF2 o k=k o:=by cases o<;>simp[zF2,zdc]
def zmV{α:Type}(env:List V)(ps:List Nat)(vs:List V)(k:List V->Option α):Option α:=
 match ps,vs with
 | [],[]=>k env
 | p :: ps,v :: vs=>fcV v λv'=>zxM env p v' λenv'=>zmV env' ps vs k
 | _,_=>none
theorem zma{α:Type}:∀(ps:List Nat) (vs:List V) (env:List V) (k:List V->Option α),zmV env ps vs k=(match zgd env ps vs with | some e=>k e | none=>none)
 | [],[],env,k=>rfl
 | p :: ps,v :: vs,env,k=>by simp only[zmV,zgd,zDN,zi6,zma ps vs]
 | [],_ :: _,_,_=>rfl
 | _ :: _,[],_,_=>rfl
def znl(h:zam)(env:List V):RX->Option V
 | .tmp k=>nth env k
 | .cell k n=>(match nth env k with
  | some (.ptr β o)=>(match zHC h β with
   | some cs=>zo0 cs o n
   | none=>none)
  | _=>none)
theorem ztd(h:zam)(env:List V)(x:RX):znl h env x=zht h env x:=by
 cases x<;>grind [znl,zht,zju,zwc,zjW]
end Go.Mx
