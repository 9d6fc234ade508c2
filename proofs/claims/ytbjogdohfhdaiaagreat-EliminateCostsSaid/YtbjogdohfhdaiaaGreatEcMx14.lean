/-
 The machine once more, step by step in full, for the kernel: it computes the same. Conditions: none.
-/
import Derived.Test.YtbjogdohfhdaiaaGreatEcJ18
set_option linter.unusedSimpArgs false
set_option linter.unusedVariables false
namespace Go.Mx
open Go
def zeb{α:Type}(n:Nat)(k:Nat->α):α:=
 match n with
 | .zero=>k .zero
 | .succ m=>k (.succ m)
variable{α:Type}
theorem zcH(n:Nat)(k:Nat->α):zeb n k=k n:=by cases n<;>rfl
def zzm{α:Type}(n:Int)(k:Int->α):α:=
 match n with
 | .ofNat m=>zeb m λm'=>k (.ofNat m')
 | .negSucc m=>zeb m λm'=>k (.negSucc m')
theorem zsF(n:Int)(k:Int->α):zzm n k=k n:=by cases n<;>simp[zzm,zcH]
def zxo{α:Type}(b:Bool)(k:Bool->α):α:=
 match b with
 | true=>k true
 | false=>k false
theorem zpc(b:Bool)(k:Bool->α):zxo b k=k b:=by cases b<;>rfl
def zdZ{α β:Type}(l:List β)(k:List β->α):α:=
 match l with
 | []=>k []
 | x :: r=>zdZ r λr'=>k (x :: r')
theorem zdo{α β:Type}:∀(l:List β) (k:List β->α),zdZ l k=k l
 | [],_=>rfl
 | x :: r,k=>by simp[zdZ,zdo r]
def zFB{α:Type}(o:Option Nat)(k:Option Nat->α):α:=
 match o with
 | none=>k none
 | some n=>zeb n λn'=>k (some n')
theorem zvC(o:Option Nat)(k:Option Nat->α):zFB o k=k o:=by cases o<;>simp[zFB,zcH]
def fcV{α:Type}(v:V)(k:V->α):α:=
 match v with
 | .lit (.int kd n)=>zzm n λn'=>k (.lit (.int kd n'))
 | .lit (.bool b)=>zxo b λb'=>k (.lit (.bool b'))
 | .lit x=>k (.lit x)
 | .ptr β o=>zeb β λβ'=>zeb o λo'=>k (.ptr β' o')
 | .sl β o n len cap=>zeb β λβ'=>zeb o λo'=>zeb n λn'=>zeb len λlen'=>zFB cap λcap'=>k (.sl β' o' n' len' cap')
 | .clo f a b=>zdZ a λa'=>zdZ b λb'=>k (.clo f a' b')
 | .agg vs=>zdZ vs λvs'=>k (.agg vs')
 | .tup vs=>zdZ vs λvs'=>k (.tup vs')
 | v=>k v
theorem zDf(v:V)(k:V->α):fcV v k=k v:=by
 cases v with
 | lit x=>cases x<;>simp[fcV,zsF,zpc]
 | _=>simp[fcV,zcH,zvC,zdo]
def zuZ{α β:Type}(l:List β)(n:Nat)(v:β)(k:List β->α):α:=
 match l with
 | []=>k []
 | x :: r=>match n with
  | .zero=>k (v :: r)
  | .succ m=>zuZ r m v λr'=>k (x :: r')
theorem ziS{α β:Type}:∀(l:List β) (n:Nat) (v:β) (k:List β->α),zuZ l n v k=k (l.set n v)
 | [],n,v,k=>by simp[zuZ]
 | x :: r,0,v,k=>by simp[zuZ]
 | x :: r,n+1,v,k=>by simp[zuZ,ziS r n]
def nth{β:Type}(l:List β)(n:Nat):Option β:=
 match l with
 | []=>none
 | x :: r=>match n with
  | .zero=>some x
  | .succ m=>nth r m
theorem zi8{β:Type}:∀(l:List β) (n:Nat),nth l n=l[n]?
 | [],n=>by simp[nth]
 | x :: r,0=>by simp[nth]
 | x :: r,n+1=>by simp[nth,zi8 r n]
def zFE(h:zam)(β:Nat):Option (List V):=
 match nth h β with
 | some (.blk cs)=>some cs
 | _=>none
theorem zuh(h:zam)(β:Nat):zFE h β=zaG h β:=by simp only[zFE,zaG,zi8]; rfl
def ztL(g:X->Option V)(x:X):Option Int:=match g x with | some (.lit (.int _ n))=>some n | _=>none
def zGo(g:X->Option V)(x:X):Option Bool:=match g x with | some (.lit (.bool b))=>some b | _=>none
def zp3(g:X->Option V):Option X->Option (Option Int)
 | none=>some none
 | some x=>(ztL g x).map some
def zpo(cs:List V)(o:Nat):Option Nat->Option V
 | none=>nth cs o
 | some n=>(slot o n cs).map .agg
theorem zjt(cs:List V)(o:Nat)(n:Option Nat):zpo cs o n=takeN cs o n:=by cases n<;>simp[zpo,takeN,zi8]
def zxL(g:X->Option V)(cs:List V):List (Nat×Nat×X)->Option (List V)
 | []=>some cs
 |(off,n,x):: r=>match (g x).bind V.cells with
  | some l=>bif (l.length == n) && Nat.ble (off+n) cs.length then zdZ (zbQ cs off l) λcs'=>zxL g cs' r else none
  | none=>none
theorem zq7(env:List V):∀(ps:List (Nat×Nat×X)) (cs:List V),zxL (ev env) cs ps=zgt env cs ps
 | [],cs=>rfl
 |(off,n,x):: r,cs=>by
  simp only[zxL,zgt,zdo,zq7 env r]; rfl
def zGy(blk:Nat->Option (List V))(β n:Nat):Bool:=match blk β with | some cs=>Nat.ble n cs.length | none=>false
def zCE(g:X->Option V)(blk:Nat->Option (List V))(β:Nat)(x:X):Bool:=match g x with
 | some (.ptr γ _)=>(match blk γ with | some _=>true | none=>false) && !(γ == β)
 | _=>false
def zBy(g:X->Option V)(blk:Nat->Option (List V))(xs:List X)(y:X):Bool:=match g y with
 | some v=>(match ztZ v with
  | some β=>xs.all (zCE g blk β)
  | none=>true)
 | none=>false
theorem zyz(h:zam)(env:List V)(xs:List X)(y:X):zBy (ev env) (zaG h) xs y=zva h env xs y:=by
 have hb:∀ β,zCE (ev env) (zaG h) β=zC1 h env β:=by
  grind [zCE,zC1]
 grind [zBy,zva]
def qG(g:X->Option V)(gs:List X->Option (List V))(blk:Nat->Option (List V)):I->Option V
 | .mov x=>g x
 | .avo xs y=>bif zBy g blk xs y then some zbg else none
 | .pick c a b=>(match zGo g c with
  | some true=>g a
  | some false=>g b
  | none=>none)
 | .build z parts=>(zxL g (z.map .lit) parts).map .agg
 | .load n x=>(match g x with
  | some (.ptr β o)=>(match blk β with
   | some cs=>zpo cs o n
   | none=>none)
  | _=>none)
 | .fld off x=>(match g x with
  | some (.ptr β o)=>some (.ptr β (o+off))
  | _=>none)
 | .idxS n x i=>(match g x,ztL g i with
  | some (.sl β o n' len _),some m=>bif (n == n') && decide (0<=m) && decide (m<len)then some (.ptr β (o+m.toNat * n))else none
  | _,_=>none)
 | .idxA n cnt x i=>(match g x,ztL g i with
  | some (.ptr β o),some m=>bif decide (0<=m) && decide (m<cnt)then some (.ptr β (o+m.toNat * n))else none
  | _,_=>none)
 | .idxV n cnt x i=>(match g x,ztL g i with
  | some (.agg vs),some m=>bif decide (0<=m) && decide (m<cnt)then zpo vs (m.toNat * n.getD 1) n else none
  | _,_=>none)
 | .part n off x=>(match g x with
  | some (.agg vs)=>zpo vs off n
  | _=>none)
 | .bin op x y=>(match g x,g y with
  | some v,some v'=>zos op v v'
  | _,_=>none)
 | .eqb neg x y=>(match zGo g x,zGo g y with
  | some a,some b=>some (.lit (.bool (bif neg then !(a == b)else(a == b))))
  | _,_=>none)
 | .eqa n neg x y=>(match g x,g y with
  | some (.agg vs),some (.agg ws)=>bif Nat.beq vs.length n && Nat.beq ws.length n then(match zxI vs ws with
   | some b=>some (.lit (.bool (bif neg then !b else b)))
   | none=>none)else none
  | _,_=>none)
 | .eqn neg x=>(match g x with
  | some (.lit (.slice none 0 0))=>some (.lit (.bool !neg))
  | some (.sl ..)=>some (.lit (.bool neg))
  | _=>none)
 | .eqi neg x=>(match g x with
  | some (.lit .nilIface)=>some (.lit (.bool !neg))
  | some (.ifc ..)=>some (.lit (.bool neg))
  | _=>none)
 | .eqp neg x=>(match g x with
  | some (.lit (.pointer none))=>some (.lit (.bool !neg))
  | some (.ptr ..)=>some (.lit (.bool neg))
  | _=>none)
 | .un op x=>(match g x with
  | some v=>unV op v
  | none=>none)
 | .conv k x=>(match ztL g x with
  | some m=>some (.lit (.int k (k.wrap m)))
  | none=>none)
 | .len x=>(match g x with
  | some v=>zC7 v
  | none=>none)
 | .mm b xs=>(match gs xs with
  | some (v :: vs)=>mms b v vs
  | _=>none)
 | .ext x i=>(match g x with
  | some (.tup vs)=>nth vs i
  | _=>none)
 | .slc n x lo hi mx=>(match g x,zp3 g lo,zp3 g hi,zp3 g mx with
  | some v,some l,some hh,some m=>zFj blk n l hh m v
  | _,_,_,_=>none)
 | .slcA n cnt x lo hi mx=>(match g x,zp3 g lo,zp3 g hi,zp3 g mx with
  | some (.ptr β o),some l,some hh,some m=>bif Nat.blt 0 n && Nat.blt cnt (2 ^ 63) && zGy blk β (o+cnt * n)then(bounds cnt (some cnt) l hh m).map λ(l,hh,c)=>.sl β (o+l * n) n (hh - l) c else none
  | _,_,_,_=>none)
 | .nilck x=>(match g x with
  | some (.ptr β o)=>some (.ptr β o)
  | some (.clo f a b)=>some (.clo f a b)
  | _=>none)
 | .clo f first cap=>(match gs first,gs cap with
  | some vs,some vs'=>some (.clo f vs vs')
  | _,_=>none)
 | .mkI t x=>(match g x with
  | some v=>some (.ifc t v)
  | none=>none)
 | .chr l i=>(match ztL g i with
  | some m=>bif decide (0<=m)then(match nth l m.toNat with
   | some b=>some (.lit (.int .u8 (Int.ofNat b)))
   | none=>none)else none
  | none=>none)
 | _=>none
theorem zwk(env:List V)(x:X):ztL (ev env) x=evI env x:=rfl
theorem zyy(env:List V)(x:Option X):zp3 (ev env) x=ztY env x:=by cases x<;>rfl
theorem zGr(h:zam)(env:List V)(i:I):qG (ev env) (evs env) (zaG h) i=q h env i:=by
 cases i with
 | build z ps=>simp only[qG,q,zq7]
 | avo xs y=>simp only[qG,q,zyz]
 | load n x=>
  grind [qG,zjt,Go.Mx.q]
 | idxV n cnt x i=>simp only[qG,q,zjt,zwk]; rfl
 | part n off x=>simp only[qG,q,zjt]; rfl
 | ext x i=>simp only[qG,q,zi8]; rfl
 | un op x=>grind [qG,Go.Mx.q]
 | len x=>grind [qG,Go.Mx.q]
 | mkI t x=>grind [qG,Go.Mx.q]
 | chr l i=>
  grind [qG,zwk,zi8,Go.Mx.q]
 | slc n x lo hi mx=>simp only[qG,q,zyy]; rfl
 | slcA n cnt x lo hi mx=>rfl
 | _=>rfl
def zEm{α:Type}(o:Ob)(k:Ob->α):α:=
 match o with
 | .blk cs=>zdZ cs λcs'=>k (.blk cs')
 | o=>k o
theorem zt9(o:Ob)(k:Ob->α):zEm o k=k o:=by cases o<;>simp[zEm,zdo]
def zmY{α:Type}(env:List V)(ps:List Nat)(vs:List V)(k:List V->Option α):Option α:=
 match ps,vs with
 | [],[]=>k env
 | p :: ps,v :: vs=>fcV v λv'=>zuZ env p v' λenv'=>zmY env' ps vs k
 | _,_=>none
theorem zlH{α:Type}:∀(ps:List Nat) (vs:List V) (env:List V) (k:List V->Option α),zmY env ps vs k=(match zgb env ps vs with | some e=>k e | none=>none)
 | [],[],env,k=>rfl
 | p :: ps,v :: vs,env,k=>by simp only[zmY,zgb,zDf,ziS,zlH ps vs]
 | [],_ :: _,_,_=>rfl
 | _ :: _,[],_,_=>rfl
def zl4(h:zam)(env:List V):RX->Option V
 | .tmp k=>nth env k
 | .cell k n=>(match nth env k with
  | some (.ptr β o)=>(match zFE h β with
   | some cs=>zpo cs o n
   | none=>none)
  | _=>none)
theorem ztI(h:zam)(env:List V)(x:RX):zl4 h env x=zhY h env x:=by
 cases x<;>grind [zl4,zhY,zi8,zuh,zjt]
end Go.Mx
