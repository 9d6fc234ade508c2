/-
 The machine once more, step by step in full, for the kernel: it computes the same. Conditions: none.
-/
import Derived.Test.YtbjogdohfhdaiaaCkJ12
set_option linter.unusedSimpArgs false
set_option linter.unusedVariables false
namespace Go.Mx
open Go
def zcJ{α:Type}(n:Nat)(k:Nat->α):α:=
 match n with
 | .zero=>k .zero
 | .succ m=>k (.succ m)
variable{α:Type}
theorem zb3(n:Nat)(k:Nat->α):zcJ n k=k n:=by cases n<;>rfl
def zqU{α:Type}(n:Int)(k:Int->α):α:=
 match n with
 | .ofNat m=>zcJ m λm'=>k (.ofNat m')
 | .negSucc m=>zcJ m λm'=>k (.negSucc m')
theorem zlR(n:Int)(k:Int->α):zqU n k=k n:=by cases n<;>simp[zqU,zb3]
def zop{α:Type}(b:Bool)(k:Bool->α):α:=
 match b with
 | true=>k true
 | false=>k false
theorem zkj(b:Bool)(k:Bool->α):zop b k=k b:=by cases b<;>rfl
def zct{α β:Type}(l:List β)(k:List β->α):α:=
 match l with
 | []=>k []
 | x :: r=>zct r λr'=>k (x :: r')
theorem zbW{α β:Type}:∀(l:List β) (k:List β->α),zct l k=k l
 | [],_=>rfl
 | x :: r,k=>by simp[zct,zbW r]
def zvu{α:Type}(o:Option Nat)(k:Option Nat->α):α:=
 match o with
 | none=>k none
 | some n=>zcJ n λn'=>k (some n')
theorem zoD(o:Option Nat)(k:Option Nat->α):zvu o k=k o:=by cases o<;>simp[zvu,zb3]
def fcV{α:Type}(v:V)(k:V->α):α:=
 match v with
 | .lit (.int kd n)=>zqU n λn'=>k (.lit (.int kd n'))
 | .lit (.bool b)=>zop b λb'=>k (.lit (.bool b'))
 | .lit x=>k (.lit x)
 | .ptr β o=>zcJ β λβ'=>zcJ o λo'=>k (.ptr β' o')
 | .sl β o n len cap=>zcJ β λβ'=>zcJ o λo'=>zcJ n λn'=>zcJ len λlen'=>zvu cap λcap'=>k (.sl β' o' n' len' cap')
 | .clo f a b=>zct a λa'=>zct b λb'=>k (.clo f a' b')
 | .agg vs=>zct vs λvs'=>k (.agg vs')
 | .tup vs=>zct vs λvs'=>k (.tup vs')
 | v=>k v
theorem ztY(v:V)(k:V->α):fcV v k=k v:=by
 cases v with
 | lit x=>cases x<;>simp[fcV,zlR,zkj]
 | _=>simp[fcV,zb3,zoD,zbW]
def znZ{α β:Type}(l:List β)(n:Nat)(v:β)(k:List β->α):α:=
 match l with
 | []=>k []
 | x :: r=>match n with
  | .zero=>k (v :: r)
  | .succ m=>znZ r m v λr'=>k (x :: r')
theorem zfX{α β:Type}:∀(l:List β) (n:Nat) (v:β) (k:List β->α),znZ l n v k=k (l.set n v)
 | [],n,v,k=>by simp[znZ]
 | x :: r,0,v,k=>by simp[znZ]
 | x :: r,n+1,v,k=>by simp[znZ,zfX r n]
def nth{β:Type}(l:List β)(n:Nat):Option β:=
 match l with
 | []=>none
 | x :: r=>match n with
  | .zero=>some x
  | .succ m=>nth r m
theorem zft{β:Type}:∀(l:List β) (n:Nat),nth l n=l[n]?
 | [],n=>by simp[nth]
 | x :: r,0=>by simp[nth]
 | x :: r,n+1=>by simp[nth,zft r n]
def zvC(h:zaj)(β:Nat):Option (List V):=
 match nth h β with
 | some (.blk cs)=>some cs
 | _=>none
theorem zoy(h:zaj)(β:Nat):zvC h β=zao h β:=by simp only[zvC,zao,zft]; rfl
def zmN(g:X->Option V)(x:X):Option Int:=match g x with | some (.lit (.int _ n))=>some n | _=>none
def zvm(g:X->Option V)(x:X):Option Bool:=match g x with | some (.lit (.bool b))=>some b | _=>none
def zkK(g:X->Option V):Option X->Option (Option Int)
 | none=>some none
 | some x=>(zmN g x).map some
def zj3(cs:List V)(o:Nat):Option Nat->Option V
 | none=>nth cs o
 | some n=>(slot o n cs).map .agg
theorem zgp(cs:List V)(o:Nat)(n:Option Nat):zj3 cs o n=takeN cs o n:=by cases n<;>simp[zj3,takeN,zft]
def zqz(g:X->Option V)(cs:List V):List (Nat×Nat×X)->Option (List V)
 | []=>some cs
 |(off,n,x):: r=>match (g x).bind V.cells with
  | some l=>bif (l.length == n) && Nat.ble (off+n) cs.length then zct (za7 cs off l) λcs'=>zqz g cs' r else none
  | none=>none
theorem zmp(env:List V):∀(ps:List (Nat×Nat×X)) (cs:List V),zqz (ev env) cs ps=zd5 env cs ps
 | [],cs=>rfl
 |(off,n,x):: r,cs=>by
  simp only[zqz,zd5,zbW,zmp env r]; rfl
def zvY(blk:Nat->Option (List V))(β n:Nat):Bool:=match blk β with | some cs=>Nat.ble n cs.length | none=>false
def zqP(g:X->Option V)(blk:Nat->Option (List V))(β:Nat)(x:X):Bool:=match g x with
 | some (.ptr γ _)=>(match blk γ with | some _=>true | none=>false) && !(γ == β)
 | _=>false
def zsH(g:X->Option V)(blk:Nat->Option (List V))(xs:List X)(y:X):Bool:=match g y with
 | some v=>(match znt v with
  | some β=>xs.all (zqP g blk β)
  | none=>true)
 | none=>false
theorem zqZ(h:zaj)(env:List V)(xs:List X)(y:X):zsH (ev env) (zao h) xs y=znB h env xs y:=by
 have hb:∀ β,zqP (ev env) (zao h) β=zsz h env β:=by
  intro β
  funext x
  simp only[zqP,zsz];cases ev env x with
  | none=>rfl
  | some v=>
   cases v with
   | ptr γ o=>simp only[]; cases zao h γ<;>rfl
   | _=>rfl
 simp only[zsH,znB];cases ev env y with
 | none=>rfl
 | some v=>
  simp only[];cases znt v with
  | none=>rfl
  | some β=>simp only[show zqP (ev env) (zao h)=zsz h env from funext hb]
def qG(g:X->Option V)(gs:List X->Option (List V))(blk:Nat->Option (List V)):I->Option V
 | .mov x=>g x
 | .avo xs y=>bif zsH g blk xs y then some zaE else none
 | .pick c a b=>(match zvm g c with
  | some true=>g a
  | some false=>g b
  | none=>none)
 | .build z parts=>(zqz g (z.map .lit) parts).map .agg
 | .load n x=>(match g x with
  | some (.ptr β o)=>(match blk β with
   | some cs=>zj3 cs o n
   | none=>none)
  | _=>none)
 | .fld off x=>(match g x with
  | some (.ptr β o)=>some (.ptr β (o+off))
  | _=>none)
 | .idxS n x i=>(match g x,zmN g i with
  | some (.sl β o n' len _),some m=>bif (n == n') && decide (0<=m) && decide (m<len)then some (.ptr β (o+m.toNat * n))else none
  | _,_=>none)
 | .idxA n cnt x i=>(match g x,zmN g i with
  | some (.ptr β o),some m=>bif decide (0<=m) && decide (m<cnt)then some (.ptr β (o+m.toNat * n))else none
  | _,_=>none)
 | .idxV n cnt x i=>(match g x,zmN g i with
  | some (.agg vs),some m=>bif decide (0<=m) && decide (m<cnt)then zj3 vs (m.toNat * n.getD 1) n else none
  | _,_=>none)
 | .part n off x=>(match g x with
  | some (.agg vs)=>zj3 vs off n
  | _=>none)
 | .bin op x y=>(match g x,g y with
  | some v,some v'=>zka op v v'
  | _,_=>none)
 | .eqb neg x y=>(match zvm g x,zvm g y with
  | some a,some b=>some (.lit (.bool (bif neg then !(a == b)else(a == b))))
  | _,_=>none)
 | .eqa n neg x y=>(match g x,g y with
  | some (.agg vs),some (.agg ws)=>bif Nat.beq vs.length n && Nat.beq ws.length n then(match zrh vs ws with
   | some b=>some (.lit (.bool (bif neg then !b else b)))
   | none=>none)else none
  | _,_=>none)
 | .eqn neg x=>(match g x with
  | some (.lit (.slice none 0 0))=>some (.lit (.bool !neg))
  | some (.sl ..)=>some (.lit (.bool neg))
  | _=>none)
 | .eqi neg x=>(match g x with
  | some (.lit .nilIface)=>some (.lit (.bool !neg))
  | some (.ifc ..)=>some (.lit (.bool neg))
  | _=>none)
 | .eqp neg x=>(match g x with
  | some (.lit (.pointer none))=>some (.lit (.bool !neg))
  | some (.ptr ..)=>some (.lit (.bool neg))
  | _=>none)
 | .un op x=>(match g x with
  | some v=>unV op v
  | none=>none)
 | .conv k x=>(match zmN g x with
  | some m=>some (.lit (.int k (k.wrap m)))
  | none=>none)
 | .len x=>(match g x with
  | some v=>zvd v
  | none=>none)
 | .mm b xs=>(match gs xs with
  | some (v :: vs)=>mms b v vs
  | _=>none)
 | .ext x i=>(match g x with
  | some (.tup vs)=>nth vs i
  | _=>none)
 | .slc n x lo hi mx=>(match g x,zkK g lo,zkK g hi,zkK g mx with
  | some v,some l,some hh,some m=>ztI blk n l hh m v
  | _,_,_,_=>none)
 | .slcA n cnt x lo hi mx=>(match g x,zkK g lo,zkK g hi,zkK g mx with
  | some (.ptr β o),some l,some hh,some m=>bif Nat.blt 0 n && Nat.blt cnt (2 ^ 63) && zvY blk β (o+cnt * n)then(bounds cnt (some cnt) l hh m).map λ(l,hh,c)=>.sl β (o+l * n) n (hh - l) c else none
  | _,_,_,_=>none)
 | .nilck x=>(match g x with
  | some (.ptr β o)=>some (.ptr β o)
  | some (.clo f a b)=>some (.clo f a b)
  | _=>none)
 | .clo f first cap=>(match gs first,gs cap with
  | some vs,some vs'=>some (.clo f vs vs')
  | _,_=>none)
 | .mkI t x=>(match g x with
  | some v=>some (.ifc t v)
  | none=>none)
 | .chr l i=>(match zmN g i with
  | some m=>bif decide (0<=m)then(match nth l m.toNat with
   | some b=>some (.lit (.int .u8 (Int.ofNat b)))
   | none=>none)else none
  | none=>none)
 | _=>none
theorem znH(env:List V)(x:X):zmN (ev env) x=evI env x:=rfl
theorem zl4(env:List V)(x:Option X):zkK (ev env) x=zm4 env x:=by cases x<;>rfl
theorem zwi(h:zaj)(env:List V)(i:I):qG (ev env) (evs env) (zao h) i=q h env i:=by
 cases i with
 | build z ps=>simp only[qG,q,zmp]
 | avo xs y=>simp only[qG,q,zqZ]
 | load n x=>
  simp only[qG,q,zgp];cases ev env x with
  | none=>rfl
  | some v=>
   cases v<;>first | rfl | (simp only[]; cases zao h _<;>rfl)
 | idxV n cnt x i=>simp only[qG,q,zgp,znH]; rfl
 | part n off x=>simp only[qG,q,zgp]; rfl
 | ext x i=>simp only[qG,q,zft]; rfl
 | un op x=>simp only[qG,q]; cases ev env x<;>rfl
 | len x=>simp only[qG,q]; cases ev env x<;>rfl
 | mkI t x=>simp only[qG,q]; cases ev env x<;>rfl
 | chr l i=>
  simp only[qG,q,znH,zft];cases evI env i with
  | none=>rfl
  | some m=>simp only[]; cases l[m.toNat]?<;>rfl
 | slc n x lo hi mx=>simp only[qG,q,zl4]; rfl
 | slcA n cnt x lo hi mx=>simp only[qG,q,zl4]; rfl
 | _=>rfl
def zut{α:Type}(o:Ob)(k:Ob->α):α:=
 match o with
 | .blk cs=>zct cs λcs'=>k (.blk cs')
 | o=>k o
theorem zkZ(o:Ob)(k:Ob->α):zut o k=k o:=by cases o<;>simp[zut,zbW]
def zjc{α:Type}(env:List V)(ps:List Nat)(vs:List V)(k:List V->Option α):Option α:=
 match ps,vs with
 | [],[]=>k env
 | p :: ps,v :: vs=>fcV v λv'=>znZ env p v' λenv'=>zjc env' ps vs k
 | _,_=>none
theorem zh8{α:Type}:∀(ps:List Nat) (vs:List V) (env:List V) (k:List V->Option α),zjc env ps vs k=(match zek env ps vs with | some e=>k e | none=>none)
 | [],[],env,k=>rfl
 | p :: ps,v :: vs,env,k=>by simp only[zjc,zek,ztY,zfX,zh8 ps vs]
 | [],_ :: _,_,_=>rfl
 | _ :: _,[],_,_=>rfl
def zgD(h:zaj)(env:List V):RX->Option V
 | .tmp k=>nth env k
 | .cell k n=>(match nth env k with
  | some (.ptr β o)=>(match zvC h β with
   | some cs=>zj3 cs o n
   | none=>none)
  | _=>none)
theorem zm1(h:zaj)(env:List V)(x:RX):zgD h env x=zeQ h env x:=by
 cases x with
 | tmp k=>simp[zgD,zeQ,zft]
 | cell k n=>
  simp only[zgD,zeQ,zft,zoy,zgp];cases env[k]? with
  | none=>rfl
  | some v=>cases v<;>first | rfl | (simp only[]; cases zao h _<;>rfl)
end Go.Mx
