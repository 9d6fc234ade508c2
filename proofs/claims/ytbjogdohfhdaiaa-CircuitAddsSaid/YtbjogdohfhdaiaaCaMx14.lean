/-
 The machine once more, step by step in full, for the kernel: it computes the same. Conditions: none.
-/
import Derived.Test.YtbjogdohfhdaiaaCaJ19
set_option linter.unusedSimpArgs false
set_option linter.unusedVariables false
namespace Go.Mx
open Go
def zcs{α:Type}(n:Nat)(k:Nat->α):α:=
 match n with
 | .zero=>k .zero
 | .succ m=>k (.succ m)
variable{α:Type}
theorem zbP(n:Nat)(k:Nat->α):zcs n k=k n:=by cases n<;>rfl
def zsh{α:Type}(n:Int)(k:Int->α):α:=
 match n with
 | .ofNat m=>zcs m λm'=>k (.ofNat m')
 | .negSucc m=>zcs m λm'=>k (.negSucc m')
theorem zmu(n:Int)(k:Int->α):zsh n k=k n:=by cases n<;>simp[zsh,zbP]
def zqP{α:Type}(b:Bool)(k:Bool->α):α:=
 match b with
 | true=>k true
 | false=>k false
theorem zkc(b:Bool)(k:Bool->α):zqP b k=k b:=by cases b<;>rfl
def zcc{α β:Type}(l:List β)(k:List β->α):α:=
 match l with
 | []=>k []
 | x :: r=>zcc r λr'=>k (x :: r')
theorem zbJ{α β:Type}:∀(l:List β) (k:List β->α),zcc l k=k l
 | [],_=>rfl
 | x :: r,k=>by simp[zcc,zbJ r]
def zwy{α:Type}(o:Option Nat)(k:Option Nat->α):α:=
 match o with
 | none=>k none
 | some n=>zcs n λn'=>k (some n')
theorem zo7(o:Option Nat)(k:Option Nat->α):zwy o k=k o:=by cases o<;>simp[zwy,zbP]
def fcV{α:Type}(v:V)(k:V->α):α:=
 match v with
 | .lit (.int kd n)=>zsh n λn'=>k (.lit (.int kd n'))
 | .lit (.bool b)=>zqP b λb'=>k (.lit (.bool b'))
 | .lit x=>k (.lit x)
 | .ptr β o=>zcs β λβ'=>zcs o λo'=>k (.ptr β' o')
 | .sl β o n len cap=>zcs β λβ'=>zcs o λo'=>zcs n λn'=>zcs len λlen'=>zwy cap λcap'=>k (.sl β' o' n' len' cap')
 | .clo f a b=>zcc a λa'=>zcc b λb'=>k (.clo f a' b')
 | .agg vs=>zcc vs λvs'=>k (.agg vs')
 | .tup vs=>zcc vs λvs'=>k (.tup vs')
 | v=>k v
theorem zwa(v:V)(k:V->α):fcV v k=k v:=by
 cases v with
 | lit x=>cases x<;>simp[fcV,zmu,zkc]
 | _=>simp[fcV,zbP,zo7,zbJ]
def zn8{α β:Type}(l:List β)(n:Nat)(v:β)(k:List β->α):α:=
 match l with
 | []=>k []
 | x :: r=>match n with
  | .zero=>k (v :: r)
  | .succ m=>zn8 r m v λr'=>k (x :: r')
theorem zfO{α β:Type}:∀(l:List β) (n:Nat) (v:β) (k:List β->α),zn8 l n v k=k (l.set n v)
 | [],n,v,k=>by simp[zn8]
 | x :: r,0,v,k=>by simp[zn8]
 | x :: r,n+1,v,k=>by simp[zn8,zfO r n]
def nth{β:Type}(l:List β)(n:Nat):Option β:=
 match l with
 | []=>none
 | x :: r=>match n with
  | .zero=>some x
  | .succ m=>nth r m
theorem zfu{β:Type}:∀(l:List β) (n:Nat),nth l n=l[n]?
 | [],n=>by simp[nth]
 | x :: r,0=>by simp[nth]
 | x :: r,n+1=>by simp[nth,zfu r n]
def zwE(h:zaf)(β:Nat):Option (List V):=
 match nth h β with
 | some (.blk cs)=>some cs
 | _=>none
theorem zqf(h:zaf)(β:Nat):zwE h β=zak h β:=by simp only[zwE,zak,zfu]; rfl
def zm9(g:X->Option V)(x:X):Option Int:=match g x with | some (.lit (.int _ n))=>some n | _=>none
def zwq(g:X->Option V)(x:X):Option Bool:=match g x with | some (.lit (.bool b))=>some b | _=>none
def zkN(g:X->Option V):Option X->Option (Option Int)
 | none=>some none
 | some x=>(zm9 g x).map some
def zjG(cs:List V)(o:Nat):Option Nat->Option V
 | none=>nth cs o
 | some n=>(slot o n cs).map .agg
theorem zgh(cs:List V)(o:Nat)(n:Option Nat):zjG cs o n=takeN cs o n:=by cases n<;>simp[zjG,takeN,zfu]
def zrs(g:X->Option V)(cs:List V):List (Nat×Nat×X)->Option (List V)
 | []=>some cs
 |(off,n,x):: r=>match (g x).bind V.cells with
  | some l=>bif (l.length == n) && Nat.ble (off+n) cs.length then zcc (zaR cs off l) λcs'=>zrs g cs' r else none
  | none=>none
theorem zlI(env:List V):∀(ps:List (Nat×Nat×X)) (cs:List V),zrs (ev env) cs ps=zd7 env cs ps
 | [],cs=>rfl
 |(off,n,x):: r,cs=>by
  simp only[zrs,zd7,zbJ,zlI env r]; rfl
def zw8(blk:Nat->Option (List V))(β n:Nat):Bool:=match blk β with | some cs=>Nat.ble n cs.length | none=>false
def zr6(g:X->Option V)(blk:Nat->Option (List V))(β:Nat)(x:X):Bool:=match g x with
 | some (.ptr γ _)=>(match blk γ with | some _=>true | none=>false) && !(γ == β)
 | _=>false
def ztQ(g:X->Option V)(blk:Nat->Option (List V))(xs:List X)(y:X):Bool:=match g y with
 | some v=>(match znO v with
  | some β=>xs.all (zr6 g blk β)
  | none=>true)
 | none=>false
theorem zrC(h:zaf)(env:List V)(xs:List X)(y:X):ztQ (ev env) (zak h) xs y=znR h env xs y:=by
 have hb:∀ β,zr6 (ev env) (zak h) β=ztq h env β:=by
  intro β
  funext x
  simp only[zr6,ztq];cases ev env x with
  | none=>rfl
  | some v=>
   cases v with
   | ptr γ o=>simp only[]; cases zak h γ<;>rfl
   | _=>rfl
 simp only[ztQ,znR];cases ev env y with
 | none=>rfl
 | some v=>
  simp only[];cases znO v with
  | none=>rfl
  | some β=>simp only[show zr6 (ev env) (zak h)=ztq h env from funext hb]
def qG(g:X->Option V)(gs:List X->Option (List V))(blk:Nat->Option (List V)):I->Option V
 | .mov x=>g x
 | .avo xs y=>bif ztQ g blk xs y then some zav else none
 | .pick c a b=>(match zwq g c with
  | some true=>g a
  | some false=>g b
  | none=>none)
 | .build z parts=>(zrs g (z.map .lit) parts).map .agg
 | .load n x=>(match g x with
  | some (.ptr β o)=>(match blk β with
   | some cs=>zjG cs o n
   | none=>none)
  | _=>none)
 | .fld off x=>(match g x with
  | some (.ptr β o)=>some (.ptr β (o+off))
  | _=>none)
 | .idxS n x i=>(match g x,zm9 g i with
  | some (.sl β o n' len _),some m=>bif (n == n') && decide (0<=m) && decide (m<len)then some (.ptr β (o+m.toNat * n))else none
  | _,_=>none)
 | .idxA n cnt x i=>(match g x,zm9 g i with
  | some (.ptr β o),some m=>bif decide (0<=m) && decide (m<cnt)then some (.ptr β (o+m.toNat * n))else none
  | _,_=>none)
 | .idxV n cnt x i=>(match g x,zm9 g i with
  | some (.agg vs),some m=>bif decide (0<=m) && decide (m<cnt)then zjG vs (m.toNat * n.getD 1) n else none
  | _,_=>none)
 | .part n off x=>(match g x with
  | some (.agg vs)=>zjG vs off n
  | _=>none)
 | .bin op x y=>(match g x,g y with
  | some v,some v'=>zkj op v v'
  | _,_=>none)
 | .eqb neg x y=>(match zwq g x,zwq g y with
  | some a,some b=>some (.lit (.bool (bif neg then !(a == b)else(a == b))))
  | _,_=>none)
 | .eqa n neg x y=>(match g x,g y with
  | some (.agg vs),some (.agg ws)=>bif Nat.beq vs.length n && Nat.beq ws.length n then(match zrH vs ws with
   | some b=>some (.lit (.bool (bif neg then !b else b)))
   | none=>none)else none
  | _,_=>none)
 | .eqn neg x=>(match g x with
  | some (.lit (.slice none 0 0))=>some (.lit (.bool !neg))
  | some (.sl ..)=>some (.lit (.bool neg))
  | _=>none)
 | .eqi neg x=>(match g x with
  | some (.lit .nilIface)=>some (.lit (.bool !neg))
  | some (.ifc ..)=>some (.lit (.bool neg))
  | _=>none)
 | .eqp neg x=>(match g x with
  | some (.lit (.pointer none))=>some (.lit (.bool !neg))
  | some (.ptr ..)=>some (.lit (.bool neg))
  | _=>none)
 | .un op x=>(match g x with
  | some v=>unV op v
  | none=>none)
 | .conv k x=>(match zm9 g x with
  | some m=>some (.lit (.int k (k.wrap m)))
  | none=>none)
 | .len x=>(match g x with
  | some v=>zuY v
  | none=>none)
 | .mm b xs=>(match gs xs with
  | some (v :: vs)=>mms b v vs
  | _=>none)
 | .ext x i=>(match g x with
  | some (.tup vs)=>nth vs i
  | _=>none)
 | .slc n x lo hi mx=>(match g x,zkN g lo,zkN g hi,zkN g mx with
  | some v,some l,some hh,some m=>zuS blk n l hh m v
  | _,_,_,_=>none)
 | .slcA n cnt x lo hi mx=>(match g x,zkN g lo,zkN g hi,zkN g mx with
  | some (.ptr β o),some l,some hh,some m=>bif Nat.blt 0 n && Nat.blt cnt (2 ^ 63) && zw8 blk β (o+cnt * n)then(bounds cnt (some cnt) l hh m).map λ(l,hh,c)=>.sl β (o+l * n) n (hh - l) c else none
  | _,_,_,_=>none)
 | .nilck x=>(match g x with
  | some (.ptr β o)=>some (.ptr β o)
  | some (.clo f a b)=>some (.clo f a b)
  | _=>none)
 | .clo f first cap=>(match gs first,gs cap with
  | some vs,some vs'=>some (.clo f vs vs')
  | _,_=>none)
 | .mkI t x=>(match g x with
  | some v=>some (.ifc t v)
  | none=>none)
 | .chr l i=>(match zm9 g i with
  | some m=>bif decide (0<=m)then(match nth l m.toNat with
   | some b=>some (.lit (.int .u8 (Int.ofNat b)))
   | none=>none)else none
  | none=>none)
 | _=>none
theorem zpC(env:List V)(x:X):zm9 (ev env) x=evI env x:=rfl
theorem zmw(env:List V)(x:Option X):zkN (ev env) x=zm5 env x:=by cases x<;>rfl
theorem zxu(h:zaf)(env:List V)(i:I):qG (ev env) (evs env) (zak h) i=q h env i:=by
 cases i with
 | build z ps=>simp only[qG,q,zlI]
 | avo xs y=>simp only[qG,q,zrC]
 | load n x=>
  simp only[qG,q,zgh];cases ev env x with
  | none=>rfl
  | some v=>
   cases v<;>first | rfl | (simp only[]; cases zak h _<;>rfl)
 | idxV n cnt x i=>simp only[qG,q,zgh,zpC]; rfl
 | part n off x=>simp only[qG,q,zgh]; rfl
 | ext x i=>simp only[qG,q,zfu]; rfl
 | un op x=>simp only[qG,q]; cases ev env x<;>rfl
 | len x=>simp only[qG,q]; cases ev env x<;>rfl
 | mkI t x=>simp only[qG,q]; cases ev env x<;>rfl
 | chr l i=>
  simp only[qG,q,zpC,zfu];cases evI env i with
  | none=>rfl
  | some m=>simp only[]; cases l[m.toNat]?<;>rfl
 | slc n x lo hi mx=>simp only[qG,q,zmw]; rfl
 | slcA n cnt x lo hi mx=>simp only[qG,q,zmw]; rfl
 | _=>rfl
def zwf{α:Type}(o:Ob)(k:Ob->α):α:=
 match o with
 | .blk cs=>zcc cs λcs'=>k (.blk cs')
 | o=>k o
theorem zlj(o:Ob)(k:Ob->α):zwf o k=k o:=by cases o<;>simp[zwf,zbJ]
def zit{α:Type}(env:List V)(ps:List Nat)(vs:List V)(k:List V->Option α):Option α:=
 match ps,vs with
 | [],[]=>k env
 | p :: ps,v :: vs=>fcV v λv'=>zn8 env p v' λenv'=>zit env' ps vs k
 | _,_=>none
theorem zhW{α:Type}:∀(ps:List Nat) (vs:List V) (env:List V) (k:List V->Option α),zit env ps vs k=(match zeb env ps vs with | some e=>k e | none=>none)
 | [],[],env,k=>rfl
 | p :: ps,v :: vs,env,k=>by simp only[zit,zeb,zwa,zfO,zhW ps vs]
 | [],_ :: _,_,_=>rfl
 | _ :: _,[],_,_=>rfl
def zgT(h:zaf)(env:List V):RX->Option V
 | .tmp k=>nth env k
 | .cell k n=>(match nth env k with
  | some (.ptr β o)=>(match zwE h β with
   | some cs=>zjG cs o n
   | none=>none)
  | _=>none)
theorem zmX(h:zaf)(env:List V)(x:RX):zgT h env x=zdD h env x:=by
 cases x with
 | tmp k=>simp[zgT,zdD,zfu]
 | cell k n=>
  simp only[zgT,zdD,zfu,zqf,zgh];cases env[k]? with
  | none=>rfl
  | some v=>cases v<;>first | rfl | (simp only[]; cases zak h _<;>rfl)
end Go.Mx
