/-
 The machine once more, step by step in full, for the kernel: it computes the same. Conditions: none.
-/
import Derived.Test.YtbjogdohfhdaiaaGreatENJ19
set_option linter.unusedSimpArgs false
set_option linter.unusedVariables false
namespace Go.Mx
open Go
def zdo{α:Type}(n:Nat)(k:Nat->α):α:=
 match n with
 | .zero=>k .zero
 | .succ m=>k (.succ m)
variable{α:Type}
theorem zcd(n:Nat)(k:Nat->α):zdo n k=k n:=by cases n<;>rfl
def zwE{α:Type}(n:Int)(k:Int->α):α:=
 match n with
 | .ofNat m=>zdo m λm'=>k (.ofNat m')
 | .negSucc m=>zdo m λm'=>k (.negSucc m')
theorem zqU(n:Int)(k:Int->α):zwE n k=k n:=by cases n<;>simp[zwE,zcd]
def zt4{α:Type}(b:Bool)(k:Bool->α):α:=
 match b with
 | true=>k true
 | false=>k false
theorem zmu(b:Bool)(k:Bool->α):zt4 b k=k b:=by cases b<;>rfl
def zdi{α β:Type}(l:List β)(k:List β->α):α:=
 match l with
 | []=>k []
 | x :: r=>zdi r λr'=>k (x :: r')
theorem zcB{α β:Type}:∀(l:List β) (k:List β->α),zdi l k=k l
 | [],_=>rfl
 | x :: r,k=>by simp[zdi,zcB r]
def zCJ{α:Type}(o:Option Nat)(k:Option Nat->α):α:=
 match o with
 | none=>k none
 | some n=>zdo n λn'=>k (some n')
theorem zvz(o:Option Nat)(k:Option Nat->α):zCJ o k=k o:=by cases o<;>simp[zCJ,zcd]
def fcV{α:Type}(v:V)(k:V->α):α:=
 match v with
 | .lit (.int kd n)=>zwE n λn'=>k (.lit (.int kd n'))
 | .lit (.bool b)=>zt4 b λb'=>k (.lit (.bool b'))
 | .lit x=>k (.lit x)
 | .ptr β o=>zdo β λβ'=>zdo o λo'=>k (.ptr β' o')
 | .sl β o n len cap=>zdo β λβ'=>zdo o λo'=>zdo n λn'=>zdo len λlen'=>zCJ cap λcap'=>k (.sl β' o' n' len' cap')
 | .clo f a b=>zdi a λa'=>zdi b λb'=>k (.clo f a' b')
 | .agg vs=>zdi vs λvs'=>k (.agg vs')
 | .tup vs=>zdi vs λvs'=>k (.tup vs')
 | v=>k v
theorem zBG(v:V)(k:V->α):fcV v k=k v:=by
 cases v with
 | lit x=>cases x<;>simp[fcV,zqU,zmu]
 | _=>simp[fcV,zcd,zvz,zcB]
def zuc{α β:Type}(l:List β)(n:Nat)(v:β)(k:List β->α):α:=
 match l with
 | []=>k []
 | x :: r=>match n with
  | .zero=>k (v :: r)
  | .succ m=>zuc r m v λr'=>k (x :: r')
theorem zhN{α β:Type}:∀(l:List β) (n:Nat) (v:β) (k:List β->α),zuc l n v k=k (l.set n v)
 | [],n,v,k=>by simp[zuc]
 | x :: r,0,v,k=>by simp[zuc]
 | x :: r,n+1,v,k=>by simp[zuc,zhN r n]
def nth{β:Type}(l:List β)(n:Nat):Option β:=
 match l with
 | []=>none
 | x :: r=>match n with
  | .zero=>some x
  | .succ m=>nth r m
theorem zhv{β:Type}:∀(l:List β) (n:Nat),nth l n=l[n]?
 | [],n=>by simp[nth]
 | x :: r,0=>by simp[nth]
 | x :: r,n+1=>by simp[nth,zhv r n]
def zDM(h:zan)(β:Nat):Option (List V):=
 match nth h β with
 | some (.blk cs)=>some cs
 | _=>none
theorem zvA(h:zan)(β:Nat):zDM h β=zax h β:=by simp only[zDM,zax,zhv]; rfl
def zrI(g:X->Option V)(x:X):Option Int:=match g x with | some (.lit (.int _ n))=>some n | _=>none
def zCE(g:X->Option V)(x:X):Option Bool:=match g x with | some (.lit (.bool b))=>some b | _=>none
def zo2(g:X->Option V):Option X->Option (Option Int)
 | none=>some none
 | some x=>(zrI g x).map some
def zne(cs:List V)(o:Nat):Option Nat->Option V
 | none=>nth cs o
 | some n=>(slot o n cs).map .agg
theorem zin(cs:List V)(o:Nat)(n:Option Nat):zne cs o n=takeN cs o n:=by cases n<;>simp[zne,takeN,zhv]
def zwg(g:X->Option V)(cs:List V):List (Nat×Nat×X)->Option (List V)
 | []=>some cs
 |(off,n,x):: r=>match (g x).bind V.cells with
  | some l=>bif (l.length == n) && Nat.ble (off+n) cs.length then zdi (zbo cs off l) λcs'=>zwg g cs' r else none
  | none=>none
theorem zqV(env:List V):∀(ps:List (Nat×Nat×X)) (cs:List V),zwg (ev env) cs ps=zfS env cs ps
 | [],cs=>rfl
 |(off,n,x):: r,cs=>by
  simp only[zwg,zfS,zcB,zqV env r]; rfl
def zDi(blk:Nat->Option (List V))(β n:Nat):Bool:=match blk β with | some cs=>Nat.ble n cs.length | none=>false
def zwR(g:X->Option V)(blk:Nat->Option (List V))(β:Nat)(x:X):Bool:=match g x with
 | some (.ptr γ _)=>(match blk γ with | some _=>true | none=>false) && !(γ == β)
 | _=>false
def zyH(g:X->Option V)(blk:Nat->Option (List V))(xs:List X)(y:X):Bool:=match g y with
 | some v=>(match zr1 v with
  | some β=>xs.all (zwR g blk β)
  | none=>true)
 | none=>false
theorem zvL(h:zan)(env:List V)(xs:List X)(y:X):zyH (ev env) (zax h) xs y=zsb h env xs y:=by
 have hb:∀ β,zwR (ev env) (zax h) β=zy4 h env β:=by
  intro β
  funext x
  simp only[zwR,zy4];cases ev env x with
  | none=>rfl
  | some v=>
   cases v with
   | ptr γ o=>simp only[]; cases zax h γ<;>rfl
   | _=>rfl
 simp only[zyH,zsb];cases ev env y with
 | none=>rfl
 | some v=>
  simp only[];cases zr1 v with
  | none=>rfl
  | some β=>simp only[show zwR (ev env) (zax h)=zy4 h env from funext hb]
def qG(g:X->Option V)(gs:List X->Option (List V))(blk:Nat->Option (List V)):I->Option V
 | .mov x=>g x
 | .avo xs y=>bif zyH g blk xs y then some za0 else none
 | .pick c a b=>(match zCE g c with
  | some true=>g a
  | some false=>g b
  | none=>none)
 | .build z parts=>(zwg g (z.map .lit) parts).map .agg
 | .load n x=>(match g x with
  | some (.ptr β o)=>(match blk β with
   | some cs=>zne cs o n
   | none=>none)
  | _=>none)
 | .fld off x=>(match g x with
  | some (.ptr β o)=>some (.ptr β (o+off))
  | _=>none)
 | .idxS n x i=>(match g x,zrI g i with
  | some (.sl β o n' len _),some m=>bif (n == n') && decide (0<=m) && decide (m<len)then some (.ptr β (o+m.toNat * n))else none
  | _,_=>none)
 | .idxA n cnt x i=>(match g x,zrI g i with
  | some (.ptr β o),some m=>bif decide (0<=m) && decide (m<cnt)then some (.ptr β (o+m.toNat * n))else none
  | _,_=>none)
 | .idxV n cnt x i=>(match g x,zrI g i with
  | some (.agg vs),some m=>bif decide (0<=m) && decide (m<cnt)then zne vs (m.toNat * n.getD 1) n else none
  | _,_=>none)
 | .part n off x=>(match g x with
  | some (.agg vs)=>zne vs off n
  | _=>none)
 | .bin op x y=>(match g x,g y with
  | some v,some v'=>zmZ op v v'
  | _,_=>none)
 | .eqb neg x y=>(match zCE g x,zCE g y with
  | some a,some b=>some (.lit (.bool (bif neg then !(a == b)else(a == b))))
  | _,_=>none)
 | .eqa n neg x y=>(match g x,g y with
  | some (.agg vs),some (.agg ws)=>bif Nat.beq vs.length n && Nat.beq ws.length n then(match zwy vs ws with
   | some b=>some (.lit (.bool (bif neg then !b else b)))
   | none=>none)else none
  | _,_=>none)
 | .eqn neg x=>(match g x with
  | some (.lit (.slice none 0 0))=>some (.lit (.bool !neg))
  | some (.sl ..)=>some (.lit (.bool neg))
  | _=>none)
 | .eqi neg x=>(match g x with
  | some (.lit .nilIface)=>some (.lit (.bool !neg))
  | some (.ifc ..)=>some (.lit (.bool neg))
  | _=>none)
 | .eqp neg x=>(match g x with
  | some (.lit (.pointer none))=>some (.lit (.bool !neg))
  | some (.ptr ..)=>some (.lit (.bool neg))
  | _=>none)
 | .un op x=>(match g x with
  | some v=>unV op v
  | none=>none)
 | .conv k x=>(match zrI g x with
  | some m=>some (.lit (.int k (k.wrap m)))
  | none=>none)
 | .len x=>(match g x with
  | some v=>zBk v
  | none=>none)
 | .mm b xs=>(match gs xs with
  | some (v :: vs)=>mms b v vs
  | _=>none)
 | .ext x i=>(match g x with
  | some (.tup vs)=>nth vs i
  | _=>none)
 | .slc n x lo hi mx=>(match g x,zo2 g lo,zo2 g hi,zo2 g mx with
  | some v,some l,some hh,some m=>zAW blk n l hh m v
  | _,_,_,_=>none)
 | .slcA n cnt x lo hi mx=>(match g x,zo2 g lo,zo2 g hi,zo2 g mx with
  | some (.ptr β o),some l,some hh,some m=>bif Nat.blt 0 n && Nat.blt cnt (2 ^ 63) && zDi blk β (o+cnt * n)then(bounds cnt (some cnt) l hh m).map λ(l,hh,c)=>.sl β (o+l * n) n (hh - l) c else none
  | _,_,_,_=>none)
 | .nilck x=>(match g x with
  | some (.ptr β o)=>some (.ptr β o)
  | some (.clo f a b)=>some (.clo f a b)
  | _=>none)
 | .clo f first cap=>(match gs first,gs cap with
  | some vs,some vs'=>some (.clo f vs vs')
  | _,_=>none)
 | .mkI t x=>(match g x with
  | some v=>some (.ifc t v)
  | none=>none)
 | .chr l i=>(match zrI g i with
  | some m=>bif decide (0<=m)then(match nth l m.toNat with
   | some b=>some (.lit (.int .u8 (Int.ofNat b)))
   | none=>none)else none
  | none=>none)
 | _=>none
theorem zu5(env:List V)(x:X):zrI (ev env) x=evI env x:=rfl
theorem zp8(env:List V)(x:Option X):zo2 (ev env) x=zrX env x:=by cases x<;>rfl
theorem zDe(h:zan)(env:List V)(i:I):qG (ev env) (evs env) (zax h) i=q h env i:=by
 cases i with
 | build z ps=>simp only[qG,q,zqV]
 | avo xs y=>simp only[qG,q,zvL]
 | load n x=>
  simp only[qG,q,zin];cases ev env x with
  | none=>rfl
  | some v=>
   cases v<;>first | rfl | (simp only[]; cases zax h _<;>rfl)
 | idxV n cnt x i=>simp only[qG,q,zin,zu5]; rfl
 | part n off x=>simp only[qG,q,zin]; rfl
 | ext x i=>simp only[qG,q,zhv]; rfl
 | un op x=>simp only[qG,q]; cases ev env x<;>rfl
 | len x=>simp only[qG,q]; cases ev env x<;>rfl
 | mkI t x=>simp only[qG,q]; cases ev env x<;>rfl
 | chr l i=>
  simp only[qG,q,zu5,zhv];cases evI env i with
  | none=>rfl
  | some m=>simp only[]; cases l[m.toNat]?<;>rfl
 | slc n x lo hi mx=>simp only[qG,q,zp8]; rfl
 | slcA n cnt x lo hi mx=>simp only[qG,q,zp8]; rfl
 | _=>rfl
def zBc{α:Type}(o:Ob)(k:Ob->α):α:=
 match o with
 | .blk cs=>zdi cs λcs'=>k (.blk cs')
 | o=>k o
theorem zu3(o:Ob)(k:Ob->α):zBc o k=k o:=by cases o<;>simp[zBc,zcB]
def zmc{α:Type}(env:List V)(ps:List Nat)(vs:List V)(k:List V->Option α):Option α:=
 match ps,vs with
 | [],[]=>k env
 | p :: ps,v :: vs=>fcV v λv'=>zuc env p v' λenv'=>zmc env' ps vs k
 | _,_=>none
theorem zka{α:Type}:∀(ps:List Nat) (vs:List V) (env:List V) (k:List V->Option α),zmc env ps vs k=(match zfC env ps vs with | some e=>k e | none=>none)
 | [],[],env,k=>rfl
 | p :: ps,v :: vs,env,k=>by simp only[zmc,zfC,zBG,zhN,zka ps vs]
 | [],_ :: _,_,_=>rfl
 | _ :: _,[],_,_=>rfl
def zi3(h:zan)(env:List V):RX->Option V
 | .tmp k=>nth env k
 | .cell k n=>(match nth env k with
  | some (.ptr β o)=>(match zDM h β with
   | some cs=>zne cs o n
   | none=>none)
  | _=>none)
theorem zrB(h:zan)(env:List V)(x:RX):zi3 h env x=zgn h env x:=by
 cases x with
 | tmp k=>simp[zi3,zgn,zhv]
 | cell k n=>
  simp only[zi3,zgn,zhv,zvA,zin];cases env[k]? with
  | none=>rfl
  | some v=>cases v<;>first | rfl | (simp only[]; cases zax h _<;>rfl)
end Go.Mx
