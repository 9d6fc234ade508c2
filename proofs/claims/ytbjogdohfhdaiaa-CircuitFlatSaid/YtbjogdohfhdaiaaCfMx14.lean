/-
 The machine once more, step by step in full, for the kernel: it computes the same. Conditions: none.
-/
import Derived.Test.YtbjogdohfhdaiaaCfJ19
set_option linter.unusedSimpArgs false
set_option linter.unusedVariables false
namespace Go.Mx
open Go
def zdt{α:Type}(n:Nat)(k:Nat->α):α:=
 match n with
 | .zero=>k .zero
 | .succ m=>k (.succ m)
variable{α:Type}
theorem zcg(n:Nat)(k:Nat->α):zdt n k=k n:=by cases n<;>rfl
def zvu{α:Type}(n:Int)(k:Int->α):α:=
 match n with
 | .ofNat m=>zdt m λm'=>k (.ofNat m')
 | .negSucc m=>zdt m λm'=>k (.negSucc m')
theorem zpL(n:Int)(k:Int->α):zvu n k=k n:=by cases n<;>simp[zvu,zcg]
def zsK{α:Type}(b:Bool)(k:Bool->α):α:=
 match b with
 | true=>k true
 | false=>k false
theorem zmU(b:Bool)(k:Bool->α):zsK b k=k b:=by cases b<;>rfl
def zcQ{α β:Type}(l:List β)(k:List β->α):α:=
 match l with
 | []=>k []
 | x :: r=>zcQ r λr'=>k (x :: r')
theorem zb5{α β:Type}:∀(l:List β) (k:List β->α),zcQ l k=k l
 | [],_=>rfl
 | x :: r,k=>by simp[zcQ,zb5 r]
def zBL{α:Type}(o:Option Nat)(k:Option Nat->α):α:=
 match o with
 | none=>k none
 | some n=>zdt n λn'=>k (some n')
theorem zs0(o:Option Nat)(k:Option Nat->α):zBL o k=k o:=by cases o<;>simp[zBL,zcg]
def fcV{α:Type}(v:V)(k:V->α):α:=
 match v with
 | .lit (.int kd n)=>zvu n λn'=>k (.lit (.int kd n'))
 | .lit (.bool b)=>zsK b λb'=>k (.lit (.bool b'))
 | .lit x=>k (.lit x)
 | .ptr β o=>zdt β λβ'=>zdt o λo'=>k (.ptr β' o')
 | .sl β o n len cap=>zdt β λβ'=>zdt o λo'=>zdt n λn'=>zdt len λlen'=>zBL cap λcap'=>k (.sl β' o' n' len' cap')
 | .clo f a b=>zcQ a λa'=>zcQ b λb'=>k (.clo f a' b')
 | .agg vs=>zcQ vs λvs'=>k (.agg vs')
 | .tup vs=>zcQ vs λvs'=>k (.tup vs')
 | v=>k v
theorem zAV(v:V)(k:V->α):fcV v k=k v:=by
 cases v with
 | lit x=>cases x<;>simp[fcV,zpL,zmU]
 | _=>simp[fcV,zcg,zs0,zb5]
def ztO{α β:Type}(l:List β)(n:Nat)(v:β)(k:List β->α):α:=
 match l with
 | []=>k []
 | x :: r=>match n with
  | .zero=>k (v :: r)
  | .succ m=>ztO r m v λr'=>k (x :: r')
theorem zhl{α β:Type}:∀(l:List β) (n:Nat) (v:β) (k:List β->α),ztO l n v k=k (l.set n v)
 | [],n,v,k=>by simp[ztO]
 | x :: r,0,v,k=>by simp[ztO]
 | x :: r,n+1,v,k=>by simp[ztO,zhl r n]
def nth{β:Type}(l:List β)(n:Nat):Option β:=
 match l with
 | []=>none
 | x :: r=>match n with
  | .zero=>some x
  | .succ m=>nth r m
theorem zgY{β:Type}:∀(l:List β) (n:Nat),nth l n=l[n]?
 | [],n=>by simp[nth]
 | x :: r,0=>by simp[nth]
 | x :: r,n+1=>by simp[nth,zgY r n]
def zB2(h:zaj)(β:Nat):Option (List V):=
 match nth h β with
 | some (.blk cs)=>some cs
 | _=>none
theorem zti(h:zaj)(β:Nat):zB2 h β=zas h β:=by simp only[zB2,zas,zgY]; rfl
def zqV(g:X->Option V)(x:X):Option Int:=match g x with | some (.lit (.int _ n))=>some n | _=>none
def zBM(g:X->Option V)(x:X):Option Bool:=match g x with | some (.lit (.bool b))=>some b | _=>none
def zop(g:X->Option V):Option X->Option (Option Int)
 | none=>some none
 | some x=>(zqV g x).map some
def zmx(cs:List V)(o:Nat):Option Nat->Option V
 | none=>nth cs o
 | some n=>(slot o n cs).map .agg
theorem zhT(cs:List V)(o:Nat)(n:Option Nat):zmx cs o n=takeN cs o n:=by cases n<;>simp[zmx,takeN,zgY]
def zu8(g:X->Option V)(cs:List V):List (Nat×Nat×X)->Option (List V)
 | []=>some cs
 |(off,n,x):: r=>match (g x).bind V.cells with
  | some l=>bif (l.length == n) && Nat.ble (off+n) cs.length then zcQ (za7 cs off l) λcs'=>zu8 g cs' r else none
  | none=>none
theorem zpu(env:List V):∀(ps:List (Nat×Nat×X)) (cs:List V),zu8 (ev env) cs ps=ze5 env cs ps
 | [],cs=>rfl
 |(off,n,x):: r,cs=>by
  simp only[zu8,ze5,zb5,zpu env r]; rfl
def zCY(blk:Nat->Option (List V))(β n:Nat):Bool:=match blk β with | some cs=>Nat.ble n cs.length | none=>false
def zv1(g:X->Option V)(blk:Nat->Option (List V))(β:Nat)(x:X):Bool:=match g x with
 | some (.ptr γ _)=>(match blk γ with | some _=>true | none=>false) && !(γ == β)
 | _=>false
def zzd(g:X->Option V)(blk:Nat->Option (List V))(xs:List X)(y:X):Bool:=match g y with
 | some v=>(match zrt v with
  | some β=>xs.all (zv1 g blk β)
  | none=>true)
 | none=>false
theorem zwz(h:zaj)(env:List V)(xs:List X)(y:X):zzd (ev env) (zas h) xs y=zrm h env xs y:=by
 have hb:∀ β,zv1 (ev env) (zas h) β=zyH h env β:=by
  intro β
  funext x
  simp only[zv1,zyH];cases ev env x with
  | none=>rfl
  | some v=>
   cases v with
   | ptr γ o=>simp only[]; cases zas h γ<;>rfl
   | _=>rfl
 simp only[zzd,zrm];cases ev env y with
 | none=>rfl
 | some v=>
  simp only[];cases zrt v with
  | none=>rfl
  | some β=>simp only[show zv1 (ev env) (zas h)=zyH h env from funext hb]
def qG(g:X->Option V)(gs:List X->Option (List V))(blk:Nat->Option (List V)):I->Option V
 | .mov x=>g x
 | .avo xs y=>bif zzd g blk xs y then some zaG else none
 | .pick c a b=>(match zBM g c with
  | some true=>g a
  | some false=>g b
  | none=>none)
 | .build z parts=>(zu8 g (z.map .lit) parts).map .agg
 | .load n x=>(match g x with
  | some (.ptr β o)=>(match blk β with
   | some cs=>zmx cs o n
   | none=>none)
  | _=>none)
 | .fld off x=>(match g x with
  | some (.ptr β o)=>some (.ptr β (o+off))
  | _=>none)
 | .idxS n x i=>(match g x,zqV g i with
  | some (.sl β o n' len _),some m=>bif (n == n') && decide (0<=m) && decide (m<len)then some (.ptr β (o+m.toNat * n))else none
  | _,_=>none)
 | .idxA n cnt x i=>(match g x,zqV g i with
  | some (.ptr β o),some m=>bif decide (0<=m) && decide (m<cnt)then some (.ptr β (o+m.toNat * n))else none
  | _,_=>none)
 | .idxV n cnt x i=>(match g x,zqV g i with
  | some (.agg vs),some m=>bif decide (0<=m) && decide (m<cnt)then zmx vs (m.toNat * n.getD 1) n else none
  | _,_=>none)
 | .part n off x=>(match g x with
  | some (.agg vs)=>zmx vs off n
  | _=>none)
 | .bin op x y=>(match g x,g y with
  | some v,some v'=>zmR op v v'
  | _,_=>none)
 | .eqb neg x y=>(match zBM g x,zBM g y with
  | some a,some b=>some (.lit (.bool (bif neg then !(a == b)else(a == b))))
  | _,_=>none)
 | .eqa n neg x y=>(match g x,g y with
  | some (.agg vs),some (.agg ws)=>bif Nat.beq vs.length n && Nat.beq ws.length n then(match zvM vs ws with
   | some b=>some (.lit (.bool (bif neg then !b else b)))
   | none=>none)else none
  | _,_=>none)
 | .eqn neg x=>(match g x with
  | some (.lit (.slice none 0 0))=>some (.lit (.bool !neg))
  | some (.sl ..)=>some (.lit (.bool neg))
  | _=>none)
 | .eqi neg x=>(match g x with
  | some (.lit .nilIface)=>some (.lit (.bool !neg))
  | some (.ifc ..)=>some (.lit (.bool neg))
  | _=>none)
 | .eqp neg x=>(match g x with
  | some (.lit (.pointer none))=>some (.lit (.bool !neg))
  | some (.ptr ..)=>some (.lit (.bool neg))
  | _=>none)
 | .un op x=>(match g x with
  | some v=>unV op v
  | none=>none)
 | .conv k x=>(match zqV g x with
  | some m=>some (.lit (.int k (k.wrap m)))
  | none=>none)
 | .len x=>(match g x with
  | some v=>zzO v
  | none=>none)
 | .mm b xs=>(match gs xs with
  | some (v :: vs)=>mms b v vs
  | _=>none)
 | .ext x i=>(match g x with
  | some (.tup vs)=>nth vs i
  | _=>none)
 | .slc n x lo hi mx=>(match g x,zop g lo,zop g hi,zop g mx with
  | some v,some l,some hh,some m=>zA7 blk n l hh m v
  | _,_,_,_=>none)
 | .slcA n cnt x lo hi mx=>(match g x,zop g lo,zop g hi,zop g mx with
  | some (.ptr β o),some l,some hh,some m=>bif Nat.blt 0 n && Nat.blt cnt (2 ^ 63) && zCY blk β (o+cnt * n)then(bounds cnt (some cnt) l hh m).map λ(l,hh,c)=>.sl β (o+l * n) n (hh - l) c else none
  | _,_,_,_=>none)
 | .nilck x=>(match g x with
  | some (.ptr β o)=>some (.ptr β o)
  | some (.clo f a b)=>some (.clo f a b)
  | _=>none)
 | .clo f first cap=>(match gs first,gs cap with
  | some vs,some vs'=>some (.clo f vs vs')
  | _,_=>none)
 | .mkI t x=>(match g x with
  | some v=>some (.ifc t v)
  | none=>none)
 | .chr l i=>(match zqV g i with
  | some m=>bif decide (0<=m)then(match nth l m.toNat with
   | some b=>some (.lit (.int .u8 (Int.ofNat b)))
   | none=>none)else none
  | none=>none)
 | _=>none
theorem zrB(env:List V)(x:X):zqV (ev env) x=evI env x:=rfl
theorem zoY(env:List V)(x:Option X):zop (ev env) x=zqr env x:=by cases x<;>rfl
theorem zCi(h:zaj)(env:List V)(i:I):qG (ev env) (evs env) (zas h) i=q h env i:=by
 cases i with
 | build z ps=>simp only[qG,q,zpu]
 | avo xs y=>simp only[qG,q,zwz]
 | load n x=>
  simp only[qG,q,zhT];cases ev env x with
  | none=>rfl
  | some v=>
   cases v<;>first | rfl | (simp only[]; cases zas h _<;>rfl)
 | idxV n cnt x i=>simp only[qG,q,zhT,zrB]; rfl
 | part n off x=>simp only[qG,q,zhT]; rfl
 | ext x i=>simp only[qG,q,zgY]; rfl
 | un op x=>simp only[qG,q]; cases ev env x<;>rfl
 | len x=>simp only[qG,q]; cases ev env x<;>rfl
 | mkI t x=>simp only[qG,q]; cases ev env x<;>rfl
 | chr l i=>
  simp only[qG,q,zrB,zgY];cases evI env i with
  | none=>rfl
  | some m=>simp only[]; cases l[m.toNat]?<;>rfl
 | slc n x lo hi mx=>simp only[qG,q,zoY]; rfl
 | slcA n cnt x lo hi mx=>simp only[qG,q,zoY]; rfl
 | _=>rfl
def zAr{α:Type}(o:Ob)(k:Ob->α):α:=
 match o with
 | .blk cs=>zcQ cs λcs'=>k (.blk cs')
 | o=>k o
theorem zn0(o:Ob)(k:Ob->α):zAr o k=k o:=by cases o<;>simp[zAr,zb5]
def zkE{α:Type}(env:List V)(ps:List Nat)(vs:List V)(k:List V->Option α):Option α:=
 match ps,vs with
 | [],[]=>k env
 | p :: ps,v :: vs=>fcV v λv'=>ztO env p v' λenv'=>zkE env' ps vs k
 | _,_=>none
theorem zj8{α:Type}:∀(ps:List Nat) (vs:List V) (env:List V) (k:List V->Option α),zkE env ps vs k=(match ze7 env ps vs with | some e=>k e | none=>none)
 | [],[],env,k=>rfl
 | p :: ps,v :: vs,env,k=>by simp only[zkE,ze7,zAV,zhl,zj8 ps vs]
 | [],_ :: _,_,_=>rfl
 | _ :: _,[],_,_=>rfl
def zja(h:zaj)(env:List V):RX->Option V
 | .tmp k=>nth env k
 | .cell k n=>(match nth env k with
  | some (.ptr β o)=>(match zB2 h β with
   | some cs=>zmx cs o n
   | none=>none)
  | _=>none)
theorem zrd(h:zaj)(env:List V)(x:RX):zja h env x=zeN h env x:=by
 cases x with
 | tmp k=>simp[zja,zeN,zgY]
 | cell k n=>
  simp only[zja,zeN,zgY,zti,zhT];cases env[k]? with
  | none=>rfl
  | some v=>cases v<;>first | rfl | (simp only[]; cases zas h _<;>rfl)
end Go.Mx
