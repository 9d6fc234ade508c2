/-
 The machine once more, step by step in full, for the kernel: it computes the same. Conditions: none.
-/
import Derived.Test.YtcfdkhbflhdjeaaNcJ16
set_option linter.unusedSimpArgs false
set_option linter.unusedVariables false
namespace Go.Mx
open Go
def zc2{α:Type}(n:Nat)(k:Nat→α):α:=
 match n with
 | .zero=>k .zero
 | .succ m=>k (.succ m)
theorem zcb{α:Type}(n:Nat)(k:Nat→α):zc2 n k=k n:=by cases n<;>rfl
def zrK{α:Type}(n:Int)(k:Int→α):α:=
 match n with
 | .ofNat m=>zc2 m fun m'=>k (.ofNat m')
 | .negSucc m=>zc2 m fun m'=>k (.negSucc m')
theorem zmn{α:Type}(n:Int)(k:Int→α):zrK n k=k n:=by cases n<;>simp[zrK,zcb]
def zpa{α:Type}(b:Bool)(k:Bool→α):α:=
 match b with
 | true=>k true
 | false=>k false
theorem zk3{α:Type}(b:Bool)(k:Bool→α):zpa b k=k b:=by cases b<;>rfl
def zcK{α β:Type}(l:List β)(k:List β→α):α:=
 match l with
 | []=>k []
 | x :: r=>zcK r fun r'=>k (x :: r')
theorem zck{α β:Type}:∀(l:List β) (k:List β→α),zcK l k=k l
 | [],_=>rfl
 | x :: r,k=>by simp[zcK,zck r]
def zvR{α:Type}(o:Option Nat)(k:Option Nat→α):α:=
 match o with
 | none=>k none
 | some n=>zc2 n fun n'=>k (some n')
theorem zqs{α:Type}(o:Option Nat)(k:Option Nat→α):zvR o k=k o:=by cases o<;>simp[zvR,zcb]
def fcV{α:Type}(v:V)(k:V→α):α:=
 match v with
 | .lit (.int kd n)=>zrK n fun n'=>k (.lit (.int kd n'))
 | .lit (.bool b)=>zpa b fun b'=>k (.lit (.bool b'))
 | .lit x=>k (.lit x)
 | .ptr β o=>zc2 β fun β'=>zc2 o fun o'=>k (.ptr β' o')
 | .sl β o n len cap=>zc2 β fun β'=>zc2 o fun o'=>zc2 n fun n'=>zc2 len fun len'=>zvR cap fun cap'=>k (.sl β' o' n' len' cap')
 | .clo f a b=>zcK a fun a'=>zcK b fun b'=>k (.clo f a' b')
 | .agg vs=>zcK vs fun vs'=>k (.agg vs')
 | .tup vs=>zcK vs fun vs'=>k (.tup vs')
 | v=>k v
theorem zvA{α:Type}(v:V)(k:V→α):fcV v k=k v:=by
 cases v with
 | lit x=>cases x<;>simp[fcV,zmn,zk3]
 | _=>simp[fcV,zcb,zqs,zck]
def zqO{α β:Type}(l:List β)(n:Nat)(v:β)(k:List β→α):α:=
 match l with
 | []=>k []
 | x :: r=>match n with
  | .zero=>k (v :: r)
  | .succ m=>zqO r m v fun r'=>k (x :: r')
theorem zi9{α β:Type}:∀(l:List β) (n:Nat) (v:β) (k:List β→α),zqO l n v k=k (l.set n v)
 | [],n,v,k=>by simp[zqO]
 | x :: r,0,v,k=>by simp[zqO]
 | x :: r,n+1,v,k=>by simp[zqO,zi9 r n]
def nth{β:Type}(l:List β)(n:Nat):Option β:=
 match l with
 | []=>none
 | x :: r=>match n with
  | .zero=>some x
  | .succ m=>nth r m
theorem zf1{β:Type}:∀(l:List β) (n:Nat),nth l n=l[n]?
 | [],n=>by simp[nth]
 | x :: r,0=>by simp[nth]
 | x :: r,n+1=>by simp[nth,zf1 r n]
def zv1(h:zap)(β:Nat):Option (List V):=
 match nth h β with
 | some (.blk cs)=>some cs
 | _=>none
theorem zpv(h:zap)(β:Nat):zv1 h β=zaM h β:=by simp only[zv1,zaM,zf1]; rfl
def znZ(g:X→Option V)(x:X):Option Int:=match g x with | some (.lit (.int _ n))=>some n | _=>none
def zvX(g:X→Option V)(x:X):Option Bool:=match g x with | some (.lit (.bool b))=>some b | _=>none
def zlK(g:X→Option V):Option X→Option (Option Int)
 | none=>some none
 | some x=>(znZ g x).map some
def zjT(cs:List V)(o:Nat):Option Nat→Option V
 | none=>nth cs o
 | some n=>(slot o n cs).map .agg
theorem zgW(cs:List V)(o:Nat)(n:Option Nat):zjT cs o n=takeN cs o n:=by cases n<;>simp[zjT,takeN,zf1]
def zrx(g:X→Option V)(cs:List V):List (Nat×Nat×X)→Option (List V)
 | []=>some cs
 |(off,n,x):: r=>match (g x).bind V.cells with
  | some l=>bif (l.length == n) && Nat.ble (off+n) cs.length then zcK (za7 cs off l) fun cs'=>zrx g cs' r else none
  | none=>none
theorem znb(env:List V):∀(ps:List (Nat×Nat×X)) (cs:List V),zrx (ev env) cs ps=zeZ env cs ps
 | [],cs=>rfl
 |(off,n,x):: r,cs=>by
  simp only[zrx,zeZ,zck,znb env r]; rfl
def zwu(blk:Nat→Option (List V))(β n:Nat):Bool:=match blk β with | some cs=>Nat.ble n cs.length | none=>false
def zr7(g:X→Option V)(blk:Nat→Option (List V))(β:Nat)(x:X):Bool:=match g x with
 | some (.ptr γ _)=>(match blk γ with | some _=>true | none=>false) && !(γ == β)
 | _=>false
def ztG(g:X→Option V)(blk:Nat→Option (List V))(xs:List X)(y:X):Bool:=match g y with
 | some v=>(match zoI v with
  | some β=>xs.all (zr7 g blk β)
  | none=>true)
 | none=>false
theorem zrY(h:zap)(env:List V)(xs:List X)(y:X):ztG (ev env) (zaM h) xs y=zoj h env xs y:=by
 have hb:∀ β,zr7 (ev env) (zaM h) β=ztM h env β:=by
  intro β
  funext x
  simp only[zr7,ztM];cases ev env x with
  | none=>rfl
  | some v=>
   cases v with
   | ptr γ o=>simp only[]; cases zaM h γ<;>rfl
   | _=>rfl
 simp only[ztG,zoj];cases ev env y with
 | none=>rfl
 | some v=>
  simp only[];cases zoI v with
  | none=>rfl
  | some β=>simp only[show zr7 (ev env) (zaM h)=ztM h env from funext hb]
def qG(g:X→Option V)(gs:List X→Option (List V))(blk:Nat→Option (List V)):I→Option V
 | .mov x=>g x
 | .avo xs y=>bif ztG g blk xs y then some zaP else none
 | .pick c a b=>(match zvX g c with
  | some true=>g a
  | some false=>g b
  | none=>none)
 | .build z parts=>(zrx g (z.map .lit) parts).map .agg
 | .load n x=>(match g x with
  | some (.ptr β o)=>(match blk β with
   | some cs=>zjT cs o n
   | none=>none)
  | _=>none)
 | .fld off x=>(match g x with
  | some (.ptr β o)=>some (.ptr β (o+off))
  | _=>none)
 | .idxS n x i=>(match g x,znZ g i with
  | some (.sl β o n' len _),some m=>bif (n == n') && decide (0≤m) && decide (m<len)then some (.ptr β (o+m.toNat * n))else none
  | _,_=>none)
 | .idxA n cnt x i=>(match g x,znZ g i with
  | some (.ptr β o),some m=>bif decide (0≤m) && decide (m<cnt)then some (.ptr β (o+m.toNat * n))else none
  | _,_=>none)
 | .idxV n cnt x i=>(match g x,znZ g i with
  | some (.agg vs),some m=>bif decide (0≤m) && decide (m<cnt)then zjT vs (m.toNat * n.getD 1) n else none
  | _,_=>none)
 | .part n off x=>(match g x with
  | some (.agg vs)=>zjT vs off n
  | _=>none)
 | .bin op x y=>(match g x,g y with
  | some v,some v'=>zk1 op v v'
  | _,_=>none)
 | .eqb neg x y=>(match zvX g x,zvX g y with
  | some a,some b=>some (.lit (.bool (bif neg then !(a == b)else(a == b))))
  | _,_=>none)
 | .eqn neg x=>(match g x with
  | some (.lit (.slice none 0 0))=>some (.lit (.bool !neg))
  | some (.sl ..)=>some (.lit (.bool neg))
  | _=>none)
 | .eqi neg x=>(match g x with
  | some (.lit .nilIface)=>some (.lit (.bool !neg))
  | some (.ifc ..)=>some (.lit (.bool neg))
  | _=>none)
 | .eqp neg x=>(match g x with
  | some (.lit (.pointer none))=>some (.lit (.bool !neg))
  | some (.ptr ..)=>some (.lit (.bool neg))
  | _=>none)
 | .un op x=>(match g x with
  | some v=>unV op v
  | none=>none)
 | .conv k x=>(match znZ g x with
  | some m=>some (.lit (.int k (k.wrap m)))
  | none=>none)
 | .len x=>(match g x with
  | some v=>zvM v
  | none=>none)
 | .mm b xs=>(match gs xs with
  | some (v :: vs)=>mms b v vs
  | _=>none)
 | .ext x i=>(match g x with
  | some (.tup vs)=>nth vs i
  | _=>none)
 | .slc n x lo hi mx=>(match g x,zlK g lo,zlK g hi,zlK g mx with
  | some v,some l,some hh,some m=>zvm blk n l hh m v
  | _,_,_,_=>none)
 | .zoi n cnt x lo hi mx=>(match g x,zlK g lo,zlK g hi,zlK g mx with
  | some (.ptr β o),some l,some hh,some m=>bif Nat.blt 0 n && Nat.blt cnt (2 ^ 63) && zwu blk β (o+cnt * n)then(bounds cnt (some cnt) l hh m).map fun(l,hh,c)=>.sl β (o+l * n) n (hh - l) c else none
  | _,_,_,_=>none)
 | .nilck x=>(match g x with
  | some (.ptr β o)=>some (.ptr β o)
  | some (.clo f a b)=>some (.clo f a b)
  | _=>none)
 | .clo f first cap=>(match gs first,gs cap with
  | some vs,some vs'=>some (.clo f vs vs')
  | _,_=>none)
 | .mkI t x=>(match g x with
  | some v=>some (.ifc t v)
  | none=>none)
 | .chr l i=>(match znZ g i with
  | some m=>bif decide (0≤m)then(match nth l m.toNat with
   | some b=>some (.lit (.int .u8 (Int.ofNat b)))
   | none=>none)else none
  | none=>none)
 | _=>none
theorem zqg(env:List V)(x:X):znZ (ev env) x=evI env x:=rfl
theorem zne(env:List V)(x:Option X):zlK (ev env) x=znm env x:=by cases x<;>rfl
theorem zwc(h:zap)(env:List V)(i:I):qG (ev env) (evs env) (zaM h) i=q h env i:=by
 cases i with
 | build z ps=>simp only[qG,q,znb]
 | avo xs y=>simp only[qG,q,zrY]
 | load n x=>
  simp only[qG,q,zgW];cases ev env x with
  | none=>rfl
  | some v=>
   cases v<;>first | rfl | (simp only[]; cases zaM h _<;>rfl)
 | idxV n cnt x i=>simp only[qG,q,zgW,zqg]; rfl
 | part n off x=>simp only[qG,q,zgW]; rfl
 | ext x i=>simp only[qG,q,zf1]; rfl
 | un op x=>simp only[qG,q]; cases ev env x<;>rfl
 | len x=>simp only[qG,q]; cases ev env x<;>rfl
 | mkI t x=>simp only[qG,q]; cases ev env x<;>rfl
 | chr l i=>
  simp only[qG,q,zqg,zf1];cases evI env i with
  | none=>rfl
  | some m=>simp only[]; cases l[m.toNat]?<;>rfl
 | slc n x lo hi mx=>simp only[qG,q,zne]; rfl
 | zoi n cnt x lo hi mx=>simp only[qG,q,zne]; rfl
 | _=>rfl
def zuu{α:Type}(o:Ob)(k:Ob→α):α:=
 match o with
 | .blk cs=>zcK cs fun cs'=>k (.blk cs')
 | o=>k o
theorem zlO{α:Type}(o:Ob)(k:Ob→α):zuu o k=k o:=by cases o<;>simp[zuu,zck]
def zjH{α:Type}(env:List V)(ps:List Nat)(vs:List V)(k:List V→Option α):Option α:=
 match ps,vs with
 | [],[]=>k env
 | p :: ps,v :: vs=>fcV v fun v'=>zqO env p v' fun env'=>zjH env' ps vs k
 | _,_=>none
theorem ziA{α:Type}:∀(ps:List Nat) (vs:List V) (env:List V) (k:List V→Option α),zjH env ps vs k=(match zeG env ps vs with | some e=>k e | none=>none)
 | [],[],env,k=>rfl
 | p :: ps,v :: vs,env,k=>by simp only[zjH,zeG,zvA,zi9,ziA ps vs]
 | [],_ :: _,_,_=>rfl
 | _ :: _,[],_,_=>rfl
def zgZ(h:zap)(env:List V):RX→Option V
 | .tmp k=>nth env k
 | .cell k n=>(match nth env k with
  | some (.ptr β o)=>(match zv1 h β with
   | some cs=>zjT cs o n
   | none=>none)
  | _=>none)
theorem zoa(h:zap)(env:List V)(x:RX):zgZ h env x=zfn h env x:=by
 cases x with
 | tmp k=>simp[zgZ,zfn,zf1]
 | cell k n=>
  simp only[zgZ,zfn,zf1,zpv,zgW];cases env[k]? with
  | none=>rfl
  | some v=>cases v<;>first | rfl | (simp only[]; cases zaM h _<;>rfl)
end Go.Mx
