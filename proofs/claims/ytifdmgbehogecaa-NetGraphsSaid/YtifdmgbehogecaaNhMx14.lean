/-
 The machine once more, step by step in full, for the kernel: it computes the same. Conditions: none.
-/
import Derived.Test.YtifdmgbehogecaaNhJ15
set_option linter.unusedSimpArgs false
set_option linter.unusedVariables false
namespace Go.Mx
open Go
def zdi{α:Type}(n:Nat)(k:Nat→α):α:=
 match n with
 | .zero=>k .zero
 | .succ m=>k (.succ m)
theorem zch{α:Type}(n:Nat)(k:Nat→α):zdi n k=k n:=by cases n<;>rfl
def zqS{α:Type}(n:Int)(k:Int→α):α:=
 match n with
 | .ofNat m=>zdi m fun m'=>k (.ofNat m')
 | .negSucc m=>zdi m fun m'=>k (.negSucc m')
theorem zmF{α:Type}(n:Int)(k:Int→α):zqS n k=k n:=by cases n<;>simp[zqS,zch]
def zpA{α:Type}(b:Bool)(k:Bool→α):α:=
 match b with
 | true=>k true
 | false=>k false
theorem zkd{α:Type}(b:Bool)(k:Bool→α):zpA b k=k b:=by cases b<;>rfl
def zcO{α β:Type}(l:List β)(k:List β→α):α:=
 match l with
 | []=>k []
 | x :: r=>zcO r fun r'=>k (x :: r')
theorem zcn{α β:Type}:∀(l:List β) (k:List β→α),zcO l k=k l
 | [],_=>rfl
 | x :: r,k=>by simp[zcO,zcn r]
def zv4{α:Type}(o:Option Nat)(k:Option Nat→α):α:=
 match o with
 | none=>k none
 | some n=>zdi n fun n'=>k (some n')
theorem zqc{α:Type}(o:Option Nat)(k:Option Nat→α):zv4 o k=k o:=by cases o<;>simp[zv4,zch]
def fcV{α:Type}(v:V)(k:V→α):α:=
 match v with
 | .lit (.int kd n)=>zqS n fun n'=>k (.lit (.int kd n'))
 | .lit (.bool b)=>zpA b fun b'=>k (.lit (.bool b'))
 | .lit x=>k (.lit x)
 | .ptr β o=>zdi β fun β'=>zdi o fun o'=>k (.ptr β' o')
 | .sl β o n len cap=>zdi β fun β'=>zdi o fun o'=>zdi n fun n'=>zdi len fun len'=>zv4 cap fun cap'=>k (.sl β' o' n' len' cap')
 | .clo f a b=>zcO a fun a'=>zcO b fun b'=>k (.clo f a' b')
 | .agg vs=>zcO vs fun vs'=>k (.agg vs')
 | .tup vs=>zcO vs fun vs'=>k (.tup vs')
 | v=>k v
theorem zuB{α:Type}(v:V)(k:V→α):fcV v k=k v:=by
 cases v with
 | lit x=>cases x<;>simp[fcV,zmF,zkd]
 | _=>simp[fcV,zch,zqc,zcn]
def zqK{α β:Type}(l:List β)(n:Nat)(v:β)(k:List β→α):α:=
 match l with
 | []=>k []
 | x :: r=>match n with
  | .zero=>k (v :: r)
  | .succ m=>zqK r m v fun r'=>k (x :: r')
theorem zjg{α β:Type}:∀(l:List β) (n:Nat) (v:β) (k:List β→α),zqK l n v k=k (l.set n v)
 | [],n,v,k=>by simp[zqK]
 | x :: r,0,v,k=>by simp[zqK]
 | x :: r,n+1,v,k=>by simp[zqK,zjg r n]
def nth{β:Type}(l:List β)(n:Nat):Option β:=
 match l with
 | []=>none
 | x :: r=>match n with
  | .zero=>some x
  | .succ m=>nth r m
theorem zfU{β:Type}:∀(l:List β) (n:Nat),nth l n=l[n]?
 | [],n=>by simp[nth]
 | x :: r,0=>by simp[nth]
 | x :: r,n+1=>by simp[nth,zfU r n]
def zw0(h:zaq)(β:Nat):Option (List V):=
 match nth h β with
 | some (.blk cs)=>some cs
 | _=>none
theorem zpF(h:zaq)(β:Nat):zw0 h β=zaN h β:=by simp only[zw0,zaN,zfU]; rfl
def znw(g:X→Option V)(x:X):Option Int:=match g x with | some (.lit (.int _ n))=>some n | _=>none
def zvX(g:X→Option V)(x:X):Option Bool:=match g x with | some (.lit (.bool b))=>some b | _=>none
def zlr(g:X→Option V):Option X→Option (Option Int)
 | none=>some none
 | some x=>(znw g x).map some
def zkh(cs:List V)(o:Nat):Option Nat→Option V
 | none=>nth cs o
 | some n=>(slot o n cs).map .agg
theorem zgP(cs:List V)(o:Nat)(n:Option Nat):zkh cs o n=takeN cs o n:=by cases n<;>simp[zkh,takeN,zfU]
def zrT(g:X→Option V)(cs:List V):List (Nat×Nat×X)→Option (List V)
 | []=>some cs
 |(off,n,x):: r=>match (g x).bind V.cells with
  | some l=>bif (l.length == n) && Nat.ble (off+n) cs.length then zcO (zbh cs off l) fun cs'=>zrT g cs' r else none
  | none=>none
theorem zmv(env:List V):∀(ps:List (Nat×Nat×X)) (cs:List V),zrT (ev env) cs ps=zeQ env cs ps
 | [],cs=>rfl
 |(off,n,x):: r,cs=>by
  simp only[zrT,zeQ,zcn,zmv env r]; rfl
def zwB(blk:Nat→Option (List V))(β n:Nat):Bool:=match blk β with | some cs=>Nat.ble n cs.length | none=>false
def zrf(g:X→Option V)(blk:Nat→Option (List V))(β:Nat)(x:X):Bool:=match g x with
 | some (.ptr γ _)=>(match blk γ with | some _=>true | none=>false) && !(γ == β)
 | _=>false
def zsV(g:X→Option V)(blk:Nat→Option (List V))(xs:List X)(y:X):Bool:=match g y with
 | some v=>(match zqC v with
  | some β=>xs.all (zrf g blk β)
  | none=>true)
 | none=>false
theorem zru(h:zaq)(env:List V)(xs:List X)(y:X):zsV (ev env) (zaN h) xs y=zof h env xs y:=by
 have hb:∀ β,zrf (ev env) (zaN h) β=zsQ h env β:=by
  intro β
  funext x
  simp only[zrf,zsQ];cases ev env x with
  | none=>rfl
  | some v=>
   cases v with
   | ptr γ o=>simp only[]; cases zaN h γ<;>rfl
   | _=>rfl
 simp only[zsV,zof];cases ev env y with
 | none=>rfl
 | some v=>
  simp only[];cases zqC v with
  | none=>rfl
  | some β=>simp only[show zrf (ev env) (zaN h)=zsQ h env from funext hb]
def qG(g:X→Option V)(gs:List X→Option (List V))(blk:Nat→Option (List V)):I→Option V
 | .mov x=>g x
 | .avo xs y=>bif zsV g blk xs y then some zaR else none
 | .pick c a b=>(match zvX g c with
  | some true=>g a
  | some false=>g b
  | none=>none)
 | .build z parts=>(zrT g (z.map .lit) parts).map .agg
 | .load n x=>(match g x with
  | some (.ptr β o)=>(match blk β with
   | some cs=>zkh cs o n
   | none=>none)
  | _=>none)
 | .fld off x=>(match g x with
  | some (.ptr β o)=>some (.ptr β (o+off))
  | _=>none)
 | .idxS n x i=>(match g x,znw g i with
  | some (.sl β o n' len _),some m=>bif (n == n') && decide (0≤m) && decide (m<len)then some (.ptr β (o+m.toNat * n))else none
  | _,_=>none)
 | .idxA n cnt x i=>(match g x,znw g i with
  | some (.ptr β o),some m=>bif decide (0≤m) && decide (m<cnt)then some (.ptr β (o+m.toNat * n))else none
  | _,_=>none)
 | .idxV n cnt x i=>(match g x,znw g i with
  | some (.agg vs),some m=>bif decide (0≤m) && decide (m<cnt)then zkh vs (m.toNat * n.getD 1) n else none
  | _,_=>none)
 | .part n off x=>(match g x with
  | some (.agg vs)=>zkh vs off n
  | _=>none)
 | .bin op x y=>(match g x,g y with
  | some v,some v'=>zkv op v v'
  | _,_=>none)
 | .eqb neg x y=>(match zvX g x,zvX g y with
  | some a,some b=>some (.lit (.bool (bif neg then !(a == b)else(a == b))))
  | _,_=>none)
 | .eqn neg x=>(match g x with
  | some (.lit (.slice none 0 0))=>some (.lit (.bool !neg))
  | some (.sl ..)=>some (.lit (.bool neg))
  | _=>none)
 | .eqi neg x=>(match g x with
  | some (.lit .nilIface)=>some (.lit (.bool !neg))
  | some (.ifc ..)=>some (.lit (.bool neg))
  | _=>none)
 | .eqp neg x=>(match g x with
  | some (.lit (.pointer none))=>some (.lit (.bool !neg))
  | some (.ptr ..)=>some (.lit (.bool neg))
  | _=>none)
 | .un op x=>(match g x with
  | some v=>unV op v
  | none=>none)
 | .conv k x=>(match znw g x with
  | some m=>some (.lit (.int k (k.wrap m)))
  | none=>none)
 | .len x=>(match g x with
  | some v=>zuJ v
  | none=>none)
 | .mm b xs=>(match gs xs with
  | some (v :: vs)=>mms b v vs
  | _=>none)
 | .ext x i=>(match g x with
  | some (.tup vs)=>nth vs i
  | _=>none)
 | .slc n x lo hi mx=>(match g x,zlr g lo,zlr g hi,zlr g mx with
  | some v,some l,some hh,some m=>zvV blk n l hh m v
  | _,_,_,_=>none)
 | .slcA n cnt x lo hi mx=>(match g x,zlr g lo,zlr g hi,zlr g mx with
  | some (.ptr β o),some l,some hh,some m=>bif Nat.blt 0 n && Nat.blt cnt (2 ^ 63) && zwB blk β (o+cnt * n)then(bounds cnt (some cnt) l hh m).map fun(l,hh,c)=>.sl β (o+l * n) n (hh - l) c else none
  | _,_,_,_=>none)
 | .nilck x=>(match g x with
  | some (.ptr β o)=>some (.ptr β o)
  | some (.clo f a b)=>some (.clo f a b)
  | _=>none)
 | .clo f first cap=>(match gs first,gs cap with
  | some vs,some vs'=>some (.clo f vs vs')
  | _,_=>none)
 | .mkI t x=>(match g x with
  | some v=>some (.ifc t v)
  | none=>none)
 | .chr l i=>(match znw g i with
  | some m=>bif decide (0≤m)then(match nth l m.toNat with
   | some b=>some (.lit (.int .u8 (Int.ofNat b)))
   | none=>none)else none
  | none=>none)
 | _=>none
theorem zpU(env:List V)(x:X):znw (ev env) x=evI env x:=rfl
theorem znm(env:List V)(x:Option X):zlr (ev env) x=znR env x:=by cases x<;>rfl
theorem zwR(h:zaq)(env:List V)(i:I):qG (ev env) (evs env) (zaN h) i=q h env i:=by
 cases i with
 | build z ps=>simp only[qG,q,zmv]
 | avo xs y=>simp only[qG,q,zru]
 | load n x=>
  simp only[qG,q,zgP];cases ev env x with
  | none=>rfl
  | some v=>
   cases v<;>first | rfl | (simp only[]; cases zaN h _<;>rfl)
 | idxV n cnt x i=>simp only[qG,q,zgP,zpU]; rfl
 | part n off x=>simp only[qG,q,zgP]; rfl
 | ext x i=>simp only[qG,q,zfU]; rfl
 | un op x=>simp only[qG,q]; cases ev env x<;>rfl
 | len x=>simp only[qG,q]; cases ev env x<;>rfl
 | mkI t x=>simp only[qG,q]; cases ev env x<;>rfl
 | chr l i=>
  simp only[qG,q,zpU,zfU];cases evI env i with
  | none=>rfl
  | some m=>simp only[]; cases l[m.toNat]?<;>rfl
 | slc n x lo hi mx=>simp only[qG,q,znm]; rfl
 | slcA n cnt x lo hi mx=>simp only[qG,q,znm]; rfl
 | _=>rfl
def zvi{α:Type}(o:Ob)(k:Ob→α):α:=
 match o with
 | .blk cs=>zcO cs fun cs'=>k (.blk cs')
 | o=>k o
theorem zlK{α:Type}(o:Ob)(k:Ob→α):zvi o k=k o:=by cases o<;>simp[zvi,zcn]
def zjb{α:Type}(env:List V)(ps:List Nat)(vs:List V)(k:List V→Option α):Option α:=
 match ps,vs with
 | [],[]=>k env
 | p :: ps,v :: vs=>fcV v fun v'=>zqK env p v' fun env'=>zjb env' ps vs k
 | _,_=>none
theorem ziu{α:Type}:∀(ps:List Nat) (vs:List V) (env:List V) (k:List V→Option α),zjb env ps vs k=(match ze0 env ps vs with | some e=>k e | none=>none)
 | [],[],env,k=>rfl
 | p :: ps,v :: vs,env,k=>by simp only[zjb,ze0,zuB,zjg,ziu ps vs]
 | [],_ :: _,_,_=>rfl
 | _ :: _,[],_,_=>rfl
def zhm(h:zaq)(env:List V):RX→Option V
 | .tmp k=>nth env k
 | .cell k n=>(match nth env k with
  | some (.ptr β o)=>(match zw0 h β with
   | some cs=>zkh cs o n
   | none=>none)
  | _=>none)
theorem znD(h:zaq)(env:List V)(x:RX):zhm h env x=zfm h env x:=by
 cases x with
 | tmp k=>simp[zhm,zfm,zfU]
 | cell k n=>
  simp only[zhm,zfm,zfU,zpF,zgP];cases env[k]? with
  | none=>rfl
  | some v=>cases v<;>first | rfl | (simp only[]; cases zaN h _<;>rfl)
end Go.Mx
