/-
 The machine once more, step by step in full, for the kernel: it computes the same. Conditions: none.
-/
import Derived.Test.YtnfgibomhkbcpaaNfJ26
set_option linter.unusedSimpArgs false
set_option linter.unusedVariables false
namespace Go.Mx
open Go
def zdB{α:Type}(n:Nat)(k:Nat→α):α:=
 match n with
 | .zero=>k .zero
 | .succ m=>k (.succ m)
theorem zct{α:Type}(n:Nat)(k:Nat→α):zdB n k=k n:=by cases n<;>rfl
def zsZ{α:Type}(n:Int)(k:Int→α):α:=
 match n with
 | .ofNat m=>zdB m fun m'=>k (.ofNat m')
 | .negSucc m=>zdB m fun m'=>k (.negSucc m')
theorem znS{α:Type}(n:Int)(k:Int→α):zsZ n k=k n:=by cases n<;>simp[zsZ,zct]
def zrc{α:Type}(b:Bool)(k:Bool→α):α:=
 match b with
 | true=>k true
 | false=>k false
theorem zkE{α:Type}(b:Bool)(k:Bool→α):zrc b k=k b:=by cases b<;>rfl
def zc1{α β:Type}(l:List β)(k:List β→α):α:=
 match l with
 | []=>k []
 | x :: r=>zc1 r fun r'=>k (x :: r')
theorem zcC{α β:Type}:∀(l:List β) (k:List β→α),zc1 l k=k l
 | [],_=>rfl
 | x :: r,k=>by simp[zc1,zcC r]
def zyk{α:Type}(o:Option Nat)(k:Option Nat→α):α:=
 match o with
 | none=>k none
 | some n=>zdB n fun n'=>k (some n')
theorem zrZ{α:Type}(o:Option Nat)(k:Option Nat→α):zyk o k=k o:=by cases o<;>simp[zyk,zct]
def fcV{α:Type}(v:V)(k:V→α):α:=
 match v with
 | .lit (.int kd n)=>zsZ n fun n'=>k (.lit (.int kd n'))
 | .lit (.bool b)=>zrc b fun b'=>k (.lit (.bool b'))
 | .lit x=>k (.lit x)
 | .ptr β o=>zdB β fun β'=>zdB o fun o'=>k (.ptr β' o')
 | .sl β o n len cap=>zdB β fun β'=>zdB o fun o'=>zdB n fun n'=>zdB len fun len'=>zyk cap fun cap'=>k (.sl β' o' n' len' cap')
 | .clo f a b=>zc1 a fun a'=>zc1 b fun b'=>k (.clo f a' b')
 | .agg vs=>zc1 vs fun vs'=>k (.agg vs')
 | .tup vs=>zc1 vs fun vs'=>k (.tup vs')
 | v=>k v
theorem zxU{α:Type}(v:V)(k:V→α):fcV v k=k v:=by
 cases v with
 | lit x=>cases x<;>simp[fcV,znS,zkE]
 | _=>simp[fcV,zct,zrZ,zcC]
def zr3{α β:Type}(l:List β)(n:Nat)(v:β)(k:List β→α):α:=
 match l with
 | []=>k []
 | x :: r=>match n with
  | .zero=>k (v :: r)
  | .succ m=>zr3 r m v fun r'=>k (x :: r')
theorem zjn{α β:Type}:∀(l:List β) (n:Nat) (v:β) (k:List β→α),zr3 l n v k=k (l.set n v)
 | [],n,v,k=>by simp[zr3]
 | x :: r,0,v,k=>by simp[zr3]
 | x :: r,n+1,v,k=>by simp[zr3,zjn r n]
def nth{β:Type}(l:List β)(n:Nat):Option β:=
 match l with
 | []=>none
 | x :: r=>match n with
  | .zero=>some x
  | .succ m=>nth r m
theorem zf7{β:Type}:∀(l:List β) (n:Nat),nth l n=l[n]?
 | [],n=>by simp[nth]
 | x :: r,0=>by simp[nth]
 | x :: r,n+1=>by simp[nth,zf7 r n]
def zzp(h:zap)(β:Nat):Option (List V):=
 match nth h β with
 | some (.blk cs)=>some cs
 | _=>none
theorem zpO(h:zap)(β:Nat):zzp h β=zaC h β:=by simp only[zzp,zaC,zf7]; rfl
def zoY(g:X→Option V)(x:X):Option Int:=match g x with | some (.lit (.int _ n))=>some n | _=>none
def zym(g:X→Option V)(x:X):Option Bool:=match g x with | some (.lit (.bool b))=>some b | _=>none
def zmj(g:X→Option V):Option X→Option (Option Int)
 | none=>some none
 | some x=>(zoY g x).map some
def zk8(cs:List V)(o:Nat):Option Nat→Option V
 | none=>nth cs o
 | some n=>(slot o n cs).map .agg
theorem zhc(cs:List V)(o:Nat)(n:Option Nat):zk8 cs o n=takeN cs o n:=by cases n<;>simp[zk8,takeN,zf7]
def ztw(g:X→Option V)(cs:List V):List (Nat×Nat×X)→Option (List V)
 | []=>some cs
 |(off,n,x):: r=>match (g x).bind V.cells with
  | some l=>bif (l.length == n) && Nat.ble (off+n) cs.length then zc1 (zbn cs off l) fun cs'=>ztw g cs' r else none
  | none=>none
theorem zn2(env:List V):∀(ps:List (Nat×Nat×X)) (cs:List V),ztw (ev env) cs ps=zfh env cs ps
 | [],cs=>rfl
 |(off,n,x):: r,cs=>by
  simp only[ztw,zfh,zcC,zn2 env r]; rfl
def zyW(blk:Nat→Option (List V))(β n:Nat):Bool:=match blk β with | some cs=>Nat.ble n cs.length | none=>false
def zsY(g:X→Option V)(blk:Nat→Option (List V))(β:Nat)(x:X):Bool:=match g x with
 | some (.ptr γ _)=>(match blk γ with | some _=>true | none=>false) && !(γ == β)
 | _=>false
def zvl(g:X→Option V)(blk:Nat→Option (List V))(xs:List X)(y:X):Bool:=match g y with
 | some v=>(match zpF v with
  | some β=>xs.all (zsY g blk β)
  | none=>true)
 | none=>false
theorem zsS(h:zap)(env:List V)(xs:List X)(y:X):zvl (ev env) (zaC h) xs y=zpD h env xs y:=by
 have hb:∀ β,zsY (ev env) (zaC h) β=zuS h env β:=by
  intro β
  funext x
  simp only[zsY,zuS];cases ev env x with
  | none=>rfl
  | some v=>
   cases v with
   | ptr γ o=>simp only[]; cases zaC h γ<;>rfl
   | _=>rfl
 simp only[zvl,zpD];cases ev env y with
 | none=>rfl
 | some v=>
  simp only[];cases zpF v with
  | none=>rfl
  | some β=>simp only[show zsY (ev env) (zaC h)=zuS h env from funext hb]
def qG(g:X→Option V)(gs:List X→Option (List V))(blk:Nat→Option (List V)):I→Option V
 | .mov x=>g x
 | .avo xs y=>bif zvl g blk xs y then some zaU else none
 | .pick c a b=>(match zym g c with
  | some true=>g a
  | some false=>g b
  | none=>none)
 | .build z parts=>(ztw g (z.map .lit) parts).map .agg
 | .load n x=>(match g x with
  | some (.ptr β o)=>(match blk β with
   | some cs=>zk8 cs o n
   | none=>none)
  | _=>none)
 | .fld off x=>(match g x with
  | some (.ptr β o)=>some (.ptr β (o+off))
  | _=>none)
 | .idxS n x i=>(match g x,zoY g i with
  | some (.sl β o n' len _),some m=>bif (n == n') && decide (0≤m) && decide (m<len)then some (.ptr β (o+m.toNat * n))else none
  | _,_=>none)
 | .idxA n cnt x i=>(match g x,zoY g i with
  | some (.ptr β o),some m=>bif decide (0≤m) && decide (m<cnt)then some (.ptr β (o+m.toNat * n))else none
  | _,_=>none)
 | .idxV n cnt x i=>(match g x,zoY g i with
  | some (.agg vs),some m=>bif decide (0≤m) && decide (m<cnt)then zk8 vs (m.toNat * n.getD 1) n else none
  | _,_=>none)
 | .part n off x=>(match g x with
  | some (.agg vs)=>zk8 vs off n
  | _=>none)
 | .bin op x y=>(match g x,g y with
  | some v,some v'=>zlU op v v'
  | _,_=>none)
 | .eqb neg x y=>(match zym g x,zym g y with
  | some a,some b=>some (.lit (.bool (bif neg then !(a == b)else(a == b))))
  | _,_=>none)
 | .eqn neg x=>(match g x with
  | some (.lit (.slice none 0 0))=>some (.lit (.bool !neg))
  | some (.sl ..)=>some (.lit (.bool neg))
  | _=>none)
 | .eqi neg x=>(match g x with
  | some (.lit .nilIface)=>some (.lit (.bool !neg))
  | some (.ifc ..)=>some (.lit (.bool neg))
  | _=>none)
 | .eqp neg x=>(match g x with
  | some (.lit (.pointer none))=>some (.lit (.bool !neg))
  | some (.ptr ..)=>some (.lit (.bool neg))
  | _=>none)
 | .un op x=>(match g x with
  | some v=>unV op v
  | none=>none)
 | .conv k x=>(match zoY g x with
  | some m=>some (.lit (.int k (k.wrap m)))
  | none=>none)
 | .len x=>(match g x with
  | some v=>zwW v
  | none=>none)
 | .mm b xs=>(match gs xs with
  | some (v :: vs)=>mms b v vs
  | _=>none)
 | .ext x i=>(match g x with
  | some (.tup vs)=>nth vs i
  | _=>none)
 | .slc n x lo hi mx=>(match g x,zmj g lo,zmj g hi,zmj g mx with
  | some v,some l,some hh,some m=>zwN blk n l hh m v
  | _,_,_,_=>none)
 | .slcA n cnt x lo hi mx=>(match g x,zmj g lo,zmj g hi,zmj g mx with
  | some (.ptr β o),some l,some hh,some m=>bif Nat.blt 0 n && Nat.blt cnt (2 ^ 63) && zyW blk β (o+cnt * n)then(bounds cnt (some cnt) l hh m).map fun(l,hh,c)=>.sl β (o+l * n) n (hh - l) c else none
  | _,_,_,_=>none)
 | .nilck x=>(match g x with
  | some (.ptr β o)=>some (.ptr β o)
  | some (.clo f a b)=>some (.clo f a b)
  | _=>none)
 | .clo f first cap=>(match gs first,gs cap with
  | some vs,some vs'=>some (.clo f vs vs')
  | _,_=>none)
 | .mkI t x=>(match g x with
  | some v=>some (.ifc t v)
  | none=>none)
 | .chr l i=>(match zoY g i with
  | some m=>bif decide (0≤m)then(match nth l m.toNat with
   | some b=>some (.lit (.int .u8 (Int.ofNat b)))
   | none=>none)else none
  | none=>none)
 | _=>none
theorem zqF(env:List V)(x:X):zoY (ev env) x=evI env x:=rfl
theorem zn6(env:List V)(x:Option X):zmj (ev env) x=zo0 env x:=by cases x<;>rfl
theorem zzb(h:zap)(env:List V)(i:I):qG (ev env) (evs env) (zaC h) i=q h env i:=by
 cases i with
 | build z ps=>simp only[qG,q,zn2]
 | avo xs y=>simp only[qG,q,zsS]
 | load n x=>
  simp only[qG,q,zhc];cases ev env x with
  | none=>rfl
  | some v=>
   cases v<;>first | rfl | (simp only[]; cases zaC h _<;>rfl)
 | idxV n cnt x i=>simp only[qG,q,zhc,zqF]; rfl
 | part n off x=>simp only[qG,q,zhc]; rfl
 | ext x i=>simp only[qG,q,zf7]; rfl
 | un op x=>simp only[qG,q]; cases ev env x<;>rfl
 | len x=>simp only[qG,q]; cases ev env x<;>rfl
 | mkI t x=>simp only[qG,q]; cases ev env x<;>rfl
 | chr l i=>
  simp only[qG,q,zqF,zf7];cases evI env i with
  | none=>rfl
  | some m=>simp only[]; cases l[m.toNat]?<;>rfl
 | slc n x lo hi mx=>simp only[qG,q,zn6]; rfl
 | slcA n cnt x lo hi mx=>simp only[qG,q,zn6]; rfl
 | _=>rfl
def zxy{α:Type}(o:Ob)(k:Ob→α):α:=
 match o with
 | .blk cs=>zc1 cs fun cs'=>k (.blk cs')
 | o=>k o
theorem zmr{α:Type}(o:Ob)(k:Ob→α):zxy o k=k o:=by cases o<;>simp[zxy,zcC]
def zjF{α:Type}(env:List V)(ps:List Nat)(vs:List V)(k:List V→Option α):Option α:=
 match ps,vs with
 | [],[]=>k env
 | p :: ps,v :: vs=>fcV v fun v'=>zr3 env p v' fun env'=>zjF env' ps vs k
 | _,_=>none
theorem zjd{α:Type}:∀(ps:List Nat) (vs:List V) (env:List V) (k:List V→Option α),zjF env ps vs k=(match zfa env ps vs with | some e=>k e | none=>none)
 | [],[],env,k=>rfl
 | p :: ps,v :: vs,env,k=>by simp only[zjF,zfa,zxU,zjn,zjd ps vs]
 | [],_ :: _,_,_=>rfl
 | _ :: _,[],_,_=>rfl
def zhO(h:zap)(env:List V):RX→Option V
 | .tmp k=>nth env k
 | .cell k n=>(match nth env k with
  | some (.ptr β o)=>(match zzp h β with
   | some cs=>zk8 cs o n
   | none=>none)
  | _=>none)
theorem zo9(h:zap)(env:List V)(x:RX):zhO h env x=zfE h env x:=by
 cases x with
 | tmp k=>simp[zhO,zfE,zf7]
 | cell k n=>
  simp only[zhO,zfE,zf7,zpO,zhc];cases env[k]? with
  | none=>rfl
  | some v=>cases v<;>first | rfl | (simp only[]; cases zaC h _<;>rfl)
end Go.Mx
