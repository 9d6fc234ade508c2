/-
 The machine once more, step by step in full, for the kernel: it computes the same. Conditions: none.
-/
import Derived.Test.YtbjogdohfhdaiaaGreatESJ22
set_option linter.unusedSimpArgs false
set_option linter.unusedVariables false
namespace Go.Mx
open Go
def zcS{α:Type}(n:Nat)(k:Nat→α):α:=
 match n with
 | .zero=>k .zero
 | .succ m=>k (.succ m)
theorem zbK{α:Type}(n:Nat)(k:Nat→α):zcS n k=k n:=by cases n<;>rfl
def zuL{α:Type}(n:Int)(k:Int→α):α:=
 match n with
 | .ofNat m=>zcS m fun m'=>k (.ofNat m')
 | .negSucc m=>zcS m fun m'=>k (.negSucc m')
theorem zn8{α:Type}(n:Int)(k:Int→α):zuL n k=k n:=by cases n<;>simp[zuL,zbK]
def zsR{α:Type}(b:Bool)(k:Bool→α):α:=
 match b with
 | true=>k true
 | false=>k false
theorem zk8{α:Type}(b:Bool)(k:Bool→α):zsR b k=k b:=by cases b<;>rfl
def zcH{α β:Type}(l:List β)(k:List β→α):α:=
 match l with
 | []=>k []
 | x :: r=>zcH r fun r'=>k (x :: r')
theorem zck{α β:Type}:∀(l:List β) (k:List β→α),zcH l k=k l
 | [],_=>rfl
 | x :: r,k=>by simp[zcH,zck r]
def zzZ{α:Type}(o:Option Nat)(k:Option Nat→α):α:=
 match o with
 | none=>k none
 | some n=>zcS n fun n'=>k (some n')
theorem zq2{α:Type}(o:Option Nat)(k:Option Nat→α):zzZ o k=k o:=by cases o<;>simp[zzZ,zbK]
def fcV{α:Type}(v:V)(k:V→α):α:=
 match v with
 | .lit (.int kd n)=>zuL n fun n'=>k (.lit (.int kd n'))
 | .lit (.bool b)=>zsR b fun b'=>k (.lit (.bool b'))
 | .lit x=>k (.lit x)
 | .ptr β o=>zcS β fun β'=>zcS o fun o'=>k (.ptr β' o')
 | .sl β o n len cap=>zcS β fun β'=>zcS o fun o'=>zcS n fun n'=>zcS len fun len'=>zzZ cap fun cap'=>k (.sl β' o' n' len' cap')
 | .clo f a b=>zcH a fun a'=>zcH b fun b'=>k (.clo f a' b')
 | .agg vs=>zcH vs fun vs'=>k (.agg vs')
 | .tup vs=>zcH vs fun vs'=>k (.tup vs')
 | v=>k v
theorem zx8{α:Type}(v:V)(k:V→α):fcV v k=k v:=by
 cases v with
 | lit x=>cases x<;>simp[fcV,zn8,zk8]
 | _=>simp[fcV,zbK,zq2,zck]
def zsf{α β:Type}(l:List β)(n:Nat)(v:β)(k:List β→α):α:=
 match l with
 | []=>k []
 | x :: r=>match n with
  | .zero=>k (v :: r)
  | .succ m=>zsf r m v fun r'=>k (x :: r')
theorem zkF{α β:Type}:∀(l:List β) (n:Nat) (v:β) (k:List β→α),zsf l n v k=k (l.set n v)
 | [],n,v,k=>by simp[zsf]
 | x :: r,0,v,k=>by simp[zsf]
 | x :: r,n+1,v,k=>by simp[zsf,zkF r n]
def nth{β:Type}(l:List β)(n:Nat):Option β:=
 match l with
 | []=>none
 | x :: r=>match n with
  | .zero=>some x
  | .succ m=>nth r m
theorem zgm{β:Type}:∀(l:List β) (n:Nat),nth l n=l[n]?
 | [],n=>by simp[nth]
 | x :: r,0=>by simp[nth]
 | x :: r,n+1=>by simp[nth,zgm r n]
def zAT(h:zaj)(β:Nat):Option (List V):=
 match nth h β with
 | some (.blk cs)=>some cs
 | _=>none
theorem zti(h:zaj)(β:Nat):zAT h β=zaq h β:=by simp only[zAT,zaq,zgm]; rfl
def zqf(g:X→Option V)(x:X):Option Int:=match g x with | some (.lit (.int _ n))=>some n | _=>none
def zzW(g:X→Option V)(x:X):Option Bool:=match g x with | some (.lit (.bool b))=>some b | _=>none
def zm0(g:X→Option V):Option X→Option (Option Int)
 | none=>some none
 | some x=>(zqf g x).map some
def zl0(cs:List V)(o:Nat):Option Nat→Option V
 | none=>nth cs o
 | some n=>(slot o n cs).map .agg
theorem zhD(cs:List V)(o:Nat)(n:Option Nat):zl0 cs o n=takeN cs o n:=by cases n<;>simp[zl0,takeN,zgm]
def zuK(g:X→Option V)(cs:List V):List (Nat×Nat×X)→Option (List V)
 | []=>some cs
 |(off,n,x):: r=>match (g x).bind V.cells with
  | some l=>bif (l.length == n) && Nat.ble (off+n) cs.length then zcH (zbi cs off l) fun cs'=>zuK g cs' r else none
  | none=>none
theorem zoT(env:List V):∀(ps:List (Nat×Nat×X)) (cs:List V),zuK (ev env) cs ps=zeY env cs ps
 | [],cs=>rfl
 |(off,n,x):: r,cs=>by
  simp only[zuK,zeY,zck,zoT env r]; rfl
def zAf(blk:Nat→Option (List V))(β n:Nat):Bool:=match blk β with | some cs=>Nat.ble n cs.length | none=>false
def zu0(g:X→Option V)(blk:Nat→Option (List V))(β:Nat)(x:X):Bool:=match g x with
 | some (.ptr γ _)=>(match blk γ with | some _=>true | none=>false) && !(γ == β)
 | _=>false
def zxF(g:X→Option V)(blk:Nat→Option (List V))(xs:List X)(y:X):Bool:=match g y with
 | some v=>(match zqt v with
  | some β=>xs.all (zu0 g blk β)
  | none=>true)
 | none=>false
theorem zt8(h:zaj)(env:List V)(xs:List X)(y:X):zxF (ev env) (zaq h) xs y=zqq h env xs y:=by
 have hb:∀ β,zu0 (ev env) (zaq h) β=zwo h env β:=by
  intro β
  funext x
  simp only[zu0,zwo];cases ev env x with
  | none=>rfl
  | some v=>
   cases v with
   | ptr γ o=>simp only[]; cases zaq h γ<;>rfl
   | _=>rfl
 simp only[zxF,zqq];cases ev env y with
 | none=>rfl
 | some v=>
  simp only[];cases zqt v with
  | none=>rfl
  | some β=>simp only[show zu0 (ev env) (zaq h)=zwo h env from funext hb]
def qG(g:X→Option V)(gs:List X→Option (List V))(blk:Nat→Option (List V)):I→Option V
 | .mov x=>g x
 | .avo xs y=>bif zxF g blk xs y then some zaT else none
 | .pick c a b=>(match zzW g c with
  | some true=>g a
  | some false=>g b
  | none=>none)
 | .build z parts=>(zuK g (z.map .lit) parts).map .agg
 | .load n x=>(match g x with
  | some (.ptr β o)=>(match blk β with
   | some cs=>zl0 cs o n
   | none=>none)
  | _=>none)
 | .fld off x=>(match g x with
  | some (.ptr β o)=>some (.ptr β (o+off))
  | _=>none)
 | .idxS n x i=>(match g x,zqf g i with
  | some (.sl β o n' len _),some m=>bif (n == n') && decide (0≤m) && decide (m<len)then some (.ptr β (o+m.toNat * n))else none
  | _,_=>none)
 | .idxA n cnt x i=>(match g x,zqf g i with
  | some (.ptr β o),some m=>bif decide (0≤m) && decide (m<cnt)then some (.ptr β (o+m.toNat * n))else none
  | _,_=>none)
 | .idxV n cnt x i=>(match g x,zqf g i with
  | some (.agg vs),some m=>bif decide (0≤m) && decide (m<cnt)then zl0 vs (m.toNat * n.getD 1) n else none
  | _,_=>none)
 | .part n off x=>(match g x with
  | some (.agg vs)=>zl0 vs off n
  | _=>none)
 | .bin op x y=>(match g x,g y with
  | some v,some v'=>zlm op v v'
  | _,_=>none)
 | .eqb neg x y=>(match zzW g x,zzW g y with
  | some a,some b=>some (.lit (.bool (bif neg then !(a == b)else(a == b))))
  | _,_=>none)
 | .eqa n neg x y=>(match g x,g y with
  | some (.agg vs),some (.agg ws)=>bif Nat.beq vs.length n && Nat.beq ws.length n then(match ztS vs ws with
   | some b=>some (.lit (.bool (bif neg then !b else b)))
   | none=>none)else none
  | _,_=>none)
 | .eqn neg x=>(match g x with
  | some (.lit (.slice none 0 0))=>some (.lit (.bool !neg))
  | some (.sl ..)=>some (.lit (.bool neg))
  | _=>none)
 | .eqi neg x=>(match g x with
  | some (.lit .nilIface)=>some (.lit (.bool !neg))
  | some (.ifc ..)=>some (.lit (.bool neg))
  | _=>none)
 | .eqp neg x=>(match g x with
  | some (.lit (.pointer none))=>some (.lit (.bool !neg))
  | some (.ptr ..)=>some (.lit (.bool neg))
  | _=>none)
 | .un op x=>(match g x with
  | some v=>unV op v
  | none=>none)
 | .conv k x=>(match zqf g x with
  | some m=>some (.lit (.int k (k.wrap m)))
  | none=>none)
 | .len x=>(match g x with
  | some v=>zyf v
  | none=>none)
 | .mm b xs=>(match gs xs with
  | some (v :: vs)=>mms b v vs
  | _=>none)
 | .ext x i=>(match g x with
  | some (.tup vs)=>nth vs i
  | _=>none)
 | .slc n x lo hi mx=>(match g x,zm0 g lo,zm0 g hi,zm0 g mx with
  | some v,some l,some hh,some m=>zyp blk n l hh m v
  | _,_,_,_=>none)
 | .slcA n cnt x lo hi mx=>(match g x,zm0 g lo,zm0 g hi,zm0 g mx with
  | some (.ptr β o),some l,some hh,some m=>bif Nat.blt 0 n && Nat.blt cnt (2 ^ 63) && zAf blk β (o+cnt * n)then(bounds cnt (some cnt) l hh m).map fun(l,hh,c)=>.sl β (o+l * n) n (hh - l) c else none
  | _,_,_,_=>none)
 | .nilck x=>(match g x with
  | some (.ptr β o)=>some (.ptr β o)
  | some (.clo f a b)=>some (.clo f a b)
  | _=>none)
 | .clo f first cap=>(match gs first,gs cap with
  | some vs,some vs'=>some (.clo f vs vs')
  | _,_=>none)
 | .mkI t x=>(match g x with
  | some v=>some (.ifc t v)
  | none=>none)
 | .chr l i=>(match zqf g i with
  | some m=>bif decide (0≤m)then(match nth l m.toNat with
   | some b=>some (.lit (.int .u8 (Int.ofNat b)))
   | none=>none)else none
  | none=>none)
 | _=>none
theorem zrc(env:List V)(x:X):zqf (ev env) x=evI env x:=rfl
theorem zol(env:List V)(x:Option X):zm0 (ev env) x=zpQ env x:=by cases x<;>rfl
theorem zAM(h:zaj)(env:List V)(i:I):qG (ev env) (evs env) (zaq h) i=q h env i:=by
 cases i with
 | build z ps=>simp only[qG,q,zoT]
 | avo xs y=>simp only[qG,q,zt8]
 | load n x=>
  simp only[qG,q,zhD];cases ev env x with
  | none=>rfl
  | some v=>
   cases v<;>first | rfl | (simp only[]; cases zaq h _<;>rfl)
 | idxV n cnt x i=>simp only[qG,q,zhD,zrc]; rfl
 | part n off x=>simp only[qG,q,zhD]; rfl
 | ext x i=>simp only[qG,q,zgm]; rfl
 | un op x=>simp only[qG,q]; cases ev env x<;>rfl
 | len x=>simp only[qG,q]; cases ev env x<;>rfl
 | mkI t x=>simp only[qG,q]; cases ev env x<;>rfl
 | chr l i=>
  simp only[qG,q,zrc,zgm];cases evI env i with
  | none=>rfl
  | some m=>simp only[]; cases l[m.toNat]?<;>rfl
 | slc n x lo hi mx=>simp only[qG,q,zol]; rfl
 | slcA n cnt x lo hi mx=>simp only[qG,q,zol]; rfl
 | _=>rfl
def zyh{α:Type}(o:Ob)(k:Ob→α):α:=
 match o with
 | .blk cs=>zcH cs fun cs'=>k (.blk cs')
 | o=>k o
theorem zrv{α:Type}(o:Ob)(k:Ob→α):zyh o k=k o:=by cases o<;>simp[zyh,zck]
def zka{α:Type}(env:List V)(ps:List Nat)(vs:List V)(k:List V→Option α):Option α:=
 match ps,vs with
 | [],[]=>k env
 | p :: ps,v :: vs=>fcV v fun v'=>zsf env p v' fun env'=>zka env' ps vs k
 | _,_=>none
theorem zjy{α:Type}:∀(ps:List Nat) (vs:List V) (env:List V) (k:List V→Option α),zka env ps vs k=(match ze4 env ps vs with | some e=>k e | none=>none)
 | [],[],env,k=>rfl
 | p :: ps,v :: vs,env,k=>by simp only[zka,ze4,zx8,zkF,zjy ps vs]
 | [],_ :: _,_,_=>rfl
 | _ :: _,[],_,_=>rfl
def zio(h:zaj)(env:List V):RX→Option V
 | .tmp k=>nth env k
 | .cell k n=>(match nth env k with
  | some (.ptr β o)=>(match zAT h β with
   | some cs=>zl0 cs o n
   | none=>none)
  | _=>none)
theorem zpK(h:zaj)(env:List V)(x:RX):zio h env x=zfx h env x:=by
 cases x with
 | tmp k=>simp[zio,zfx,zgm]
 | cell k n=>
  simp only[zio,zfx,zgm,zti,zhD];cases env[k]? with
  | none=>rfl
  | some v=>cases v<;>first | rfl | (simp only[]; cases zaq h _<;>rfl)
end Go.Mx
