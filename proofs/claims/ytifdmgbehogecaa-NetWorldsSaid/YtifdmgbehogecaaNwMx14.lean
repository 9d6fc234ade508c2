/-
 The machine once more, step by step in full, for the kernel: it computes the same. Conditions: none.
-/
import Derived.Test.YtifdmgbehogecaaNwJ17
set_option linter.unusedSimpArgs false
set_option linter.unusedVariables false
namespace Go.Mx
open Go
def zdk{α:Type}(n:Nat)(k:Nat→α):α:=
 match n with
 | .zero=>k .zero
 | .succ m=>k (.succ m)
theorem zcj{α:Type}(n:Nat)(k:Nat→α):zdk n k=k n:=by cases n<;>rfl
def zsf{α:Type}(n:Int)(k:Int→α):α:=
 match n with
 | .ofNat m=>zdk m fun m'=>k (.ofNat m')
 | .negSucc m=>zdk m fun m'=>k (.negSucc m')
theorem znJ{α:Type}(n:Int)(k:Int→α):zsf n k=k n:=by cases n<;>simp[zsf,zcj]
def zqI{α:Type}(b:Bool)(k:Bool→α):α:=
 match b with
 | true=>k true
 | false=>k false
theorem zke{α:Type}(b:Bool)(k:Bool→α):zqI b k=k b:=by cases b<;>rfl
def zcP{α β:Type}(l:List β)(k:List β→α):α:=
 match l with
 | []=>k []
 | x :: r=>zcP r fun r'=>k (x :: r')
theorem zct{α β:Type}:∀(l:List β) (k:List β→α),zcP l k=k l
 | [],_=>rfl
 | x :: r,k=>by simp[zcP,zct r]
def zwA{α:Type}(o:Option Nat)(k:Option Nat→α):α:=
 match o with
 | none=>k none
 | some n=>zdk n fun n'=>k (some n')
theorem zo1{α:Type}(o:Option Nat)(k:Option Nat→α):zwA o k=k o:=by cases o<;>simp[zwA,zcj]
def fcV{α:Type}(v:V)(k:V→α):α:=
 match v with
 | .lit (.int kd n)=>zsf n fun n'=>k (.lit (.int kd n'))
 | .lit (.bool b)=>zqI b fun b'=>k (.lit (.bool b'))
 | .lit x=>k (.lit x)
 | .ptr β o=>zdk β fun β'=>zdk o fun o'=>k (.ptr β' o')
 | .sl β o n len cap=>zdk β fun β'=>zdk o fun o'=>zdk n fun n'=>zdk len fun len'=>zwA cap fun cap'=>k (.sl β' o' n' len' cap')
 | .clo f a b=>zcP a fun a'=>zcP b fun b'=>k (.clo f a' b')
 | .agg vs=>zcP vs fun vs'=>k (.agg vs')
 | .tup vs=>zcP vs fun vs'=>k (.tup vs')
 | v=>k v
theorem zvn{α:Type}(v:V)(k:V→α):fcV v k=k v:=by
 cases v with
 | lit x=>cases x<;>simp[fcV,znJ,zke]
 | _=>simp[fcV,zcj,zo1,zct]
def zrb{α β:Type}(l:List β)(n:Nat)(v:β)(k:List β→α):α:=
 match l with
 | []=>k []
 | x :: r=>match n with
  | .zero=>k (v :: r)
  | .succ m=>zrb r m v fun r'=>k (x :: r')
theorem zjm{α β:Type}:∀(l:List β) (n:Nat) (v:β) (k:List β→α),zrb l n v k=k (l.set n v)
 | [],n,v,k=>by simp[zrb]
 | x :: r,0,v,k=>by simp[zrb]
 | x :: r,n+1,v,k=>by simp[zrb,zjm r n]
def nth{β:Type}(l:List β)(n:Nat):Option β:=
 match l with
 | []=>none
 | x :: r=>match n with
  | .zero=>some x
  | .succ m=>nth r m
theorem zgg{β:Type}:∀(l:List β) (n:Nat),nth l n=l[n]?
 | [],n=>by simp[nth]
 | x :: r,0=>by simp[nth]
 | x :: r,n+1=>by simp[nth,zgg r n]
def zwR(h:zap)(β:Nat):Option (List V):=
 match nth h β with
 | some (.blk cs)=>some cs
 | _=>none
theorem zqR(h:zap)(β:Nat):zwR h β=zaP h β:=by simp only[zwR,zaP,zgg]; rfl
def zoH(g:X→Option V)(x:X):Option Int:=match g x with | some (.lit (.int _ n))=>some n | _=>none
def zwx(g:X→Option V)(x:X):Option Bool:=match g x with | some (.lit (.bool b))=>some b | _=>none
def zlW(g:X→Option V):Option X→Option (Option Int)
 | none=>some none
 | some x=>(zoH g x).map some
def zki(cs:List V)(o:Nat):Option Nat→Option V
 | none=>nth cs o
 | some n=>(slot o n cs).map .agg
theorem zg4(cs:List V)(o:Nat)(n:Option Nat):zki cs o n=takeN cs o n:=by cases n<;>simp[zki,takeN,zgg]
def zrr(g:X→Option V)(cs:List V):List (Nat×Nat×X)→Option (List V)
 | []=>some cs
 |(off,n,x):: r=>match (g x).bind V.cells with
  | some l=>bif (l.length == n) && Nat.ble (off+n) cs.length then zcP (za9 cs off l) fun cs'=>zrr g cs' r else none
  | none=>none
theorem zna(env:List V):∀(ps:List (Nat×Nat×X)) (cs:List V),zrr (ev env) cs ps=zfd env cs ps
 | [],cs=>rfl
 |(off,n,x):: r,cs=>by
  simp only[zrr,zfd,zct,zna env r]; rfl
def zxb(blk:Nat→Option (List V))(β n:Nat):Bool:=match blk β with | some cs=>Nat.ble n cs.length | none=>false
def zrh(g:X→Option V)(blk:Nat→Option (List V))(β:Nat)(x:X):Bool:=match g x with
 | some (.ptr γ _)=>(match blk γ with | some _=>true | none=>false) && !(γ == β)
 | _=>false
def ztG(g:X→Option V)(blk:Nat→Option (List V))(xs:List X)(y:X):Bool:=match g y with
 | some v=>(match zp5 v with
  | some β=>xs.all (zrh g blk β)
  | none=>true)
 | none=>false
theorem zrQ(h:zap)(env:List V)(xs:List X)(y:X):ztG (ev env) (zaP h) xs y=zoM h env xs y:=by
 have hb:∀ β,zrh (ev env) (zaP h) β=ztN h env β:=by
  intro β
  funext x
  simp only[zrh,ztN];cases ev env x with
  | none=>rfl
  | some v=>
   cases v with
   | ptr γ o=>simp only[]; cases zaP h γ<;>rfl
   | _=>rfl
 simp only[ztG,zoM];cases ev env y with
 | none=>rfl
 | some v=>
  simp only[];cases zp5 v with
  | none=>rfl
  | some β=>simp only[show zrh (ev env) (zaP h)=ztN h env from funext hb]
def qG(g:X→Option V)(gs:List X→Option (List V))(blk:Nat→Option (List V)):I→Option V
 | .mov x=>g x
 | .avo xs y=>bif ztG g blk xs y then some zaQ else none
 | .pick c a b=>(match zwx g c with
  | some true=>g a
  | some false=>g b
  | none=>none)
 | .build z parts=>(zrr g (z.map .lit) parts).map .agg
 | .load n x=>(match g x with
  | some (.ptr β o)=>(match blk β with
   | some cs=>zki cs o n
   | none=>none)
  | _=>none)
 | .fld off x=>(match g x with
  | some (.ptr β o)=>some (.ptr β (o+off))
  | _=>none)
 | .idxS n x i=>(match g x,zoH g i with
  | some (.sl β o n' len _),some m=>bif (n == n') && decide (0≤m) && decide (m<len)then some (.ptr β (o+m.toNat * n))else none
  | _,_=>none)
 | .idxA n cnt x i=>(match g x,zoH g i with
  | some (.ptr β o),some m=>bif decide (0≤m) && decide (m<cnt)then some (.ptr β (o+m.toNat * n))else none
  | _,_=>none)
 | .idxV n cnt x i=>(match g x,zoH g i with
  | some (.agg vs),some m=>bif decide (0≤m) && decide (m<cnt)then zki vs (m.toNat * n.getD 1) n else none
  | _,_=>none)
 | .part n off x=>(match g x with
  | some (.agg vs)=>zki vs off n
  | _=>none)
 | .bin op x y=>(match g x,g y with
  | some v,some v'=>zlD op v v'
  | _,_=>none)
 | .eqb neg x y=>(match zwx g x,zwx g y with
  | some a,some b=>some (.lit (.bool (bif neg then !(a == b)else(a == b))))
  | _,_=>none)
 | .eqn neg x=>(match g x with
  | some (.lit (.slice none 0 0))=>some (.lit (.bool !neg))
  | some (.sl ..)=>some (.lit (.bool neg))
  | _=>none)
 | .eqi neg x=>(match g x with
  | some (.lit .nilIface)=>some (.lit (.bool !neg))
  | some (.ifc ..)=>some (.lit (.bool neg))
  | _=>none)
 | .eqp neg x=>(match g x with
  | some (.lit (.pointer none))=>some (.lit (.bool !neg))
  | some (.ptr ..)=>some (.lit (.bool neg))
  | _=>none)
 | .un op x=>(match g x with
  | some v=>unV op v
  | none=>none)
 | .conv k x=>(match zoH g x with
  | some m=>some (.lit (.int k (k.wrap m)))
  | none=>none)
 | .len x=>(match g x with
  | some v=>zwf v
  | none=>none)
 | .mm b xs=>(match gs xs with
  | some (v :: vs)=>mms b v vs
  | _=>none)
 | .ext x i=>(match g x with
  | some (.tup vs)=>nth vs i
  | _=>none)
 | .slc n x lo hi mx=>(match g x,zlW g lo,zlW g hi,zlW g mx with
  | some v,some l,some hh,some m=>zuD blk n l hh m v
  | _,_,_,_=>none)
 | .slcA n cnt x lo hi mx=>(match g x,zlW g lo,zlW g hi,zlW g mx with
  | some (.ptr β o),some l,some hh,some m=>bif Nat.blt 0 n && Nat.blt cnt (2 ^ 63) && zxb blk β (o+cnt * n)then(bounds cnt (some cnt) l hh m).map fun(l,hh,c)=>.sl β (o+l * n) n (hh - l) c else none
  | _,_,_,_=>none)
 | .nilck x=>(match g x with
  | some (.ptr β o)=>some (.ptr β o)
  | some (.clo f a b)=>some (.clo f a b)
  | _=>none)
 | .clo f first cap=>(match gs first,gs cap with
  | some vs,some vs'=>some (.clo f vs vs')
  | _,_=>none)
 | .mkI t x=>(match g x with
  | some v=>some (.ifc t v)
  | none=>none)
 | .chr l i=>(match zoH g i with
  | some m=>bif decide (0≤m)then(match nth l m.toNat with
   | some b=>some (.lit (.int .u8 (Int.ofNat b)))
   | none=>none)else none
  | none=>none)
 | _=>none
theorem zp2(env:List V)(x:X):zoH (ev env) x=evI env x:=rfl
theorem zmZ(env:List V)(x:Option X):zlW (ev env) x=zoh env x:=by cases x<;>rfl
theorem zwH(h:zap)(env:List V)(i:I):qG (ev env) (evs env) (zaP h) i=q h env i:=by
 cases i with
 | build z ps=>simp only[qG,q,zna]
 | avo xs y=>simp only[qG,q,zrQ]
 | load n x=>
  simp only[qG,q,zg4];cases ev env x with
  | none=>rfl
  | some v=>
   cases v<;>first | rfl | (simp only[]; cases zaP h _<;>rfl)
 | idxV n cnt x i=>simp only[qG,q,zg4,zp2]; rfl
 | part n off x=>simp only[qG,q,zg4]; rfl
 | ext x i=>simp only[qG,q,zgg]; rfl
 | un op x=>simp only[qG,q]; cases ev env x<;>rfl
 | len x=>simp only[qG,q]; cases ev env x<;>rfl
 | mkI t x=>simp only[qG,q]; cases ev env x<;>rfl
 | chr l i=>
  simp only[qG,q,zp2,zgg];cases evI env i with
  | none=>rfl
  | some m=>simp only[]; cases l[m.toNat]?<;>rfl
 | slc n x lo hi mx=>simp only[qG,q,zmZ]; rfl
 | slcA n cnt x lo hi mx=>simp only[qG,q,zmZ]; rfl
 | _=>rfl
def zu1{α:Type}(o:Ob)(k:Ob→α):α:=
 match o with
 | .blk cs=>zcP cs fun cs'=>k (.blk cs')
 | o=>k o
theorem zmI{α:Type}(o:Ob)(k:Ob→α):zu1 o k=k o:=by cases o<;>simp[zu1,zct]
def zjj{α:Type}(env:List V)(ps:List Nat)(vs:List V)(k:List V→Option α):Option α:=
 match ps,vs with
 | [],[]=>k env
 | p :: ps,v :: vs=>fcV v fun v'=>zrb env p v' fun env'=>zjj env' ps vs k
 | _,_=>none
theorem ziI{α:Type}:∀(ps:List Nat) (vs:List V) (env:List V) (k:List V→Option α),zjj env ps vs k=(match ze4 env ps vs with | some e=>k e | none=>none)
 | [],[],env,k=>rfl
 | p :: ps,v :: vs,env,k=>by simp only[zjj,ze4,zvn,zjm,ziI ps vs]
 | [],_ :: _,_,_=>rfl
 | _ :: _,[],_,_=>rfl
def zg6(h:zap)(env:List V):RX→Option V
 | .tmp k=>nth env k
 | .cell k n=>(match nth env k with
  | some (.ptr β o)=>(match zwR h β with
   | some cs=>zki cs o n
   | none=>none)
  | _=>none)
theorem zol(h:zap)(env:List V)(x:RX):zg6 h env x=zfw h env x:=by
 cases x with
 | tmp k=>simp[zg6,zfw,zgg]
 | cell k n=>
  simp only[zg6,zfw,zgg,zqR,zg4];cases env[k]? with
  | none=>rfl
  | some v=>cases v<;>first | rfl | (simp only[]; cases zaP h _<;>rfl)
end Go.Mx
