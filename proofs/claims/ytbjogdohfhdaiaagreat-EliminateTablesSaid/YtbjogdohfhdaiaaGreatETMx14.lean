/-
 The machine once more, step by step in full, for the kernel: it computes the same. Conditions: none.
-/
import Derived.Test.YtbjogdohfhdaiaaGreatETJ18
set_option linter.unusedSimpArgs false
set_option linter.unusedVariables false
namespace Go.Mx
open Go
def zdD{α:Type}(n:Nat)(k:Nat->α):α:=
 match n with
 | .zero=>k .zero
 | .succ m=>k (.succ m)
variable{α:Type}
theorem zcj(n:Nat)(k:Nat->α):zdD n k=k n:=by cases n<;>rfl
def zxD{α:Type}(n:Int)(k:Int->α):α:=
 match n with
 | .ofNat m=>zdD m λm'=>k (.ofNat m')
 | .negSucc m=>zdD m λm'=>k (.negSucc m')
theorem zrf(n:Int)(k:Int->α):zxD n k=k n:=by cases n<;>simp[zxD,zcj]
def ztH{α:Type}(b:Bool)(k:Bool->α):α:=
 match b with
 | true=>k true
 | false=>k false
theorem zop(b:Bool)(k:Bool->α):ztH b k=k b:=by cases b<;>rfl
def zdB{α β:Type}(l:List β)(k:List β->α):α:=
 match l with
 | []=>k []
 | x :: r=>zdB r λr'=>k (x :: r')
theorem zcD{α β:Type}:∀(l:List β) (k:List β->α),zdB l k=k l
 | [],_=>rfl
 | x :: r,k=>by simp[zdB,zcD r]
def zDn{α:Type}(o:Option Nat)(k:Option Nat->α):α:=
 match o with
 | none=>k none
 | some n=>zdD n λn'=>k (some n')
theorem zvn(o:Option Nat)(k:Option Nat->α):zDn o k=k o:=by cases o<;>simp[zDn,zcj]
def fcV{α:Type}(v:V)(k:V->α):α:=
 match v with
 | .lit (.int kd n)=>zxD n λn'=>k (.lit (.int kd n'))
 | .lit (.bool b)=>ztH b λb'=>k (.lit (.bool b'))
 | .lit x=>k (.lit x)
 | .ptr β o=>zdD β λβ'=>zdD o λo'=>k (.ptr β' o')
 | .sl β o n len cap=>zdD β λβ'=>zdD o λo'=>zdD n λn'=>zdD len λlen'=>zDn cap λcap'=>k (.sl β' o' n' len' cap')
 | .clo f a b=>zdB a λa'=>zdB b λb'=>k (.clo f a' b')
 | .agg vs=>zdB vs λvs'=>k (.agg vs')
 | .tup vs=>zdB vs λvs'=>k (.tup vs')
 | v=>k v
theorem zCe(v:V)(k:V->α):fcV v k=k v:=by
 cases v with
 | lit x=>cases x<;>simp[fcV,zrf,zop]
 | _=>simp[fcV,zcj,zvn,zcD]
def zvH{α β:Type}(l:List β)(n:Nat)(v:β)(k:List β->α):α:=
 match l with
 | []=>k []
 | x :: r=>match n with
  | .zero=>k (v :: r)
  | .succ m=>zvH r m v λr'=>k (x :: r')
theorem zid{α β:Type}:∀(l:List β) (n:Nat) (v:β) (k:List β->α),zvH l n v k=k (l.set n v)
 | [],n,v,k=>by simp[zvH]
 | x :: r,0,v,k=>by simp[zvH]
 | x :: r,n+1,v,k=>by simp[zvH,zid r n]
def nth{β:Type}(l:List β)(n:Nat):Option β:=
 match l with
 | []=>none
 | x :: r=>match n with
  | .zero=>some x
  | .succ m=>nth r m
theorem zhL{β:Type}:∀(l:List β) (n:Nat),nth l n=l[n]?
 | [],n=>by simp[nth]
 | x :: r,0=>by simp[nth]
 | x :: r,n+1=>by simp[nth,zhL r n]
def zD0(h:zaj)(β:Nat):Option (List V):=
 match nth h β with
 | some (.blk cs)=>some cs
 | _=>none
theorem zve(h:zaj)(β:Nat):zD0 h β=zax h β:=by simp only[zD0,zax,zhL]; rfl
def zr3(g:X->Option V)(x:X):Option Int:=match g x with | some (.lit (.int _ n))=>some n | _=>none
def zDu(g:X->Option V)(x:X):Option Bool:=match g x with | some (.lit (.bool b))=>some b | _=>none
def zo0(g:X->Option V):Option X->Option (Option Int)
 | none=>some none
 | some x=>(zr3 g x).map some
def znX(cs:List V)(o:Nat):Option Nat->Option V
 | none=>nth cs o
 | some n=>(slot o n cs).map .agg
theorem zi3(cs:List V)(o:Nat)(n:Option Nat):znX cs o n=takeN cs o n:=by cases n<;>simp[znX,takeN,zhL]
def zxH(g:X->Option V)(cs:List V):List (Nat×Nat×X)->Option (List V)
 | []=>some cs
 |(off,n,x):: r=>match (g x).bind V.cells with
  | some l=>bif (l.length == n) && Nat.ble (off+n) cs.length then zdB (zbB cs off l) λcs'=>zxH g cs' r else none
  | none=>none
theorem zp8(env:List V):∀(ps:List (Nat×Nat×X)) (cs:List V),zxH (ev env) cs ps=zfY env cs ps
 | [],cs=>rfl
 |(off,n,x):: r,cs=>by
  simp only[zxH,zfY,zcD,zp8 env r]; rfl
def zDT(blk:Nat->Option (List V))(β n:Nat):Bool:=match blk β with | some cs=>Nat.ble n cs.length | none=>false
def zxg(g:X->Option V)(blk:Nat->Option (List V))(β:Nat)(x:X):Bool:=match g x with
 | some (.ptr γ _)=>(match blk γ with | some _=>true | none=>false) && !(γ == β)
 | _=>false
def zzH(g:X->Option V)(blk:Nat->Option (List V))(xs:List X)(y:X):Bool:=match g y with
 | some v=>(match zsQ v with
  | some β=>xs.all (zxg g blk β)
  | none=>true)
 | none=>false
theorem zw9(h:zaj)(env:List V)(xs:List X)(y:X):zzH (ev env) (zax h) xs y=zsP h env xs y:=by
 have hb:∀ β,zxg (ev env) (zax h) β=zzI h env β:=by
  intro β
  funext x
  simp only[zxg,zzI];cases ev env x with
  | none=>rfl
  | some v=>
   cases v with
   | ptr γ o=>simp only[]; cases zax h γ<;>rfl
   | _=>rfl
 simp only[zzH,zsP];cases ev env y with
 | none=>rfl
 | some v=>
  simp only[];cases zsQ v with
  | none=>rfl
  | some β=>simp only[show zxg (ev env) (zax h)=zzI h env from funext hb]
def qG(g:X->Option V)(gs:List X->Option (List V))(blk:Nat->Option (List V)):I->Option V
 | .mov x=>g x
 | .avo xs y=>bif zzH g blk xs y then some za3 else none
 | .pick c a b=>(match zDu g c with
  | some true=>g a
  | some false=>g b
  | none=>none)
 | .build z parts=>(zxH g (z.map .lit) parts).map .agg
 | .load n x=>(match g x with
  | some (.ptr β o)=>(match blk β with
   | some cs=>znX cs o n
   | none=>none)
  | _=>none)
 | .fld off x=>(match g x with
  | some (.ptr β o)=>some (.ptr β (o+off))
  | _=>none)
 | .idxS n x i=>(match g x,zr3 g i with
  | some (.sl β o n' len _),some m=>bif (n == n') && decide (0<=m) && decide (m<len)then some (.ptr β (o+m.toNat * n))else none
  | _,_=>none)
 | .idxA n cnt x i=>(match g x,zr3 g i with
  | some (.ptr β o),some m=>bif decide (0<=m) && decide (m<cnt)then some (.ptr β (o+m.toNat * n))else none
  | _,_=>none)
 | .idxV n cnt x i=>(match g x,zr3 g i with
  | some (.agg vs),some m=>bif decide (0<=m) && decide (m<cnt)then znX vs (m.toNat * n.getD 1) n else none
  | _,_=>none)
 | .part n off x=>(match g x with
  | some (.agg vs)=>znX vs off n
  | _=>none)
 | .bin op x y=>(match g x,g y with
  | some v,some v'=>znd op v v'
  | _,_=>none)
 | .eqb neg x y=>(match zDu g x,zDu g y with
  | some a,some b=>some (.lit (.bool (bif neg then !(a == b)else(a == b))))
  | _,_=>none)
 | .eqa n neg x y=>(match g x,g y with
  | some (.agg vs),some (.agg ws)=>bif Nat.beq vs.length n && Nat.beq ws.length n then(match zxm vs ws with
   | some b=>some (.lit (.bool (bif neg then !b else b)))
   | none=>none)else none
  | _,_=>none)
 | .eqn neg x=>(match g x with
  | some (.lit (.slice none 0 0))=>some (.lit (.bool !neg))
  | some (.sl ..)=>some (.lit (.bool neg))
  | _=>none)
 | .eqi neg x=>(match g x with
  | some (.lit .nilIface)=>some (.lit (.bool !neg))
  | some (.ifc ..)=>some (.lit (.bool neg))
  | _=>none)
 | .eqp neg x=>(match g x with
  | some (.lit (.pointer none))=>some (.lit (.bool !neg))
  | some (.ptr ..)=>some (.lit (.bool neg))
  | _=>none)
 | .un op x=>(match g x with
  | some v=>unV op v
  | none=>none)
 | .conv k x=>(match zr3 g x with
  | some m=>some (.lit (.int k (k.wrap m)))
  | none=>none)
 | .len x=>(match g x with
  | some v=>zCl v
  | none=>none)
 | .mm b xs=>(match gs xs with
  | some (v :: vs)=>mms b v vs
  | _=>none)
 | .ext x i=>(match g x with
  | some (.tup vs)=>nth vs i
  | _=>none)
 | .slc n x lo hi mx=>(match g x,zo0 g lo,zo0 g hi,zo0 g mx with
  | some v,some l,some hh,some m=>zC8 blk n l hh m v
  | _,_,_,_=>none)
 | .slcA n cnt x lo hi mx=>(match g x,zo0 g lo,zo0 g hi,zo0 g mx with
  | some (.ptr β o),some l,some hh,some m=>bif Nat.blt 0 n && Nat.blt cnt (2 ^ 63) && zDT blk β (o+cnt * n)then(bounds cnt (some cnt) l hh m).map λ(l,hh,c)=>.sl β (o+l * n) n (hh - l) c else none
  | _,_,_,_=>none)
 | .nilck x=>(match g x with
  | some (.ptr β o)=>some (.ptr β o)
  | some (.clo f a b)=>some (.clo f a b)
  | _=>none)
 | .clo f first cap=>(match gs first,gs cap with
  | some vs,some vs'=>some (.clo f vs vs')
  | _,_=>none)
 | .mkI t x=>(match g x with
  | some v=>some (.ifc t v)
  | none=>none)
 | .chr l i=>(match zr3 g i with
  | some m=>bif decide (0<=m)then(match nth l m.toNat with
   | some b=>some (.lit (.int .u8 (Int.ofNat b)))
   | none=>none)else none
  | none=>none)
 | _=>none
theorem zuF(env:List V)(x:X):zr3 (ev env) x=evI env x:=rfl
theorem zqP(env:List V)(x:Option X):zo0 (ev env) x=zrG env x:=by cases x<;>rfl
theorem zDC(h:zaj)(env:List V)(i:I):qG (ev env) (evs env) (zax h) i=q h env i:=by
 cases i with
 | build z ps=>simp only[qG,q,zp8]
 | avo xs y=>simp only[qG,q,zw9]
 | load n x=>
  simp only[qG,q,zi3];cases ev env x with
  | none=>rfl
  | some v=>
   cases v<;>first | rfl | (simp only[]; cases zax h _<;>rfl)
 | idxV n cnt x i=>simp only[qG,q,zi3,zuF]; rfl
 | part n off x=>simp only[qG,q,zi3]; rfl
 | ext x i=>simp only[qG,q,zhL]; rfl
 | un op x=>simp only[qG,q]; cases ev env x<;>rfl
 | len x=>simp only[qG,q]; cases ev env x<;>rfl
 | mkI t x=>simp only[qG,q]; cases ev env x<;>rfl
 | chr l i=>
  simp only[qG,q,zuF,zhL];cases evI env i with
  | none=>rfl
  | some m=>simp only[]; cases l[m.toNat]?<;>rfl
 | slc n x lo hi mx=>simp only[qG,q,zqP]; rfl
 | slcA n cnt x lo hi mx=>simp only[qG,q,zqP]; rfl
 | _=>rfl
def zCV{α:Type}(o:Ob)(k:Ob->α):α:=
 match o with
 | .blk cs=>zdB cs λcs'=>k (.blk cs')
 | o=>k o
theorem zuo(o:Ob)(k:Ob->α):zCV o k=k o:=by cases o<;>simp[zCV,zcD]
def zlL{α:Type}(env:List V)(ps:List Nat)(vs:List V)(k:List V->Option α):Option α:=
 match ps,vs with
 | [],[]=>k env
 | p :: ps,v :: vs=>fcV v λv'=>zvH env p v' λenv'=>zlL env' ps vs k
 | _,_=>none
theorem zkw{α:Type}:∀(ps:List Nat) (vs:List V) (env:List V) (k:List V->Option α),zlL env ps vs k=(match zfU env ps vs with | some e=>k e | none=>none)
 | [],[],env,k=>rfl
 | p :: ps,v :: vs,env,k=>by simp only[zlL,zfU,zCe,zid,zkw ps vs]
 | [],_ :: _,_,_=>rfl
 | _ :: _,[],_,_=>rfl
def zjs(h:zaj)(env:List V):RX->Option V
 | .tmp k=>nth env k
 | .cell k n=>(match nth env k with
  | some (.ptr β o)=>(match zD0 h β with
   | some cs=>znX cs o n
   | none=>none)
  | _=>none)
theorem zrT(h:zaj)(env:List V)(x:RX):zjs h env x=zgS h env x:=by
 cases x with
 | tmp k=>simp[zjs,zgS,zhL]
 | cell k n=>
  simp only[zjs,zgS,zhL,zve,zi3];cases env[k]? with
  | none=>rfl
  | some v=>cases v<;>first | rfl | (simp only[]; cases zax h _<;>rfl)
end Go.Mx
