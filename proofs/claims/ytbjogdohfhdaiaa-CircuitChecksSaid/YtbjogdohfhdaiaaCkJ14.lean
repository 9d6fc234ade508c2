/-
 The machine with an oracle: calls whose outcome is known are not run again. Conditions: none.
-/
import Derived.Test.YtbjogdohfhdaiaaCkJ13
import Derived.Test.YtbjogdohfhdaiaaCkMxF
set_option linter.unusedSimpArgs false
set_option linter.unusedVariables false
namespace Go.Mx
open Go
abbrev KT:=StT->Option (Ex×StT)
abbrev Sx:=RecT->Nat->Bool->Bool->Bool->StT->O->KT->Option (Ex×StT)
def fcI(kd:IntKind)(n:Int){α:Type}(k:V->α):α:=zqU n λn'=>k (.lit (.int kd n'))
def fcB(b:Bool){α:Type}(k:V->α):α:=zop b λb'=>k (.lit (.bool b'))
def fcL(x:Value){α:Type}:(V->α)->α:=
 match x with
 | .int kd n=>fcI kd n
 | .bool b=>fcB b
 | x=>λk=>k (.lit x)
def fcP(β o:Nat){α:Type}(k:V->α):α:=zcJ β λβ'=>zcJ o λo'=>k (.ptr β' o')
def fcS(β o n len:Nat)(cap:Option Nat){α:Type}(k:V->α):α:=zcJ β λβ'=>zcJ o λo'=>zcJ n λn'=>zcJ len λlen'=>zvu cap λcap'=>k (.sl β' o' n' len' cap')
def fcC(f:Nat)(a b:List V){α:Type}(k:V->α):α:=zct a λa'=>zct b λb'=>k (.clo f a' b')
def fcA(vs:List V){α:Type}(k:V->α):α:=zct vs λvs'=>k (.agg vs')
def fcT(vs:List V){α:Type}(k:V->α):α:=zct vs λvs'=>k (.tup vs')
def fcX(v:V){α:Type}:(V->α)->α:=
 match v with
 | .lit x=>fcL x
 | .ptr β o=>fcP β o
 | .sl β o n len cap=>fcS β o n len cap
 | .clo f a b=>fcC f a b
 | .agg vs=>fcA vs
 | .tup vs=>fcT vs
 | v=>λk=>k v
theorem zr7{α:Type}(v:V)(k:V->α):fcX v k=k v:=by
 cases v with
 | lit x=>cases x<;>simp[fcX,fcL,fcI,fcB,zlR,zkj]
 | _=>simp[fcX,fcP,fcS,fcC,fcA,fcT,zb3,zoD,zbW]
def okB(x:Bool)(v:V):Option V:=bif x then some v else none
abbrev Bx:=IntKind->IntKind->Int->Int->Option V
def zxn:Bx:=λk k' m n=>okB (kEq k k') (.lit (.int k (zfu k (Int.add m n))))
def zwN:Bx:=λk k' m n=>okB (kEq k k') (.lit (.int k (zfu k (Int.sub m n))))
def zw7:Bx:=λk k' m n=>okB (kEq k k') (.lit (.int k (zfu k (Int.mul m n))))
def zw5:Bx:=λk k' m n=>okB (kEq k k') (.lit (.bool (iEq m n)))
def zwT:Bx:=λk k' m n=>okB (kEq k k') (.lit (.bool (!iEq m n)))
def zxb:Bx:=λk k' m n=>okB (kEq k k') (.lit (.bool (iLt m n)))
def zxl:Bx:=λk k' m n=>okB (kEq k k') (.lit (.bool (iLe m n)))
def zw8:Bx:=λk k' m n=>okB (kEq k k') (.lit (.bool (iLt n m)))
def zwU:Bx:=λk k' m n=>okB (kEq k k') (.lit (.bool (iLe n m)))
def ztJ(op:BinOp):Bx:=λk k' m n=>zmI op (.lit (.int k m)) (.lit (.int k' n))
def bOp(op:BinOp):Bx:=
 match op with
 | .add=>zxn
 | .sub=>zwN
 | .mul=>zw7
 | .eql=>zw5
 | .neq=>zwT
 | .lss=>zxb
 | .leq=>zxl
 | .gtr=>zw8
 | .geq=>zwU
 | op=>ztJ op
def intOf(v:Option V):Option (IntKind×Int):=
 match v with
 | some (.lit (.int k m))=>some (k,m)
 | _=>none
def zws(f:Bx)(a b:Option (IntKind×Int)):Option V:=
 match a with
 | some (k,m)=>(match b with
  | some (k',n)=>f k k' m n
  | none=>none)
 | none=>none
theorem zub(op:BinOp)(k k':IntKind)(m n:Int):bOp op k k' m n=zmI op (.lit (.int k m)) (.lit (.int k' n)):=by cases op<;>rfl
theorem zsl(op:BinOp)(a b:Option V):zws (bOp op) (intOf a) (intOf b)=(match a with | some v=>(match b with | some v'=>zmI op v v' | none=>none)| none=>none):=by
 cases a with
 | none=>rfl
 | some v=>
  cases v with
  | lit x=>
   cases x with
   | int k m=>
    cases b with
    | none=>rfl
    | some v'=>
     cases v' with
     | lit y=>
      cases y with
      | int k' n=>exact zub op k k' m n
      | _=>rfl
     | _=>rfl
   | _=>cases b<;>rfl
  | _=>cases b<;>rfl
def zwY(p:Option V)(off:Nat):Option V:=
 match p with
 | some (.ptr β o)=>some (.ptr β (Nat.add o off))
 | _=>none
def zuS(v:Option V):Option Nat:=
 match v with
 | some (.lit (.int _ (.ofNat m)))=>some m
 | _=>none
def zt3(n:Nat)(p:Option V)(i:Option Nat):Option V:=
 match p with
 | some (.sl β o n' len _)=>(match i with
  | some m=>bif Nat.beq n n' && Nat.blt m len then some (.ptr β (Nat.add o (Nat.mul m n)))else none
  | none=>none)
 | _=>none
def zur(n cnt:Nat)(p:Option V)(i:Option Nat):Option V:=
 match p with
 | some (.ptr β o)=>(match i with
  | some m=>bif Nat.blt m cnt then some (.ptr β (Nat.add o (Nat.mul m n)))else none
  | none=>none)
 | _=>none
def ztT(k:IntKind)(p:Option (IntKind×Int)):Option V:=
 match p with
 | some (_,m)=>some (.lit (.int k (zfu k m)))
 | none=>none
def zlH(v:Option V):Option Bool:=
 match v with
 | some (.lit (.bool b))=>some b
 | _=>none
def xUn(op:UnOp)(p:Option V):Option V:=match p with | some v=>unV op v | none=>none
def zwK(p:Option V):Option V:=match p with | some v=>zvd v | none=>none
def zwV(p:Option V)(i:Nat):Option V:=match p with | some (.tup vs)=>nth vs i | _=>none
end Go.Mx
