/-
 The machine with an oracle: calls whose outcome is known are not run again. Conditions: none.
-/
import Derived.Test.YtbjogdohfhdaiaaGreatErJ22
import Derived.Test.YtbjogdohfhdaiaaGreatErMxF
set_option linter.unusedSimpArgs false
set_option linter.unusedVariables false
namespace Go.Mx
open Go
abbrev KT:=StT->Option (Ex×StT)
abbrev Sx:=RecT->Nat->Bool->Bool->Bool->StT->O->KT->Option (Ex×StT)
def fcI(kd:IntKind)(n:Int){α:Type}(k:V->α):α:=zzu n λn'=>k (.lit (.int kd n'))
def fcB(b:Bool){α:Type}(k:V->α):α:=zuU b λb'=>k (.lit (.bool b'))
def fcL(x:Value){α:Type}:(V->α)->α:=
 match x with
 | .int kd n=>fcI kd n
 | .bool b=>fcB b
 | x=>λk=>k (.lit x)
def fcP(β o:Nat){α:Type}(k:V->α):α:=zd9 β λβ'=>zd9 o λo'=>k (.ptr β' o')
def fcS(β o n len:Nat)(cap:Option Nat){α:Type}(k:V->α):α:=zd9 β λβ'=>zd9 o λo'=>zd9 n λn'=>zd9 len λlen'=>zGg cap λcap'=>k (.sl β' o' n' len' cap')
def fcC(f:Nat)(a b:List V){α:Type}(k:V->α):α:=zd3 a λa'=>zd3 b λb'=>k (.clo f a' b')
def fcA(vs:List V){α:Type}(k:V->α):α:=zd3 vs λvs'=>k (.agg vs')
def fcT(vs:List V){α:Type}(k:V->α):α:=zd3 vs λvs'=>k (.tup vs')
def fcX(v:V){α:Type}:(V->α)->α:=
 match v with
 | .lit x=>fcL x
 | .ptr β o=>fcP β o
 | .sl β o n len cap=>fcS β o n len cap
 | .clo f a b=>fcC f a b
 | .agg vs=>fcA vs
 | .tup vs=>fcT vs
 | v=>λk=>k v
theorem zAN{α:Type}(v:V)(k:V->α):fcX v k=k v:=by
 cases v with
 | lit x=>cases x<;>simp[fcX,fcL,fcI,fcB,zsU,zpx]
 | _=>simp[fcX,fcP,fcS,fcC,fcA,fcT,zcC,zvT,zdc]
def okB(x:Bool)(v:V):Option V:=bif x then some v else none
abbrev Bx:=IntKind->IntKind->Int->Int->Option V
def zIF:Bx:=λk k' m n=>okB (kEq k k') (.lit (.int k (zh3 k (Int.add m n))))
def zI5:Bx:=λk k' m n=>okB (kEq k k') (.lit (.int k (zh3 k (Int.sub m n))))
def zIe:Bx:=λk k' m n=>okB (kEq k k') (.lit (.int k (zh3 k (Int.mul m n))))
def zIm:Bx:=λk k' m n=>okB (kEq k k') (.lit (.bool (iEq m n)))
def zID:Bx:=λk k' m n=>okB (kEq k k') (.lit (.bool (!iEq m n)))
def zIO:Bx:=λk k' m n=>okB (kEq k k') (.lit (.bool (iLt m n)))
def zIs:Bx:=λk k' m n=>okB (kEq k k') (.lit (.bool (iLe m n)))
def zIS:Bx:=λk k' m n=>okB (kEq k k') (.lit (.bool (iLt n m)))
def zI3:Bx:=λk k' m n=>okB (kEq k k') (.lit (.bool (iLe n m)))
def zFi(op:BinOp):Bx:=λk k' m n=>ztD op (.lit (.int k m)) (.lit (.int k' n))
def bOp(op:BinOp):Bx:=
 match op with
 | .add=>zIF
 | .sub=>zI5
 | .mul=>zIe
 | .eql=>zIm
 | .neq=>zID
 | .lss=>zIO
 | .leq=>zIs
 | .gtr=>zIS
 | .geq=>zI3
 | op=>zFi op
def intOf(v:Option V):Option (IntKind×Int):=
 match v with
 | some (.lit (.int k m))=>some (k,m)
 | _=>none
def zH3(f:Bx)(a b:Option (IntKind×Int)):Option V:=
 match a with
 | some (k,m)=>(match b with
  | some (k',n)=>f k k' m n
  | none=>none)
 | none=>none
theorem zFJ(op:BinOp)(k k':IntKind)(m n:Int):bOp op k k' m n=ztD op (.lit (.int k m)) (.lit (.int k' n)):=by cases op<;>rfl
theorem zCC(op:BinOp)(a b:Option V):zH3 (bOp op) (intOf a) (intOf b)=(match a with | some v=>(match b with | some v'=>ztD op v v' | none=>none)| none=>none):=by
 cases a with
 | none=>rfl
 | some v=>
  cases v with
  | lit x=>
   cases x with
   | int k m=>
    cases b with
    | none=>rfl
    | some v'=>
     cases v' with
     | lit y=>
      cases y with
      | int k' n=>exact zFJ op k k' m n
      | _=>rfl
     | _=>rfl
   | _=>cases b<;>rfl
  | _=>cases b<;>rfl
def zI7(p:Option V)(off:Nat):Option V:=
 match p with
 | some (.ptr β o)=>some (.ptr β (Nat.add o off))
 | _=>none
def zD9(v:Option V):Option Nat:=
 match v with
 | some (.lit (.int _ (.ofNat m)))=>some m
 | _=>none
def zEc(n:Nat)(p:Option V)(i:Option Nat):Option V:=
 match p with
 | some (.sl β o n' len _)=>(match i with
  | some m=>bif Nat.beq n n' && Nat.blt m len then some (.ptr β (Nat.add o (Nat.mul m n)))else none
  | none=>none)
 | _=>none
def zDJ(n cnt:Nat)(p:Option V)(i:Option Nat):Option V:=
 match p with
 | some (.ptr β o)=>(match i with
  | some m=>bif Nat.blt m cnt then some (.ptr β (Nat.add o (Nat.mul m n)))else none
  | none=>none)
 | _=>none
def zEB(k:IntKind)(p:Option (IntKind×Int)):Option V:=
 match p with
 | some (_,m)=>some (.lit (.int k (zh3 k m)))
 | none=>none
def zrN(v:Option V):Option Bool:=
 match v with
 | some (.lit (.bool b))=>some b
 | _=>none
def xUn(op:UnOp)(p:Option V):Option V:=match p with | some v=>unV op v | none=>none
def zIz(p:Option V):Option V:=match p with | some v=>zDs v | none=>none
def zIb(p:Option V)(i:Nat):Option V:=match p with | some (.tup vs)=>nth vs i | _=>none
end Go.Mx
