/-
 The machine with an oracle: calls whose outcome is known are not run again. Conditions: none.
-/
import Derived.Test.YtbjogdohfhdaiaaCaJ20
import Derived.Test.YtbjogdohfhdaiaaCaMxF
set_option linter.unusedSimpArgs false
set_option linter.unusedVariables false
namespace Go.Mx
open Go
abbrev KT:=StT->Option (Ex×StT)
abbrev Sx:=RecT->Nat->Bool->Bool->Bool->StT->O->KT->Option (Ex×StT)
def fcI(kd:IntKind)(n:Int){α:Type}(k:V->α):α:=zsh n λn'=>k (.lit (.int kd n'))
def fcB(b:Bool){α:Type}(k:V->α):α:=zqP b λb'=>k (.lit (.bool b'))
def fcL(x:Value){α:Type}:(V->α)->α:=
 match x with
 | .int kd n=>fcI kd n
 | .bool b=>fcB b
 | x=>λk=>k (.lit x)
def fcP(β o:Nat){α:Type}(k:V->α):α:=zcs β λβ'=>zcs o λo'=>k (.ptr β' o')
def fcS(β o n len:Nat)(cap:Option Nat){α:Type}(k:V->α):α:=zcs β λβ'=>zcs o λo'=>zcs n λn'=>zcs len λlen'=>zwy cap λcap'=>k (.sl β' o' n' len' cap')
def fcC(f:Nat)(a b:List V){α:Type}(k:V->α):α:=zcc a λa'=>zcc b λb'=>k (.clo f a' b')
def fcA(vs:List V){α:Type}(k:V->α):α:=zcc vs λvs'=>k (.agg vs')
def fcT(vs:List V){α:Type}(k:V->α):α:=zcc vs λvs'=>k (.tup vs')
def fcX(v:V){α:Type}:(V->α)->α:=
 match v with
 | .lit x=>fcL x
 | .ptr β o=>fcP β o
 | .sl β o n len cap=>fcS β o n len cap
 | .clo f a b=>fcC f a b
 | .agg vs=>fcA vs
 | .tup vs=>fcT vs
 | v=>λk=>k v
theorem zsE{α:Type}(v:V)(k:V->α):fcX v k=k v:=by
 cases v with
 | lit x=>cases x<;>simp[fcX,fcL,fcI,fcB,zmu,zkc]
 | _=>simp[fcX,fcP,fcS,fcC,fcA,fcT,zbP,zo7,zbJ]
def okB(x:Bool)(v:V):Option V:=bif x then some v else none
abbrev Bx:=IntKind->IntKind->Int->Int->Option V
def zx2:Bx:=λk k' m n=>okB (kEq k k') (.lit (.int k (zfk k (Int.add m n))))
def zxR:Bx:=λk k' m n=>okB (kEq k k') (.lit (.int k (zfk k (Int.sub m n))))
def zxQ:Bx:=λk k' m n=>okB (kEq k k') (.lit (.int k (zfk k (Int.mul m n))))
def zyv:Bx:=λk k' m n=>okB (kEq k k') (.lit (.bool (iEq m n)))
def zx8:Bx:=λk k' m n=>okB (kEq k k') (.lit (.bool (!iEq m n)))
def zx5:Bx:=λk k' m n=>okB (kEq k k') (.lit (.bool (iLt m n)))
def zx7:Bx:=λk k' m n=>okB (kEq k k') (.lit (.bool (iLe m n)))
def zyp:Bx:=λk k' m n=>okB (kEq k k') (.lit (.bool (iLt n m)))
def zyn:Bx:=λk k' m n=>okB (kEq k k') (.lit (.bool (iLe n m)))
def zwk(op:BinOp):Bx:=λk k' m n=>zns op (.lit (.int k m)) (.lit (.int k' n))
def bOp(op:BinOp):Bx:=
 match op with
 | .add=>zx2
 | .sub=>zxR
 | .mul=>zxQ
 | .eql=>zyv
 | .neq=>zx8
 | .lss=>zx5
 | .leq=>zx7
 | .gtr=>zyp
 | .geq=>zyn
 | op=>zwk op
def intOf(v:Option V):Option (IntKind×Int):=
 match v with
 | some (.lit (.int k m))=>some (k,m)
 | _=>none
def zxE(f:Bx)(a b:Option (IntKind×Int)):Option V:=
 match a with
 | some (k,m)=>(match b with
  | some (k',n)=>f k k' m n
  | none=>none)
 | none=>none
theorem zvH(op:BinOp)(k k':IntKind)(m n:Int):bOp op k k' m n=zns op (.lit (.int k m)) (.lit (.int k' n)):=by cases op<;>rfl
theorem ztE(op:BinOp)(a b:Option V):zxE (bOp op) (intOf a) (intOf b)=(match a with | some v=>(match b with | some v'=>zns op v v' | none=>none)| none=>none):=by
 cases a with
 | none=>rfl
 | some v=>
  cases v with
  | lit x=>
   cases x with
   | int k m=>
    cases b with
    | none=>rfl
    | some v'=>
     cases v' with
     | lit y=>
      cases y with
      | int k' n=>exact zvH op k k' m n
      | _=>rfl
     | _=>rfl
   | _=>cases b<;>rfl
  | _=>cases b<;>rfl
def zx1(p:Option V)(off:Nat):Option V:=
 match p with
 | some (.ptr β o)=>some (.ptr β (Nat.add o off))
 | _=>none
def zvM(v:Option V):Option Nat:=
 match v with
 | some (.lit (.int _ (.ofNat m)))=>some m
 | _=>none
def zvq(n:Nat)(p:Option V)(i:Option Nat):Option V:=
 match p with
 | some (.sl β o n' len _)=>(match i with
  | some m=>bif Nat.beq n n' && Nat.blt m len then some (.ptr β (Nat.add o (Nat.mul m n)))else none
  | none=>none)
 | _=>none
def zvx(n cnt:Nat)(p:Option V)(i:Option Nat):Option V:=
 match p with
 | some (.ptr β o)=>(match i with
  | some m=>bif Nat.blt m cnt then some (.ptr β (Nat.add o (Nat.mul m n)))else none
  | none=>none)
 | _=>none
def zv5(k:IntKind)(p:Option (IntKind×Int)):Option V:=
 match p with
 | some (_,m)=>some (.lit (.int k (zfk k m)))
 | none=>none
def zlO(v:Option V):Option Bool:=
 match v with
 | some (.lit (.bool b))=>some b
 | _=>none
def xUn(op:UnOp)(p:Option V):Option V:=match p with | some v=>unV op v | none=>none
def zx3(p:Option V):Option V:=match p with | some v=>zuY v | none=>none
def zyB(p:Option V)(i:Nat):Option V:=match p with | some (.tup vs)=>nth vs i | _=>none
end Go.Mx
