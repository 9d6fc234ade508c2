/-
 The machine with an oracle: calls whose outcome is known are not run again. Conditions: none.
-/
import Derived.Test.YtbjogdohfhdaiaaGreatETJ19
import Derived.Test.YtbjogdohfhdaiaaGreatETMxF
set_option linter.unusedSimpArgs false
set_option linter.unusedVariables false
namespace Go.Mx
open Go
abbrev KT:=StT->Option (Ex×StT)
abbrev Sx:=RecT->Nat->Bool->Bool->Bool->StT->O->KT->Option (Ex×StT)
def fcI(kd:IntKind)(n:Int){α:Type}(k:V->α):α:=zxD n λn'=>k (.lit (.int kd n'))
def fcB(b:Bool){α:Type}(k:V->α):α:=ztH b λb'=>k (.lit (.bool b'))
def fcL(x:Value){α:Type}:(V->α)->α:=
 match x with
 | .int kd n=>fcI kd n
 | .bool b=>fcB b
 | x=>λk=>k (.lit x)
def fcP(β o:Nat){α:Type}(k:V->α):α:=zdD β λβ'=>zdD o λo'=>k (.ptr β' o')
def fcS(β o n len:Nat)(cap:Option Nat){α:Type}(k:V->α):α:=zdD β λβ'=>zdD o λo'=>zdD n λn'=>zdD len λlen'=>zDn cap λcap'=>k (.sl β' o' n' len' cap')
def fcC(f:Nat)(a b:List V){α:Type}(k:V->α):α:=zdB a λa'=>zdB b λb'=>k (.clo f a' b')
def fcA(vs:List V){α:Type}(k:V->α):α:=zdB vs λvs'=>k (.agg vs')
def fcT(vs:List V){α:Type}(k:V->α):α:=zdB vs λvs'=>k (.tup vs')
def fcX(v:V){α:Type}:(V->α)->α:=
 match v with
 | .lit x=>fcL x
 | .ptr β o=>fcP β o
 | .sl β o n len cap=>fcS β o n len cap
 | .clo f a b=>fcC f a b
 | .agg vs=>fcA vs
 | .tup vs=>fcT vs
 | v=>λk=>k v
theorem zyR{α:Type}(v:V)(k:V->α):fcX v k=k v:=by
 cases v with
 | lit x=>cases x<;>simp[fcX,fcL,fcI,fcB,zrf,zop]
 | _=>simp[fcX,fcP,fcS,fcC,fcA,fcT,zcj,zvn,zcD]
def okB(x:Bool)(v:V):Option V:=bif x then some v else none
abbrev Bx:=IntKind->IntKind->Int->Int->Option V
def zFH:Bx:=λk k' m n=>okB (kEq k k') (.lit (.int k (zhP k (Int.add m n))))
def zFk:Bx:=λk k' m n=>okB (kEq k k') (.lit (.int k (zhP k (Int.sub m n))))
def zFy:Bx:=λk k' m n=>okB (kEq k k') (.lit (.int k (zhP k (Int.mul m n))))
def zF2:Bx:=λk k' m n=>okB (kEq k k') (.lit (.bool (iEq m n)))
def zGg:Bx:=λk k' m n=>okB (kEq k k') (.lit (.bool (!iEq m n)))
def zFs:Bx:=λk k' m n=>okB (kEq k k') (.lit (.bool (iLt m n)))
def zE6:Bx:=λk k' m n=>okB (kEq k k') (.lit (.bool (iLe m n)))
def zFj:Bx:=λk k' m n=>okB (kEq k k') (.lit (.bool (iLt n m)))
def zF0:Bx:=λk k' m n=>okB (kEq k k') (.lit (.bool (iLe n m)))
def zCA(op:BinOp):Bx:=λk k' m n=>zrP op (.lit (.int k m)) (.lit (.int k' n))
def bOp(op:BinOp):Bx:=
 match op with
 | .add=>zFH
 | .sub=>zFk
 | .mul=>zFy
 | .eql=>zF2
 | .neq=>zGg
 | .lss=>zFs
 | .leq=>zE6
 | .gtr=>zFj
 | .geq=>zF0
 | op=>zCA op
def intOf(v:Option V):Option (IntKind×Int):=
 match v with
 | some (.lit (.int k m))=>some (k,m)
 | _=>none
def zEN(f:Bx)(a b:Option (IntKind×Int)):Option V:=
 match a with
 | some (k,m)=>(match b with
  | some (k',n)=>f k k' m n
  | none=>none)
 | none=>none
theorem zCr(op:BinOp)(k k':IntKind)(m n:Int):bOp op k k' m n=zrP op (.lit (.int k m)) (.lit (.int k' n)):=by cases op<;>rfl
theorem zAB(op:BinOp)(a b:Option V):zEN (bOp op) (intOf a) (intOf b)=(match a with | some v=>(match b with | some v'=>zrP op v v' | none=>none)| none=>none):=by
 cases a with
 | none=>rfl
 | some v=>
  cases v with
  | lit x=>
   cases x with
   | int k m=>
    cases b with
    | none=>rfl
    | some v'=>
     cases v' with
     | lit y=>
      cases y with
      | int k' n=>exact zCr op k k' m n
      | _=>rfl
     | _=>rfl
   | _=>cases b<;>rfl
  | _=>cases b<;>rfl
def zF1(p:Option V)(off:Nat):Option V:=
 match p with
 | some (.ptr β o)=>some (.ptr β (Nat.add o off))
 | _=>none
def zCd(v:Option V):Option Nat:=
 match v with
 | some (.lit (.int _ (.ofNat m)))=>some m
 | _=>none
def zCv(n:Nat)(p:Option V)(i:Option Nat):Option V:=
 match p with
 | some (.sl β o n' len _)=>(match i with
  | some m=>bif Nat.beq n n' && Nat.blt m len then some (.ptr β (Nat.add o (Nat.mul m n)))else none
  | none=>none)
 | _=>none
def zCG(n cnt:Nat)(p:Option V)(i:Option Nat):Option V:=
 match p with
 | some (.ptr β o)=>(match i with
  | some m=>bif Nat.blt m cnt then some (.ptr β (Nat.add o (Nat.mul m n)))else none
  | none=>none)
 | _=>none
def zCL(k:IntKind)(p:Option (IntKind×Int)):Option V:=
 match p with
 | some (_,m)=>some (.lit (.int k (zhP k m)))
 | none=>none
def zqM(v:Option V):Option Bool:=
 match v with
 | some (.lit (.bool b))=>some b
 | _=>none
def xUn(op:UnOp)(p:Option V):Option V:=match p with | some v=>unV op v | none=>none
def zFG(p:Option V):Option V:=match p with | some v=>zCl v | none=>none
def zF9(p:Option V)(i:Nat):Option V:=match p with | some (.tup vs)=>nth vs i | _=>none
end Go.Mx
