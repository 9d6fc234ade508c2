/-
 The machine with an oracle: calls whose outcome is known are not run again. Conditions: none.
-/
import Derived.Test.YtbjogdohfhdaiaaGreatEcJ19
import Derived.Test.YtbjogdohfhdaiaaGreatEcMxF
set_option linter.unusedSimpArgs false
set_option linter.unusedVariables false
namespace Go.Mx
open Go
abbrev KT:=StT->Option (Ex×StT)
abbrev Sx:=RecT->Nat->Bool->Bool->Bool->StT->O->KT->Option (Ex×StT)
def fcI(kd:IntKind)(n:Int){α:Type}(k:V->α):α:=zzm n λn'=>k (.lit (.int kd n'))
def fcB(b:Bool){α:Type}(k:V->α):α:=zxo b λb'=>k (.lit (.bool b'))
def fcL(x:Value){α:Type}:(V->α)->α:=
 match x with
 | .int kd n=>fcI kd n
 | .bool b=>fcB b
 | x=>λk=>k (.lit x)
def fcP(β o:Nat){α:Type}(k:V->α):α:=zeb β λβ'=>zeb o λo'=>k (.ptr β' o')
def fcS(β o n len:Nat)(cap:Option Nat){α:Type}(k:V->α):α:=zeb β λβ'=>zeb o λo'=>zeb n λn'=>zeb len λlen'=>zFB cap λcap'=>k (.sl β' o' n' len' cap')
def fcC(f:Nat)(a b:List V){α:Type}(k:V->α):α:=zdZ a λa'=>zdZ b λb'=>k (.clo f a' b')
def fcA(vs:List V){α:Type}(k:V->α):α:=zdZ vs λvs'=>k (.agg vs')
def fcT(vs:List V){α:Type}(k:V->α):α:=zdZ vs λvs'=>k (.tup vs')
def fcX(v:V){α:Type}:(V->α)->α:=
 match v with
 | .lit x=>fcL x
 | .ptr β o=>fcP β o
 | .sl β o n len cap=>fcS β o n len cap
 | .clo f a b=>fcC f a b
 | .agg vs=>fcA vs
 | .tup vs=>fcT vs
 | v=>λk=>k v
theorem zz1{α:Type}(v:V)(k:V->α):fcX v k=k v:=by
 cases v with
 | lit x=>cases x<;>simp[fcX,fcL,fcI,fcB,zsF,zpc]
 | _=>simp[fcX,fcP,fcS,fcC,fcA,fcT,zcH,zvC,zdo]
def okB(x:Bool)(v:V):Option V:=bif x then some v else none
abbrev Bx:=IntKind->IntKind->Int->Int->Option V
def zIp:Bx:=λk k' m n=>okB (kEq k k') (.lit (.int k (zij k (Int.add m n))))
def zIe:Bx:=λk k' m n=>okB (kEq k k') (.lit (.int k (zij k (Int.sub m n))))
def zIu:Bx:=λk k' m n=>okB (kEq k k') (.lit (.int k (zij k (Int.mul m n))))
def zHv:Bx:=λk k' m n=>okB (kEq k k') (.lit (.bool (iEq m n)))
def zH1:Bx:=λk k' m n=>okB (kEq k k') (.lit (.bool (!iEq m n)))
def zH8:Bx:=λk k' m n=>okB (kEq k k') (.lit (.bool (iLt m n)))
def zIy:Bx:=λk k' m n=>okB (kEq k k') (.lit (.bool (iLe m n)))
def zIa:Bx:=λk k' m n=>okB (kEq k k') (.lit (.bool (iLt n m)))
def zIz:Bx:=λk k' m n=>okB (kEq k k') (.lit (.bool (iLe n m)))
def zE8(op:BinOp):Bx:=λk k' m n=>ztw op (.lit (.int k m)) (.lit (.int k' n))
def bOp(op:BinOp):Bx:=
 match op with
 | .add=>zIp
 | .sub=>zIe
 | .mul=>zIu
 | .eql=>zHv
 | .neq=>zH1
 | .lss=>zH8
 | .leq=>zIy
 | .gtr=>zIa
 | .geq=>zIz
 | op=>zE8 op
def intOf(v:Option V):Option (IntKind×Int):=
 match v with
 | some (.lit (.int k m))=>some (k,m)
 | _=>none
def zG3(f:Bx)(a b:Option (IntKind×Int)):Option V:=
 match a with
 | some (k,m)=>(match b with
  | some (k',n)=>f k k' m n
  | none=>none)
 | none=>none
theorem zEo(op:BinOp)(k k':IntKind)(m n:Int):bOp op k k' m n=ztw op (.lit (.int k m)) (.lit (.int k' n)):=by cases op<;>rfl
theorem zBH(op:BinOp)(a b:Option V):zG3 (bOp op) (intOf a) (intOf b)=(match a with | some v=>(match b with | some v'=>ztw op v v' | none=>none)| none=>none):=by
 cases a with
 | none=>rfl
 | some v=>
  cases v with
  | lit x=>
   cases x with
   | int k m=>
    cases b with
    | none=>rfl
    | some v'=>
     cases v' with
     | lit y=>
      cases y with
      | int k' n=>exact zEo op k k' m n
      | _=>rfl
     | _=>rfl
   | _=>cases b<;>rfl
  | _=>cases b<;>rfl
def zHL(p:Option V)(off:Nat):Option V:=
 match p with
 | some (.ptr β o)=>some (.ptr β (Nat.add o off))
 | _=>none
def zEc(v:Option V):Option Nat:=
 match v with
 | some (.lit (.int _ (.ofNat m)))=>some m
 | _=>none
def zDh(n:Nat)(p:Option V)(i:Option Nat):Option V:=
 match p with
 | some (.sl β o n' len _)=>(match i with
  | some m=>bif Nat.beq n n' && Nat.blt m len then some (.ptr β (Nat.add o (Nat.mul m n)))else none
  | none=>none)
 | _=>none
def zER(n cnt:Nat)(p:Option V)(i:Option Nat):Option V:=
 match p with
 | some (.ptr β o)=>(match i with
  | some m=>bif Nat.blt m cnt then some (.ptr β (Nat.add o (Nat.mul m n)))else none
  | none=>none)
 | _=>none
def zD6(k:IntKind)(p:Option (IntKind×Int)):Option V:=
 match p with
 | some (_,m)=>some (.lit (.int k (zij k m)))
 | none=>none
def zrR(v:Option V):Option Bool:=
 match v with
 | some (.lit (.bool b))=>some b
 | _=>none
def xUn(op:UnOp)(p:Option V):Option V:=match p with | some v=>unV op v | none=>none
def zHu(p:Option V):Option V:=match p with | some v=>zC7 v | none=>none
def zIx(p:Option V)(i:Nat):Option V:=match p with | some (.tup vs)=>nth vs i | _=>none
end Go.Mx
