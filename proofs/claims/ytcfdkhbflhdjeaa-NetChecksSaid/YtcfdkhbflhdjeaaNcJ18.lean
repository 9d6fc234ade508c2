/-
 The machine with an oracle: calls whose outcome is known are not run again. Conditions: none.
-/
import Derived.Test.YtcfdkhbflhdjeaaNcJ17
import Derived.Test.YtcfdkhbflhdjeaaNcMxF
set_option linter.unusedSimpArgs false
set_option linter.unusedVariables false
namespace Go.Mx
open Go
abbrev KT:=StT→Option (Ex×StT)
abbrev Sx:=RecT→Nat→Bool→Bool→Bool→StT→O→KT→Option (Ex×StT)
def fcI(kd:IntKind)(n:Int){α:Type}(k:V→α):α:=zrK n fun n'=>k (.lit (.int kd n'))
def fcB(b:Bool){α:Type}(k:V→α):α:=zpa b fun b'=>k (.lit (.bool b'))
def fcL(x:Value){α:Type}:(V→α)→α:=
 match x with
 | .int kd n=>fcI kd n
 | .bool b=>fcB b
 | x=>fun k=>k (.lit x)
def fcP(β o:Nat){α:Type}(k:V→α):α:=zc2 β fun β'=>zc2 o fun o'=>k (.ptr β' o')
def fcS(β o n len:Nat)(cap:Option Nat){α:Type}(k:V→α):α:=zc2 β fun β'=>zc2 o fun o'=>zc2 n fun n'=>zc2 len fun len'=>zvR cap fun cap'=>k (.sl β' o' n' len' cap')
def fcC(f:Nat)(a b:List V){α:Type}(k:V→α):α:=zcK a fun a'=>zcK b fun b'=>k (.clo f a' b')
def fcA(vs:List V){α:Type}(k:V→α):α:=zcK vs fun vs'=>k (.agg vs')
def fcT(vs:List V){α:Type}(k:V→α):α:=zcK vs fun vs'=>k (.tup vs')
def fcX(v:V){α:Type}:(V→α)→α:=
 match v with
 | .lit x=>fcL x
 | .ptr β o=>fcP β o
 | .sl β o n len cap=>fcS β o n len cap
 | .clo f a b=>fcC f a b
 | .agg vs=>fcA vs
 | .tup vs=>fcT vs
 | v=>fun k=>k v
theorem zsy{α:Type}(v:V)(k:V→α):fcX v k=k v:=by
 cases v with
 | lit x=>cases x<;>simp[fcX,fcL,fcI,fcB,zmn,zk3]
 | _=>simp[fcX,fcP,fcS,fcC,fcA,fcT,zcb,zqs,zck]
def okB(x:Bool)(v:V):Option V:=bif x then some v else none
abbrev Bx:=IntKind→IntKind→Int→Int→Option V
def zxu:Bx:=fun k k' m n=>okB (kEq k k') (.lit (.int k (zgd k (Int.add m n))))
def zxn:Bx:=fun k k' m n=>okB (kEq k k') (.lit (.int k (zgd k (Int.sub m n))))
def zxk:Bx:=fun k k' m n=>okB (kEq k k') (.lit (.int k (zgd k (Int.mul m n))))
def zxx:Bx:=fun k k' m n=>okB (kEq k k') (.lit (.bool (iEq m n)))
def zxK:Bx:=fun k k' m n=>okB (kEq k k') (.lit (.bool (!iEq m n)))
def zxv:Bx:=fun k k' m n=>okB (kEq k k') (.lit (.bool (iLt m n)))
def zxq:Bx:=fun k k' m n=>okB (kEq k k') (.lit (.bool (iLe m n)))
def zxg:Bx:=fun k k' m n=>okB (kEq k k') (.lit (.bool (iLt n m)))
def zxF:Bx:=fun k k' m n=>okB (kEq k k') (.lit (.bool (iLe n m)))
def zvO(op:BinOp):Bx:=fun k k' m n=>zob op (.lit (.int k m)) (.lit (.int k' n))
def bOp(op:BinOp):Bx:=
 match op with
 | .add=>zxu
 | .sub=>zxn
 | .mul=>zxk
 | .eql=>zxx
 | .neq=>zxK
 | .lss=>zxv
 | .leq=>zxq
 | .gtr=>zxg
 | .geq=>zxF
 | op=>zvO op
def intOf(v:Option V):Option (IntKind×Int):=
 match v with
 | some (.lit (.int k m))=>some (k,m)
 | _=>none
def zwQ(f:Bx)(a b:Option (IntKind×Int)):Option V:=
 match a with
 | some (k,m)=>(match b with
  | some (k',n)=>f k k' m n
  | none=>none)
 | none=>none
theorem zvq(op:BinOp)(k k':IntKind)(m n:Int):bOp op k k' m n=zob op (.lit (.int k m)) (.lit (.int k' n)):=by cases op<;>rfl
theorem ztL(op:BinOp)(a b:Option V):zwQ (bOp op) (intOf a) (intOf b)=(match a with | some v=>(match b with | some v'=>zob op v v' | none=>none)| none=>none):=by
 cases a with
 | none=>rfl
 | some v=>
  cases v with
  | lit x=>
   cases x with
   | int k m=>
    cases b with
    | none=>rfl
    | some v'=>
     cases v' with
     | lit y=>
      cases y with
      | int k' n=>exact zvq op k k' m n
      | _=>rfl
     | _=>rfl
   | _=>cases b<;>rfl
  | _=>cases b<;>rfl
def zxL(p:Option V)(off:Nat):Option V:=
 match p with
 | some (.ptr β o)=>some (.ptr β (Nat.add o off))
 | _=>none
def zuW(v:Option V):Option Nat:=
 match v with
 | some (.lit (.int _ (.ofNat m)))=>some m
 | _=>none
def zuX(n:Nat)(p:Option V)(i:Option Nat):Option V:=
 match p with
 | some (.sl β o n' len _)=>(match i with
  | some m=>bif Nat.beq n n' && Nat.blt m len then some (.ptr β (Nat.add o (Nat.mul m n)))else none
  | none=>none)
 | _=>none
def zum(n cnt:Nat)(p:Option V)(i:Option Nat):Option V:=
 match p with
 | some (.ptr β o)=>(match i with
  | some m=>bif Nat.blt m cnt then some (.ptr β (Nat.add o (Nat.mul m n)))else none
  | none=>none)
 | _=>none
def zvv(k:IntKind)(p:Option (IntKind×Int)):Option V:=
 match p with
 | some (_,m)=>some (.lit (.int k (zgd k m)))
 | none=>none
def zm4(v:Option V):Option Bool:=
 match v with
 | some (.lit (.bool b))=>some b
 | _=>none
def xUn(op:UnOp)(p:Option V):Option V:=match p with | some v=>unV op v | none=>none
def zxp(p:Option V):Option V:=match p with | some v=>zvM v | none=>none
def zxC(p:Option V)(i:Nat):Option V:=match p with | some (.tup vs)=>nth vs i | _=>none
end Go.Mx
