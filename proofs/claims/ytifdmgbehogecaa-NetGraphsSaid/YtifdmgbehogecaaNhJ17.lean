/-
 The machine with an oracle: calls whose outcome is known are not run again. Conditions: none.
-/
import Derived.Test.YtifdmgbehogecaaNhJ16
import Derived.Test.YtifdmgbehogecaaNhMxF
set_option linter.unusedSimpArgs false
set_option linter.unusedVariables false
namespace Go.Mx
open Go
abbrev KT:=StT→Option (Ex×StT)
abbrev Sx:=RecT→Nat→Bool→Bool→Bool→StT→O→KT→Option (Ex×StT)
def fcI(kd:IntKind)(n:Int){α:Type}(k:V→α):α:=zqS n fun n'=>k (.lit (.int kd n'))
def fcB(b:Bool){α:Type}(k:V→α):α:=zpA b fun b'=>k (.lit (.bool b'))
def fcL(x:Value){α:Type}:(V→α)→α:=
 match x with
 | .int kd n=>fcI kd n
 | .bool b=>fcB b
 | x=>fun k=>k (.lit x)
def fcP(β o:Nat){α:Type}(k:V→α):α:=zdi β fun β'=>zdi o fun o'=>k (.ptr β' o')
def fcS(β o n len:Nat)(cap:Option Nat){α:Type}(k:V→α):α:=zdi β fun β'=>zdi o fun o'=>zdi n fun n'=>zdi len fun len'=>zv4 cap fun cap'=>k (.sl β' o' n' len' cap')
def fcC(f:Nat)(a b:List V){α:Type}(k:V→α):α:=zcO a fun a'=>zcO b fun b'=>k (.clo f a' b')
def fcA(vs:List V){α:Type}(k:V→α):α:=zcO vs fun vs'=>k (.agg vs')
def fcT(vs:List V){α:Type}(k:V→α):α:=zcO vs fun vs'=>k (.tup vs')
def fcX(v:V){α:Type}:(V→α)→α:=
 match v with
 | .lit x=>fcL x
 | .ptr β o=>fcP β o
 | .sl β o n len cap=>fcS β o n len cap
 | .clo f a b=>fcC f a b
 | .agg vs=>fcA vs
 | .tup vs=>fcT vs
 | v=>fun k=>k v
theorem zsy{α:Type}(v:V)(k:V→α):fcX v k=k v:=by
 cases v with
 | lit x=>cases x<;>simp[fcX,fcL,fcI,fcB,zmF,zkd]
 | _=>simp[fcX,fcP,fcS,fcC,fcA,fcT,zch,zqc,zcn]
def okB(x:Bool)(v:V):Option V:=bif x then some v else none
abbrev Bx:=IntKind→IntKind→Int→Int→Option V
def zxQ:Bx:=fun k k' m n=>okB (kEq k k') (.lit (.int k (zfQ k (Int.add m n))))
def zxq:Bx:=fun k k' m n=>okB (kEq k k') (.lit (.int k (zfQ k (Int.sub m n))))
def zxX:Bx:=fun k k' m n=>okB (kEq k k') (.lit (.int k (zfQ k (Int.mul m n))))
def zxO:Bx:=fun k k' m n=>okB (kEq k k') (.lit (.bool (iEq m n)))
def zxH:Bx:=fun k k' m n=>okB (kEq k k') (.lit (.bool (!iEq m n)))
def zxS:Bx:=fun k k' m n=>okB (kEq k k') (.lit (.bool (iLt m n)))
def zxG:Bx:=fun k k' m n=>okB (kEq k k') (.lit (.bool (iLe m n)))
def zxs:Bx:=fun k k' m n=>okB (kEq k k') (.lit (.bool (iLt n m)))
def zxI:Bx:=fun k k' m n=>okB (kEq k k') (.lit (.bool (iLe n m)))
def zvP(op:BinOp):Bx:=fun k k' m n=>znx op (.lit (.int k m)) (.lit (.int k' n))
def bOp(op:BinOp):Bx:=
 match op with
 | .add=>zxQ
 | .sub=>zxq
 | .mul=>zxX
 | .eql=>zxO
 | .neq=>zxH
 | .lss=>zxS
 | .leq=>zxG
 | .gtr=>zxs
 | .geq=>zxI
 | op=>zvP op
def intOf(v:Option V):Option (IntKind×Int):=
 match v with
 | some (.lit (.int k m))=>some (k,m)
 | _=>none
def zxc(f:Bx)(a b:Option (IntKind×Int)):Option V:=
 match a with
 | some (k,m)=>(match b with
  | some (k',n)=>f k k' m n
  | none=>none)
 | none=>none
theorem zuu(op:BinOp)(k k':IntKind)(m n:Int):bOp op k k' m n=znx op (.lit (.int k m)) (.lit (.int k' n)):=by cases op<;>rfl
theorem ztF(op:BinOp)(a b:Option V):zxc (bOp op) (intOf a) (intOf b)=(match a with | some v=>(match b with | some v'=>znx op v v' | none=>none)| none=>none):=by
 cases a with
 | none=>rfl
 | some v=>
  cases v with
  | lit x=>
   cases x with
   | int k m=>
    cases b with
    | none=>rfl
    | some v'=>
     cases v' with
     | lit y=>
      cases y with
      | int k' n=>exact zuu op k k' m n
      | _=>rfl
     | _=>rfl
   | _=>cases b<;>rfl
  | _=>cases b<;>rfl
def zxU(p:Option V)(off:Nat):Option V:=
 match p with
 | some (.ptr β o)=>some (.ptr β (Nat.add o off))
 | _=>none
def zun(v:Option V):Option Nat:=
 match v with
 | some (.lit (.int _ (.ofNat m)))=>some m
 | _=>none
def zuS(n:Nat)(p:Option V)(i:Option Nat):Option V:=
 match p with
 | some (.sl β o n' len _)=>(match i with
  | some m=>bif Nat.beq n n' && Nat.blt m len then some (.ptr β (Nat.add o (Nat.mul m n)))else none
  | none=>none)
 | _=>none
def zt9(n cnt:Nat)(p:Option V)(i:Option Nat):Option V:=
 match p with
 | some (.ptr β o)=>(match i with
  | some m=>bif Nat.blt m cnt then some (.ptr β (Nat.add o (Nat.mul m n)))else none
  | none=>none)
 | _=>none
def zvy(k:IntKind)(p:Option (IntKind×Int)):Option V:=
 match p with
 | some (_,m)=>some (.lit (.int k (zfQ k m)))
 | none=>none
def zng(v:Option V):Option Bool:=
 match v with
 | some (.lit (.bool b))=>some b
 | _=>none
def xUn(op:UnOp)(p:Option V):Option V:=match p with | some v=>unV op v | none=>none
def zxv(p:Option V):Option V:=match p with | some v=>zuJ v | none=>none
def zxF(p:Option V)(i:Nat):Option V:=match p with | some (.tup vs)=>nth vs i | _=>none
end Go.Mx
