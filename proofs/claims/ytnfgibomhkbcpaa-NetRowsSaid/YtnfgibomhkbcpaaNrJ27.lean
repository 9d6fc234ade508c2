/-
 The machine with an oracle: calls whose outcome is known are not run again. Conditions: none.
-/
import Derived.Test.YtnfgibomhkbcpaaNrJ26
import Derived.Test.YtnfgibomhkbcpaaNrMxF
set_option linter.unusedSimpArgs false
set_option linter.unusedVariables false
namespace Go.Mx
open Go
abbrev KT:=StT→Option (Ex×StT)
abbrev Sx:=RecT→Nat→Bool→Bool→Bool→StT→O→KT→Option (Ex×StT)
def fcI(kd:IntKind)(n:Int){α:Type}(k:V→α):α:=ztN n fun n'=>k (.lit (.int kd n'))
def fcB(b:Bool){α:Type}(k:V→α):α:=zse b fun b'=>k (.lit (.bool b'))
def fcL(x:Value){α:Type}:(V→α)→α:=
 match x with
 | .int kd n=>fcI kd n
 | .bool b=>fcB b
 | x=>fun k=>k (.lit x)
def fcP(β o:Nat){α:Type}(k:V→α):α:=zdg β fun β'=>zdg o fun o'=>k (.ptr β' o')
def fcS(β o n len:Nat)(cap:Option Nat){α:Type}(k:V→α):α:=zdg β fun β'=>zdg o fun o'=>zdg n fun n'=>zdg len fun len'=>zyv cap fun cap'=>k (.sl β' o' n' len' cap')
def fcC(f:Nat)(a b:List V){α:Type}(k:V→α):α:=zcX a fun a'=>zcX b fun b'=>k (.clo f a' b')
def fcA(vs:List V){α:Type}(k:V→α):α:=zcX vs fun vs'=>k (.agg vs')
def fcT(vs:List V){α:Type}(k:V→α):α:=zcX vs fun vs'=>k (.tup vs')
def fcX(v:V){α:Type}:(V→α)→α:=
 match v with
 | .lit x=>fcL x
 | .ptr β o=>fcP β o
 | .sl β o n len cap=>fcS β o n len cap
 | .clo f a b=>fcC f a b
 | .agg vs=>fcA vs
 | .tup vs=>fcT vs
 | v=>fun k=>k v
theorem zuB{α:Type}(v:V)(k:V→α):fcX v k=k v:=by
 cases v with
 | lit x=>cases x<;>simp[fcX,fcL,fcI,fcB,zn4,zlf]
 | _=>simp[fcX,fcP,fcS,fcC,fcA,fcT,zcj,zrB,zcu]
def okB(x:Bool)(v:V):Option V:=bif x then some v else none
abbrev Bx:=IntKind→IntKind→Int→Int→Option V
def zAI:Bx:=fun k k' m n=>okB (kEq k k') (.lit (.int k (zfX k (Int.add m n))))
def zAV:Bx:=fun k k' m n=>okB (kEq k k') (.lit (.int k (zfX k (Int.sub m n))))
def zz6:Bx:=fun k k' m n=>okB (kEq k k') (.lit (.int k (zfX k (Int.mul m n))))
def zAj:Bx:=fun k k' m n=>okB (kEq k k') (.lit (.bool (iEq m n)))
def zzU:Bx:=fun k k' m n=>okB (kEq k k') (.lit (.bool (!iEq m n)))
def zzN:Bx:=fun k k' m n=>okB (kEq k k') (.lit (.bool (iLt m n)))
def zAt:Bx:=fun k k' m n=>okB (kEq k k') (.lit (.bool (iLe m n)))
def zAQ:Bx:=fun k k' m n=>okB (kEq k k') (.lit (.bool (iLt n m)))
def zAg:Bx:=fun k k' m n=>okB (kEq k k') (.lit (.bool (iLe n m)))
def zyh(op:BinOp):Bx:=fun k k' m n=>zpw op (.lit (.int k m)) (.lit (.int k' n))
def bOp(op:BinOp):Bx:=
 match op with
 | .add=>zAI
 | .sub=>zAV
 | .mul=>zz6
 | .eql=>zAj
 | .neq=>zzU
 | .lss=>zzN
 | .leq=>zAt
 | .gtr=>zAQ
 | .geq=>zAg
 | op=>zyh op
def intOf(v:Option V):Option (IntKind×Int):=
 match v with
 | some (.lit (.int k m))=>some (k,m)
 | _=>none
def zzJ(f:Bx)(a b:Option (IntKind×Int)):Option V:=
 match a with
 | some (k,m)=>(match b with
  | some (k',n)=>f k k' m n
  | none=>none)
 | none=>none
theorem zxb(op:BinOp)(k k':IntKind)(m n:Int):bOp op k k' m n=zpw op (.lit (.int k m)) (.lit (.int k' n)):=by cases op<;>rfl
theorem zwh(op:BinOp)(a b:Option V):zzJ (bOp op) (intOf a) (intOf b)=(match a with | some v=>(match b with | some v'=>zpw op v v' | none=>none)| none=>none):=by
 cases a with
 | none=>rfl
 | some v=>
  cases v with
  | lit x=>
   cases x with
   | int k m=>
    cases b with
    | none=>rfl
    | some v'=>
     cases v' with
     | lit y=>
      cases y with
      | int k' n=>exact zxb op k k' m n
      | _=>rfl
     | _=>rfl
   | _=>cases b<;>rfl
  | _=>cases b<;>rfl
def zzO(p:Option V)(off:Nat):Option V:=
 match p with
 | some (.ptr β o)=>some (.ptr β (Nat.add o off))
 | _=>none
def zxf(v:Option V):Option Nat:=
 match v with
 | some (.lit (.int _ (.ofNat m)))=>some m
 | _=>none
def zyc(n:Nat)(p:Option V)(i:Option Nat):Option V:=
 match p with
 | some (.sl β o n' len _)=>(match i with
  | some m=>bif Nat.beq n n' && Nat.blt m len then some (.ptr β (Nat.add o (Nat.mul m n)))else none
  | none=>none)
 | _=>none
def zya(n cnt:Nat)(p:Option V)(i:Option Nat):Option V:=
 match p with
 | some (.ptr β o)=>(match i with
  | some m=>bif Nat.blt m cnt then some (.ptr β (Nat.add o (Nat.mul m n)))else none
  | none=>none)
 | _=>none
def zxw(k:IntKind)(p:Option (IntKind×Int)):Option V:=
 match p with
 | some (_,m)=>some (.lit (.int k (zfX k m)))
 | none=>none
def zoA(v:Option V):Option Bool:=
 match v with
 | some (.lit (.bool b))=>some b
 | _=>none
def xUn(op:UnOp)(p:Option V):Option V:=match p with | some v=>unV op v | none=>none
def zz7(p:Option V):Option V:=match p with | some v=>zxn v | none=>none
def zz5(p:Option V)(i:Nat):Option V:=match p with | some (.tup vs)=>nth vs i | _=>none
end Go.Mx
