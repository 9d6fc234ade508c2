/-
 The machine with an oracle: calls whose outcome is known are not run again. Conditions: none.
-/
import Derived.Test.YtbjogdohfhdaiaaGreatESJ23
import Derived.Test.YtbjogdohfhdaiaaGreatESMxF
set_option linter.unusedSimpArgs false
set_option linter.unusedVariables false
namespace Go.Mx
open Go
abbrev KT:=StT→Option (Ex×StT)
abbrev Sx:=RecT→Nat→Bool→Bool→Bool→StT→O→KT→Option (Ex×StT)
def fcI(kd:IntKind)(n:Int){α:Type}(k:V→α):α:=zuL n fun n'=>k (.lit (.int kd n'))
def fcB(b:Bool){α:Type}(k:V→α):α:=zsR b fun b'=>k (.lit (.bool b'))
def fcL(x:Value){α:Type}:(V→α)→α:=
 match x with
 | .int kd n=>fcI kd n
 | .bool b=>fcB b
 | x=>fun k=>k (.lit x)
def fcP(β o:Nat){α:Type}(k:V→α):α:=zcS β fun β'=>zcS o fun o'=>k (.ptr β' o')
def fcS(β o n len:Nat)(cap:Option Nat){α:Type}(k:V→α):α:=zcS β fun β'=>zcS o fun o'=>zcS n fun n'=>zcS len fun len'=>zzZ cap fun cap'=>k (.sl β' o' n' len' cap')
def fcC(f:Nat)(a b:List V){α:Type}(k:V→α):α:=zcH a fun a'=>zcH b fun b'=>k (.clo f a' b')
def fcA(vs:List V){α:Type}(k:V→α):α:=zcH vs fun vs'=>k (.agg vs')
def fcT(vs:List V){α:Type}(k:V→α):α:=zcH vs fun vs'=>k (.tup vs')
def fcX(v:V){α:Type}:(V→α)→α:=
 match v with
 | .lit x=>fcL x
 | .ptr β o=>fcP β o
 | .sl β o n len cap=>fcS β o n len cap
 | .clo f a b=>fcC f a b
 | .agg vs=>fcA vs
 | .tup vs=>fcT vs
 | v=>fun k=>k v
theorem zvT{α:Type}(v:V)(k:V→α):fcX v k=k v:=by
 cases v with
 | lit x=>cases x<;>simp[fcX,fcL,fcI,fcB,zn8,zk8]
 | _=>simp[fcX,fcP,fcS,fcC,fcA,fcT,zbK,zq2,zck]
def okB(x:Bool)(v:V):Option V:=bif x then some v else none
abbrev Bx:=IntKind→IntKind→Int→Int→Option V
def zB4:Bx:=fun k k' m n=>okB (kEq k k') (.lit (.int k (zgA k (Int.add m n))))
def zCv:Bx:=fun k k' m n=>okB (kEq k k') (.lit (.int k (zgA k (Int.sub m n))))
def zBS:Bx:=fun k k' m n=>okB (kEq k k') (.lit (.int k (zgA k (Int.mul m n))))
def zBs:Bx:=fun k k' m n=>okB (kEq k k') (.lit (.bool (iEq m n)))
def zCe:Bx:=fun k k' m n=>okB (kEq k k') (.lit (.bool (!iEq m n)))
def zCd:Bx:=fun k k' m n=>okB (kEq k k') (.lit (.bool (iLt m n)))
def zBM:Bx:=fun k k' m n=>okB (kEq k k') (.lit (.bool (iLe m n)))
def zCg:Bx:=fun k k' m n=>okB (kEq k k') (.lit (.bool (iLt n m)))
def zCa:Bx:=fun k k' m n=>okB (kEq k k') (.lit (.bool (iLe n m)))
def zyx(op:BinOp):Bx:=fun k k' m n=>zpt op (.lit (.int k m)) (.lit (.int k' n))
def bOp(op:BinOp):Bx:=
 match op with
 | .add=>zB4
 | .sub=>zCv
 | .mul=>zBS
 | .eql=>zBs
 | .neq=>zCe
 | .lss=>zCd
 | .leq=>zBM
 | .gtr=>zCg
 | .geq=>zCa
 | op=>zyx op
def intOf(v:Option V):Option (IntKind×Int):=
 match v with
 | some (.lit (.int k m))=>some (k,m)
 | _=>none
def zBi(f:Bx)(a b:Option (IntKind×Int)):Option V:=
 match a with
 | some (k,m)=>(match b with
  | some (k',n)=>f k k' m n
  | none=>none)
 | none=>none
theorem zyY(op:BinOp)(k k':IntKind)(m n:Int):bOp op k k' m n=zpt op (.lit (.int k m)) (.lit (.int k' n)):=by cases op<;>rfl
theorem zwc(op:BinOp)(a b:Option V):zBi (bOp op) (intOf a) (intOf b)=(match a with | some v=>(match b with | some v'=>zpt op v v' | none=>none)| none=>none):=by
 cases a with
 | none=>rfl
 | some v=>
  cases v with
  | lit x=>
   cases x with
   | int k m=>
    cases b with
    | none=>rfl
    | some v'=>
     cases v' with
     | lit y=>
      cases y with
      | int k' n=>exact zyY op k k' m n
      | _=>rfl
     | _=>rfl
   | _=>cases b<;>rfl
  | _=>cases b<;>rfl
def zBq(p:Option V)(off:Nat):Option V:=
 match p with
 | some (.ptr β o)=>some (.ptr β (Nat.add o off))
 | _=>none
def zzy(v:Option V):Option Nat:=
 match v with
 | some (.lit (.int _ (.ofNat m)))=>some m
 | _=>none
def zze(n:Nat)(p:Option V)(i:Option Nat):Option V:=
 match p with
 | some (.sl β o n' len _)=>(match i with
  | some m=>bif Nat.beq n n' && Nat.blt m len then some (.ptr β (Nat.add o (Nat.mul m n)))else none
  | none=>none)
 | _=>none
def zys(n cnt:Nat)(p:Option V)(i:Option Nat):Option V:=
 match p with
 | some (.ptr β o)=>(match i with
  | some m=>bif Nat.blt m cnt then some (.ptr β (Nat.add o (Nat.mul m n)))else none
  | none=>none)
 | _=>none
def zyN(k:IntKind)(p:Option (IntKind×Int)):Option V:=
 match p with
 | some (_,m)=>some (.lit (.int k (zgA k m)))
 | none=>none
def zoA(v:Option V):Option Bool:=
 match v with
 | some (.lit (.bool b))=>some b
 | _=>none
def xUn(op:UnOp)(p:Option V):Option V:=match p with | some v=>unV op v | none=>none
def zBX(p:Option V):Option V:=match p with | some v=>zyf v | none=>none
def zCb(p:Option V)(i:Nat):Option V:=match p with | some (.tup vs)=>nth vs i | _=>none
end Go.Mx
