/-
 The machine once more, step by step in full, for the kernel: it computes the same. Conditions: none.
-/
import Derived.Test.YtnfgibomhkbcpaaFpJ15
set_option linter.unusedSimpArgs false
set_option linter.unusedVariables false
namespace Go.Mx
open Go
def znu{α β:Type}(l:List β)(k:List β→α):α:=
 match l with
 | []=>k []
 | x :: r=>znu r fun r'=>k (x :: r')
theorem zkz{α β:Type}:∀(l:List β) (k:List β→α),znu l k=k l
 | [],_=>rfl
 | x :: r,k=>by simp[znu,zkz r]
def zqr{α β:Type}(l:List β)(n:Nat)(v:β)(k:List β→α):α:=
 match l with
 | []=>k []
 | x :: r=>match n with
  | .zero=>k (v :: r)
  | .succ m=>zqr r m v fun r'=>k (x :: r')
theorem zmo{α β:Type}:∀(l:List β) (n:Nat) (v:β) (k:List β→α),zqr l n v k=k (l.set n v)
 | [],n,v,k=>by simp[zqr]
 | x :: r,0,v,k=>by simp[zqr]
 | x :: r,n+1,v,k=>by simp[zqr,zmo r n]
end Go.Mx
