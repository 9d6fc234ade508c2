/-
 The machine once more, step by step in full, for the kernel: it computes the same. Conditions: none.
-/
import Derived.Test.YtnfgibomhkbcpaaFvJ19
set_option linter.unusedSimpArgs false
set_option linter.unusedVariables false
namespace Go.Mx
open Go
def zlV{α β:Type}(l:List β)(k:List β→α):α:=
 match l with
 | []=>k []
 | x :: r=>zlV r fun r'=>k (x :: r')
theorem zj1{α β:Type}:∀(l:List β) (k:List β→α),zlV l k=k l
 | [],_=>rfl
 | x :: r,k=>by simp[zlV,zj1 r]
def zo4{α β:Type}(l:List β)(n:Nat)(v:β)(k:List β→α):α:=
 match l with
 | []=>k []
 | x :: r=>match n with
  | .zero=>k (v :: r)
  | .succ m=>zo4 r m v fun r'=>k (x :: r')
theorem zkL{α β:Type}:∀(l:List β) (n:Nat) (v:β) (k:List β→α),zo4 l n v k=k (l.set n v)
 | [],n,v,k=>by simp[zo4]
 | x :: r,0,v,k=>by simp[zo4]
 | x :: r,n+1,v,k=>by simp[zo4,zkL r n]
end Go.Mx
