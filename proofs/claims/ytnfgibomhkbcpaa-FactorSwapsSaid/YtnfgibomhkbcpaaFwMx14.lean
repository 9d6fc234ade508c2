/-
 The machine once more, step by step in full, for the kernel: it computes the same. Conditions: none.
-/
import Derived.Test.YtnfgibomhkbcpaaFwJ20
set_option linter.unusedSimpArgs false
set_option linter.unusedVariables false
namespace Go.Mx
open Go
def zlP{α β:Type}(l:List β)(k:List β→α):α:=
 match l with
 | []=>k []
 | x :: r=>zlP r fun r'=>k (x :: r')
theorem zkc{α β:Type}:∀(l:List β) (k:List β→α),zlP l k=k l
 | [],_=>rfl
 | x :: r,k=>by simp[zlP,zkc r]
def zo5{α β:Type}(l:List β)(n:Nat)(v:β)(k:List β→α):α:=
 match l with
 | []=>k []
 | x :: r=>match n with
  | .zero=>k (v :: r)
  | .succ m=>zo5 r m v fun r'=>k (x :: r')
theorem zlg{α β:Type}:∀(l:List β) (n:Nat) (v:β) (k:List β→α),zo5 l n v k=k (l.set n v)
 | [],n,v,k=>by simp[zo5]
 | x :: r,0,v,k=>by simp[zo5]
 | x :: r,n+1,v,k=>by simp[zo5,zlg r n]
end Go.Mx
