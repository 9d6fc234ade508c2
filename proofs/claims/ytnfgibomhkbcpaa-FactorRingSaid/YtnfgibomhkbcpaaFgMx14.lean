/-
 The machine once more, step by step in full, for the kernel: it computes the same. Conditions: none.
-/
import Derived.Test.YtnfgibomhkbcpaaFgJ18
set_option linter.unusedSimpArgs false
set_option linter.unusedVariables false
namespace Go.Mx
open Go
def zlW{α β:Type}(l:List β)(k:List β→α):α:=
 match l with
 | []=>k []
 | x :: r=>zlW r fun r'=>k (x :: r')
theorem zj6{α β:Type}:∀(l:List β) (k:List β→α),zlW l k=k l
 | [],_=>rfl
 | x :: r,k=>by simp[zlW,zj6 r]
def zoW{α β:Type}(l:List β)(n:Nat)(v:β)(k:List β→α):α:=
 match l with
 | []=>k []
 | x :: r=>match n with
  | .zero=>k (v :: r)
  | .succ m=>zoW r m v fun r'=>k (x :: r')
theorem zkA{α β:Type}:∀(l:List β) (n:Nat) (v:β) (k:List β→α),zoW l n v k=k (l.set n v)
 | [],n,v,k=>by simp[zoW]
 | x :: r,0,v,k=>by simp[zoW]
 | x :: r,n+1,v,k=>by simp[zoW,zkA r n]
end Go.Mx
