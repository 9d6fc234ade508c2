/-
 The machine once more, step by step in full, for the kernel: it computes the same. Conditions: none.
-/
import Derived.Test.YtnfgibomhkbcpaaFuJ19
set_option linter.unusedSimpArgs false
set_option linter.unusedVariables false
namespace Go.Mx
open Go
def zmW{α β:Type}(l:List β)(k:List β→α):α:=
 match l with
 | []=>k []
 | x :: r=>zmW r fun r'=>k (x :: r')
theorem zkw{α β:Type}:∀(l:List β) (k:List β→α),zmW l k=k l
 | [],_=>rfl
 | x :: r,k=>by simp[zmW,zkw r]
def zpQ{α β:Type}(l:List β)(n:Nat)(v:β)(k:List β→α):α:=
 match l with
 | []=>k []
 | x :: r=>match n with
  | .zero=>k (v :: r)
  | .succ m=>zpQ r m v fun r'=>k (x :: r')
theorem zlV{α β:Type}:∀(l:List β) (n:Nat) (v:β) (k:List β→α),zpQ l n v k=k (l.set n v)
 | [],n,v,k=>by simp[zpQ]
 | x :: r,0,v,k=>by simp[zpQ]
 | x :: r,n+1,v,k=>by simp[zpQ,zlV r n]
end Go.Mx
