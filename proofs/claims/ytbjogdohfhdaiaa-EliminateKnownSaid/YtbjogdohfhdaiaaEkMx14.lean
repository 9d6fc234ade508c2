/-
 The machine once more, step by step in full, for the kernel: it computes the same. Conditions: none.
-/
import Derived.Test.YtbjogdohfhdaiaaEkJ14
set_option linter.unusedSimpArgs false
set_option linter.unusedVariables false
namespace Go.Mx
open Go
def zm6{α β:Type}(l:List β)(k:List β→α):α:=
 match l with
 | []=>k []
 | x :: r=>zm6 r fun r'=>k (x :: r')
theorem zk5{α β:Type}:∀(l:List β) (k:List β→α),zm6 l k=k l
 | [],_=>rfl
 | x :: r,k=>by simp[zm6,zk5 r]
def zpJ{α β:Type}(l:List β)(n:Nat)(v:β)(k:List β→α):α:=
 match l with
 | []=>k []
 | x :: r=>match n with
  | .zero=>k (v :: r)
  | .succ m=>zpJ r m v fun r'=>k (x :: r')
theorem zmq{α β:Type}:∀(l:List β) (n:Nat) (v:β) (k:List β→α),zpJ l n v k=k (l.set n v)
 | [],n,v,k=>by simp[zpJ]
 | x :: r,0,v,k=>by simp[zpJ]
 | x :: r,n+1,v,k=>by simp[zpJ,zmq r n]
end Go.Mx
