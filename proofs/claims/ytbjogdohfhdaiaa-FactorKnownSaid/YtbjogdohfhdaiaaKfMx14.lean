/-
 The machine once more, step by step in full, for the kernel: it computes the same. Conditions: none.
-/
import Derived.Test.YtbjogdohfhdaiaaKfJ12
set_option linter.unusedSimpArgs false
set_option linter.unusedVariables false
namespace Go.Mx
open Go
def zlv{α β:Type}(l:List β)(k:List β→α):α:=
 match l with
 | []=>k []
 | x :: r=>zlv r fun r'=>k (x :: r')
theorem zi8{α β:Type}:∀(l:List β) (k:List β→α),zlv l k=k l
 | [],_=>rfl
 | x :: r,k=>by simp[zlv,zi8 r]
def zou{α β:Type}(l:List β)(n:Nat)(v:β)(k:List β→α):α:=
 match l with
 | []=>k []
 | x :: r=>match n with
  | .zero=>k (v :: r)
  | .succ m=>zou r m v fun r'=>k (x :: r')
theorem zkH{α β:Type}:∀(l:List β) (n:Nat) (v:β) (k:List β→α),zou l n v k=k (l.set n v)
 | [],n,v,k=>by simp[zou]
 | x :: r,0,v,k=>by simp[zou]
 | x :: r,n+1,v,k=>by simp[zou,zkH r n]
end Go.Mx
