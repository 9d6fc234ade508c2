/-
 The machine once more, step by step in full, for the kernel: it computes the same. Conditions: none.
-/
import Derived.Test.YtnfgibomhkbcpaaFrJ16
set_option linter.unusedSimpArgs false
set_option linter.unusedVariables false
namespace Go.Mx
open Go
def zmR{α β:Type}(l:List β)(k:List β→α):α:=
 match l with
 | []=>k []
 | x :: r=>zmR r fun r'=>k (x :: r')
theorem zkF{α β:Type}:∀(l:List β) (k:List β→α),zmR l k=k l
 | [],_=>rfl
 | x :: r,k=>by simp[zmR,zkF r]
def zqy{α β:Type}(l:List β)(n:Nat)(v:β)(k:List β→α):α:=
 match l with
 | []=>k []
 | x :: r=>match n with
  | .zero=>k (v :: r)
  | .succ m=>zqy r m v fun r'=>k (x :: r')
theorem zmA{α β:Type}:∀(l:List β) (n:Nat) (v:β) (k:List β→α),zqy l n v k=k (l.set n v)
 | [],n,v,k=>by simp[zqy]
 | x :: r,0,v,k=>by simp[zqy]
 | x :: r,n+1,v,k=>by simp[zqy,zmA r n]
end Go.Mx
