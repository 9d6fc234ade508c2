/-
 The machine once more, step by step in full, for the kernel: it computes the same. Conditions: none.
-/
import Derived.Test.YtnfgibomhkbcpaaFkJ17
set_option linter.unusedSimpArgs false
set_option linter.unusedVariables false
namespace Go.Mx
open Go
def zmG{α β:Type}(l:List β)(k:List β→α):α:=
 match l with
 | []=>k []
 | x :: r=>zmG r fun r'=>k (x :: r')
theorem zki{α β:Type}:∀(l:List β) (k:List β→α),zmG l k=k l
 | [],_=>rfl
 | x :: r,k=>by simp[zmG,zki r]
def zp1{α β:Type}(l:List β)(n:Nat)(v:β)(k:List β→α):α:=
 match l with
 | []=>k []
 | x :: r=>match n with
  | .zero=>k (v :: r)
  | .succ m=>zp1 r m v fun r'=>k (x :: r')
theorem zlt{α β:Type}:∀(l:List β) (n:Nat) (v:β) (k:List β→α),zp1 l n v k=k (l.set n v)
 | [],n,v,k=>by simp[zp1]
 | x :: r,0,v,k=>by simp[zp1]
 | x :: r,n+1,v,k=>by simp[zp1,zlt r n]
end Go.Mx
