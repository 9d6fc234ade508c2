/-
 A table of functions for the kernel's machine. Conditions: none.
-/
import Derived.Test.YtnfgibomhkbcpaaNrMxG
set_option linter.unusedSimpArgs false
set_option linter.unusedVariables false
namespace Go.Mx
open Go
def ztS{P:Program}{l:List Nat}:List ((f:Nat)×{ y:Option Fn // y=zyi P l f })→Nat→Option Fn
 | [],_=>none
 | ⟨k,y,_⟩:: r,f=>bif Nat.beq k f then y else ztS r f
theorem zoj{P:Program}{l:List Nat}:∀(t:List ((f:Nat)×{ y:Option Fn // y=zyi P l f })) (f:Nat) (fn:Fn),ztS t f=some fn→zk5 P f fn
 | [],f,fn,h=>by cases h
 | ⟨k,y,hy⟩:: r,f,fn,h=>by
  simp only[ztS]at h;cases hb:Nat.beq k f with
  | true=>
   simp only[hb,cond_true]at h;have:=qcc hb;subst this; subst h;exact zvc _ _ hy.symm
  | false=>
   simp only[hb,cond_false]at h;exact zoj r f fn h
end Go.Mx
