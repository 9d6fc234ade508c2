/-
 A table of functions for the kernel's machine. Conditions: none.
-/
import Derived.Test.YtnfgibomhkbcpaaNfMxG
set_option linter.unusedSimpArgs false
set_option linter.unusedVariables false
namespace Go.Mx
open Go
def zty{P:Program}{l:List Nat}:List ((f:Nat)×{ y:Option Fn // y=zxp P l f })→Nat→Option Fn
 | [],_=>none
 | ⟨k,y,_⟩:: r,f=>bif Nat.beq k f then y else zty r f
theorem zn0{P:Program}{l:List Nat}:∀(t:List ((f:Nat)×{ y:Option Fn // y=zxp P l f })) (f:Nat) (fn:Fn),zty t f=some fn→zkC P f fn
 | [],f,fn,h=>by cases h
 | ⟨k,y,hy⟩:: r,f,fn,h=>by
  simp only[zty]at h;cases hb:Nat.beq k f with
  | true=>
   simp only[hb,cond_true]at h;have:=qcd hb;subst this; subst h;exact zvY _ _ hy.symm
  | false=>
   simp only[hb,cond_false]at h;exact zn0 r f fn h
end Go.Mx
