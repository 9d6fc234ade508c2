/-
 A table of functions for the kernel's machine. Conditions: none.
-/
import Derived.Test.YtcfdkhbflhdjeaaNcMxG
set_option linter.unusedSimpArgs false
set_option linter.unusedVariables false
namespace Go.Mx
open Go
def zq2{P:Program}{l:List Nat}:List ((f:Nat)×{ y:Option Fn // y=zui P l f })→Nat→Option Fn
 | [],_=>none
 | ⟨k,y,_⟩:: r,f=>bif Nat.beq k f then y else zq2 r f
theorem zmU{P:Program}{l:List Nat}:∀(t:List ((f:Nat)×{ y:Option Fn // y=zui P l f })) (f:Nat) (fn:Fn),zq2 t f=some fn→zms P f fn
 | [],f,fn,h=>by cases h
 | ⟨k,y,hy⟩:: r,f,fn,h=>by
  simp only[zq2]at h;cases hb:Nat.beq k f with
  | true=>
   simp only[hb,cond_true]at h;have:=qbQ hb;subst this; subst h;exact ztB _ _ hy.symm
  | false=>
   simp only[hb,cond_false]at h;exact zmU r f fn h
end Go.Mx
