/-
 A table of functions for the kernel's machine. Conditions: none.
-/
import Derived.Test.YtbjogdohfhdaiaaCfMxG
set_option linter.unusedSimpArgs false
set_option linter.unusedVariables false
namespace Go.Mx
open Go
def zwL{P:Program}{l:List Nat}:List ((f:Nat)×{ y:Option Fn // y=zA6 P l f })->Nat->Option Fn
 | [],_=>none
 | ⟨k,y,_⟩:: r,f=>bif Nat.beq k f then y else zwL r f
theorem zpD{P:Program}{l:List Nat}:∀(t:List ((f:Nat)×{ y:Option Fn // y=zA6 P l f })) (f:Nat) (fn:Fn),zwL t f=some fn->zjd P f fn
 | [],f,fn,h=>by cases h
 | ⟨k,y,hy⟩:: r,f,fn,h=>by
  simp only[zwL]at h;cases hb:Nat.beq k f with
  | true=>
   simp only[hb,qdl]at h;have:=qbT hb;subst this; subst h;exact zyL _ _ hy.symm
  | false=>
   simp only[hb,qdm]at h;exact zpD r f fn h
end Go.Mx
