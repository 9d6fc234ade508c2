/-
 A table of functions for the kernel's machine. Conditions: none.
-/
import Derived.Test.YtifdmgbehogecaaNwMxG
set_option linter.unusedSimpArgs false
set_option linter.unusedVariables false
namespace Go.Mx
open Go
def zrD{P:Program}{l:List Nat}:List ((f:Nat)×{ y:Option Fn // y=zvy P l f })→Nat→Option Fn
 | [],_=>none
 | ⟨k,y,_⟩:: r,f=>bif Nat.beq k f then y else zrD r f
theorem znx{P:Program}{l:List Nat}:∀(t:List ((f:Nat)×{ y:Option Fn // y=zvy P l f })) (f:Nat) (fn:Fn),zrD t f=some fn→znv P f fn
 | [],f,fn,h=>by cases h
 | ⟨k,y,hy⟩:: r,f,fn,h=>by
  simp only[zrD]at h;cases hb:Nat.beq k f with
  | true=>
   simp only[hb,cond_true]at h;have:=qbR hb;subst this; subst h;exact ztT _ _ hy.symm
  | false=>
   simp only[hb,cond_false]at h;exact znx r f fn h
end Go.Mx
