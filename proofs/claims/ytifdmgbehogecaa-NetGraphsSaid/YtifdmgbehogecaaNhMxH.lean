/-
 A table of functions for the kernel's machine. Conditions: none.
-/
import Derived.Test.YtifdmgbehogecaaNhMxG
set_option linter.unusedSimpArgs false
set_option linter.unusedVariables false
namespace Go.Mx
open Go
def zrF{P:Program}{l:List Nat}:List ((f:Nat)×{ y:Option Fn // y=zvF P l f })→Nat→Option Fn
 | [],_=>none
 | ⟨k,y,_⟩:: r,f=>bif Nat.beq k f then y else zrF r f
theorem znk{P:Program}{l:List Nat}:∀(t:List ((f:Nat)×{ y:Option Fn // y=zvF P l f })) (f:Nat) (fn:Fn),zrF t f=some fn→zmH P f fn
 | [],f,fn,h=>by cases h
 | ⟨k,y,hy⟩:: r,f,fn,h=>by
  simp only[zrF]at h;cases hb:Nat.beq k f with
  | true=>
   simp only[hb,cond_true]at h;have:=qb0 hb;subst this; subst h;exact zts _ _ hy.symm
  | false=>
   simp only[hb,cond_false]at h;exact znk r f fn h
end Go.Mx
