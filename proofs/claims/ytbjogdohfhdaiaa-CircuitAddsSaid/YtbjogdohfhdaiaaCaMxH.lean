/-
 A table of functions for the kernel's machine. Conditions: none.
-/
import Derived.Test.YtbjogdohfhdaiaaCaMxG
set_option linter.unusedSimpArgs false
set_option linter.unusedVariables false
namespace Go.Mx
open Go
def zrf{P:Program}{l:List Nat}:List ((f:Nat)×{ y:Option Fn // y=zvc P l f })->Nat->Option Fn
 | [],_=>none
 | ⟨k,y,_⟩:: r,f=>bif Nat.beq k f then y else zrf r f
theorem zmB{P:Program}{l:List Nat}:∀(t:List ((f:Nat)×{ y:Option Fn // y=zvc P l f })) (f:Nat) (fn:Fn),zrf t f=some fn->zha P f fn
 | [],f,fn,h=>by cases h
 | ⟨k,y,hy⟩:: r,f,fn,h=>by
  simp only[zrf]at h;cases hb:Nat.beq k f with
  | true=>
   simp only[hb,qcR]at h;have:=qbu hb;subst this; subst h;exact ztv _ _ hy.symm
  | false=>
   simp only[hb,qcS]at h;exact zmB r f fn h
end Go.Mx
