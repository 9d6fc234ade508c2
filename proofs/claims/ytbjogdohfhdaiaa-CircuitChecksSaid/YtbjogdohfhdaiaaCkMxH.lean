/-
 A table of functions for the kernel's machine. Conditions: none.
-/
import Derived.Test.YtbjogdohfhdaiaaCkMxG
set_option linter.unusedSimpArgs false
set_option linter.unusedVariables false
namespace Go.Mx
open Go
def zqG{P:Program}{l:List Nat}:List ((f:Nat)×{ y:Option Fn // y=zt2 P l f })->Nat->Option Fn
 | [],_=>none
 | ⟨k,y,_⟩:: r,f=>bif Nat.beq k f then y else zqG r f
theorem zlV{P:Program}{l:List Nat}:∀(t:List ((f:Nat)×{ y:Option Fn // y=zt2 P l f })) (f:Nat) (fn:Fn),zqG t f=some fn->zju P f fn
 | [],f,fn,h=>by cases h
 | ⟨k,y,hy⟩:: r,f,fn,h=>by
  simp only[zqG]at h;cases hb:Nat.beq k f with
  | true=>
   simp only[hb,qcE]at h;have:=qbp hb;subst this; subst h;exact zsO _ _ hy.symm
  | false=>
   simp only[hb,qcF]at h;exact zlV r f fn h
end Go.Mx
