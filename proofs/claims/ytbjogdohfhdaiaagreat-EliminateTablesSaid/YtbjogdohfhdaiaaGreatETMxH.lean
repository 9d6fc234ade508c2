/-
 A table of functions for the kernel's machine. Conditions: none.
-/
import Derived.Test.YtbjogdohfhdaiaaGreatETMxG
set_option linter.unusedSimpArgs false
set_option linter.unusedVariables false
namespace Go.Mx
open Go
def znJ{P:Program}{l:List Nat}:List ((f:Nat)×{ y:Option Fn // y=zDf P l f })->Nat->Option Fn
 | [],_=>none
 | ⟨k,y,_⟩:: r,f=>bif Nat.beq k f then y else znJ r f
theorem zgx{P:Program}{l:List Nat}:∀(t:List ((f:Nat)×{ y:Option Fn // y=zDf P l f })) (f:Nat) (fn:Fn),znJ t f=some fn->zmV P f fn
 | [],f,fn,h=>by cases h
 | ⟨k,y,hy⟩:: r,f,fn,h=>by
  simp only[znJ]at h;cases hb:Nat.beq k f with
  | true=>
   simp only[hb,qdw]at h;have:=qaK hb;subst this; subst h;exact zz4 _ _ hy.symm
  | false=>
   simp only[hb,qdx]at h;exact zgx r f fn h
end Go.Mx
