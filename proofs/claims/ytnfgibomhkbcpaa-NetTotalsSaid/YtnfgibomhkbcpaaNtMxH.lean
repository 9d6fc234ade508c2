/-
 A table of functions for the kernel's machine. Conditions: none.
-/
import Derived.Test.YtnfgibomhkbcpaaNtMxG
set_option linter.unusedSimpArgs false
set_option linter.unusedVariables false
namespace Go.Mx
open Go
def zud{P:Program}{l:List Nat}:List ((f:Nat)×{ y:Option Fn // y=zya P l f })→Nat→Option Fn
 | [],_=>none
 | ⟨k,y,_⟩:: r,f=>bif Nat.beq k f then y else zud r f
theorem zoI{P:Program}{l:List Nat}:∀(t:List ((f:Nat)×{ y:Option Fn // y=zya P l f })) (f:Nat) (fn:Fn),zud t f=some fn→zmU P f fn
 | [],f,fn,h=>by cases h
 | ⟨k,y,hy⟩:: r,f,fn,h=>by
  simp only[zud]at h;cases hb:Nat.beq k f with
  | true=>
   simp only[hb,cond_true]at h;have:=qcc hb;subst this; subst h;exact zwb _ _ hy.symm
  | false=>
   simp only[hb,cond_false]at h;exact zoI r f fn h
end Go.Mx
