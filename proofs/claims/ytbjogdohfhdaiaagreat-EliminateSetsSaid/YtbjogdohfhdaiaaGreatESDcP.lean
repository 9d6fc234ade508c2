/-
 States behind blocks of which nothing is known but where they lead. Conditions: none.
-/
import Derived.Test.YtbjogdohfhdaiaaGreatESLy16
import Derived.Test.YtbjogdohfhdaiaaGreatESJ15
import Derived.Test.YtbjogdohfhdaiaaGreatESDc1
set_option linter.unusedSimpArgs false
set_option linter.unusedVariables false
namespace Go.Dc
open Go Go.Mx Go.Lx
theorem MBs.of{L0:List LB}{as:List Lx.Act}:∀ {i:Nat} {L L':List LB},L'.length≤L.length→(∀(j:Nat) b b',L[j]? = some b→L'[j]? = some b'→(match as[i+j]? with | some .k=>MB L0 (isF as) (isK as) b b' | _=>b'=.gone))→MBs L0 as i L L'
 | i,L,[],_,_=>by cases L<;>trivial
 | i,[],_ :: _,h,_=>by simp at h
 | i,b :: r,b' :: r',h,hb=>by
  refine⟨hb 0 b b' rfl rfl,MBs.of (by simpa using h) fun j c c' h1 h2=>?_⟩;have:=hb (j+1) c c' (by simpa using h1) (by simpa using h2);rw[show i+(j+1)=i+1+j by omega]at this;exact this
def MBx(L0:List LB)(F kp:Nat→Bool):List Lx.Act→List LB→List LB→Prop
 | _,_,[]=>True
 | .k :: as,b :: r,b' :: r'=>MB L0 F kp b b'∧MBx L0 F kp as r r'
 | .f :: as,_ :: r,b' :: r'=>b'=.gone∧MBx L0 F kp as r r'
 | .d :: as,_ :: r,b' :: r'=>b'=.gone∧MBx L0 F kp as r r'
 | _,_,_=>False
theorem MBx.get{L0:List LB}{F kp:Nat→Bool}:∀ {as:List Lx.Act} {X Y:List LB},MBx L0 F kp as X Y→Y.length≤X.length∧∀(j:Nat) b b',X[j]? = some b→Y[j]? = some b'→(match as[j]? with | some .k=>MB L0 F kp b b' | _=>b'=.gone)
 | _,X,[],_=>⟨by simp,fun j b b' _ h=>by simp at h⟩
 | .k :: as,b :: r,b' :: r',h=>by
  obtain⟨h1,h2⟩:=MBx.get h.2;refine⟨by simpa using h1,fun j c c' g1 g2=>?_⟩;cases j with
  | zero=>simp at g1 g2; subst g1; subst g2; exact h.1
  | succ j=>simpa using h2 j c c' (by simpa using g1) (by simpa using g2)
 | .f :: as,b :: r,b' :: r',h=>by
  obtain⟨h1,h2⟩:=MBx.get h.2;refine⟨by simpa using h1,fun j c c' g1 g2=>?_⟩;cases j with
  | zero=>simp at g1 g2; subst g1; subst g2; exact h.1
  | succ j=>simpa using h2 j c c' (by simpa using g1) (by simpa using g2)
 | .d :: as,b :: r,b' :: r',h=>by
  obtain⟨h1,h2⟩:=MBx.get h.2;refine⟨by simpa using h1,fun j c c' g1 g2=>?_⟩;cases j with
  | zero=>simp at g1 g2; subst g1; subst g2; exact h.1
  | succ j=>simpa using h2 j c c' (by simpa using g1) (by simpa using g2)
 | [],_,_ :: _,h=>h.elim
 | .k :: _,[],_ :: _,h=>h.elim
 | .f :: _,[],_ :: _,h=>h.elim
 | .d :: _,[],_ :: _,h=>h.elim
end Go.Dc
