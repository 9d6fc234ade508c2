/-
 What is known of the library's own functions: slices.Insert, Clone, Delete, Compact and Sort. Conditions: none.
-/
import Derived.Test.YtbjogdohfhdaiaaEkMxJ
namespace Go.Mx
open Go Go.Proofs
def isX(f:Nat):Bool:=Nat.beq f 165 || Nat.beq f 25 || Nat.beq f 91 || Nat.beq f 118 || Nat.beq f 117
def ziZ:Orc:=fun B f args h=>zpM (zmE B f args h) (zpM (zfp B f args h) (zpM (zpH B f args h) (zpM (zqR B f args h) (zrS B f args h))))
theorem zj0{P:Program}{o1 o2:Orc}(h1:zhN P o1)(h2:zhN P o2):zhN P fun B f args h=>zpM (o1 B f args h) (o2 B f args h):=by
 intro B f args h cr h' ho;simp only[zpM]at ho;split at ho
 ·rename_i x hx;cases ho;exact h1 _ _ _ _ _ _ hx
 exact h2 _ _ _ _ _ _ ho
theorem zq6:zhN Try.prog ziZ:=zj0 zq2 (zj0 zoe (zj0 zrg (zj0 zrt zrz)))
theorem zpE{f:Nat}(hf:isX f=false)(B:Nat)(args:List V)(h:zas):ziZ B f args h=none:=by
 unfold isX at hf;have h1:f≠165:=by rintro rfl; cases hf
 have h2:f≠25:=by rintro rfl; cases hf
 have h3:f≠91:=by rintro rfl; cases hf
 have h4:f≠118:=by rintro rfl; cases hf
 have h5:f≠117:=by rintro rfl; cases hf
 unfold ziZ zpM zmE zfp zpH zqR zrS;rw[if_neg h1,if_neg h2,if_neg h3,if_neg h4,if_neg h5]
end Go.Mx
