/-
 What is known of the library's own functions: slices.Insert, Clone, Delete, Compact and Sort. Conditions: none.
-/
import Derived.Test.YtnfgibomhkbcpaaFgMxJ
namespace Go.Mx
open Go Go.Proofs
def isX(f:Nat):Bool:=Nat.beq f 126 || Nat.beq f 49 || Nat.beq f 103 || Nat.beq f 133 || Nat.beq f 50
def zje:Orc:=fun B f args h=>zo1 (zmS B f args h) (zo1 (zeb B f args h) (zo1 (zoX B f args h) (zo1 (zpX B f args h) (zrs B f args h))))
theorem zim{P:Program}{o1 o2:Orc}(h1:zgo P o1)(h2:zgo P o2):zgo P fun B f args h=>zo1 (o1 B f args h) (o2 B f args h):=by
 intro B f args h cr h' ho;simp only[zo1]at ho;split at ho
 ·rename_i x hx;cases ho;exact h1 _ _ _ _ _ _ hx
 exact h2 _ _ _ _ _ _ ho
theorem zq6:zgo Try.prog zje:=zim zqV (zim zoa (zim zrn (zim zqD zqL)))
theorem zon{f:Nat}(hf:isX f=false)(B:Nat)(args:List V)(h:zan):zje B f args h=none:=by
 unfold isX at hf;have h1:f≠126:=by rintro rfl; cases hf
 have h2:f≠49:=by rintro rfl; cases hf
 have h3:f≠103:=by rintro rfl; cases hf
 have h4:f≠133:=by rintro rfl; cases hf
 have h5:f≠50:=by rintro rfl; cases hf
 unfold zje zo1 zmS zeb zoX zpX zrs;rw[if_neg h1,if_neg h2,if_neg h3,if_neg h4,if_neg h5]
end Go.Mx
