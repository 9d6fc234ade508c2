/-
 What is known of the library's own functions: slices.Insert, Clone, Delete, Compact and Sort. Conditions: none.
-/
import Derived.Test.YtbjogdohfhdaiaaKfMxJ
namespace Go.Mx
open Go Go.Proofs
def isX(f:Nat):Bool:=Nat.beq f 165 || Nat.beq f 25 || Nat.beq f 91 || Nat.beq f 118 || Nat.beq f 117
def ziY:Orc:=fun B f args h=>zos (zmz B f args h) (zos (zd1 B f args h) (zos (zor B f args h) (zos (zpv B f args h) (zq3 B f args h))))
theorem ziH{P:Program}{o1 o2:Orc}(h1:zf8 P o1)(h2:zf8 P o2):zf8 P fun B f args h=>zos (o1 B f args h) (o2 B f args h):=by
 intro B f args h cr h' ho;simp only[zos]at ho;split at ho
 ·rename_i x hx;cases ho;exact h1 _ _ _ _ _ _ hx
 exact h2 _ _ _ _ _ _ ho
theorem zqH:zf8 Try.prog ziY:=ziH zpS (ziH zm0 (ziH zqg (ziH zqb zqj)))
theorem zm7{f:Nat}(hf:isX f=false)(B:Nat)(args:List V)(h:zap):ziY B f args h=none:=by
 unfold isX at hf;have h1:f≠165:=by rintro rfl; cases hf
 have h2:f≠25:=by rintro rfl; cases hf
 have h3:f≠91:=by rintro rfl; cases hf
 have h4:f≠118:=by rintro rfl; cases hf
 have h5:f≠117:=by rintro rfl; cases hf
 unfold ziY zos zmz zd1 zor zpv zq3;rw[if_neg h1,if_neg h2,if_neg h3,if_neg h4,if_neg h5]
end Go.Mx
