/-
 What is known of the library's own functions: slices.Insert, Clone, Delete, Compact and Sort. Conditions: none.
-/
import Derived.Test.YtnfgibomhkbcpaaNtMxJ
namespace Go.Mx
open Go Go.Proofs
def isX(f:Nat):Bool:=Nat.beq f 126 || Nat.beq f 49 || Nat.beq f 103 || Nat.beq f 133 || Nat.beq f 50
def zjV:Orc:=fun B f args h=>zqC (zp8 B f args h) (zqC (zfX B f args h) (zqC (zvq B f args h) (zqC (zvF B f args h) (zxX B f args h))))
theorem zks{P:Program}{o1 o2:Orc}(h1:zgC P o1)(h2:zgC P o2):zgC P fun B f args h=>zqC (o1 B f args h) (o2 B f args h):=by
 intro B f args h cr h' ho;simp only[zqC]at ho;split at ho
 ·rename_i x hx;cases ho;exact h1 _ _ _ _ _ _ hx
 exact h2 _ _ _ _ _ _ ho
theorem zwi:zgC Try.prog zjV:=zks zv6 (zks zs4 (zks zw8 (zks zws zxD)))
theorem zq7{f:Nat}(hf:isX f=false)(B:Nat)(args:List V)(h:zal):zjV B f args h=none:=by
 unfold isX at hf;have h1:f≠126:=by rintro rfl; cases hf
 have h2:f≠49:=by rintro rfl; cases hf
 have h3:f≠103:=by rintro rfl; cases hf
 have h4:f≠133:=by rintro rfl; cases hf
 have h5:f≠50:=by rintro rfl; cases hf
 unfold zjV zqC zp8 zfX zvq zvF zxX;rw[if_neg h1,if_neg h2,if_neg h3,if_neg h4,if_neg h5]
end Go.Mx
