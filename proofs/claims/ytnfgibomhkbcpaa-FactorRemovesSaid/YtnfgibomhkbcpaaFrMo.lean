/-
 What is known of the library's own functions: slices.Insert, Clone, Delete, Compact and Sort. Conditions: none.
-/
import Derived.Test.YtnfgibomhkbcpaaFrMxJ
namespace Go.Mx
open Go Go.Proofs
def isX(f:Nat):Bool:=Nat.beq f 126 || Nat.beq f 49 || Nat.beq f 103 || Nat.beq f 133 || Nat.beq f 50
def zkn:Orc:=fun B f args h=>zqw (zop B f args h) (zqw (zeV B f args h) (zqw (zqu B f args h) (zqw (zrR B f args h) (ztj B f args h))))
theorem zkh{P:Program}{o1 o2:Orc}(h1:zhg P o1)(h2:zhg P o2):zhg P fun B f args h=>zqw (o1 B f args h) (o2 B f args h):=by
 intro B f args h cr h' ho;simp only[zqw]at ho;split at ho
 ·rename_i x hx;cases ho;exact h1 _ _ _ _ _ _ hx
 exact h2 _ _ _ _ _ _ ho
theorem zsz:zhg Try.prog zkn:=zkh zsE (zkh zpI (zkh zr4 (zkh zs1 zsD)))
theorem zqk{f:Nat}(hf:isX f=false)(B:Nat)(args:List V)(h:zao):zkn B f args h=none:=by
 unfold isX at hf;have h1:f≠126:=by rintro rfl; cases hf
 have h2:f≠49:=by rintro rfl; cases hf
 have h3:f≠103:=by rintro rfl; cases hf
 have h4:f≠133:=by rintro rfl; cases hf
 have h5:f≠50:=by rintro rfl; cases hf
 unfold zkn zqw zop zeV zqu zrR ztj;rw[if_neg h1,if_neg h2,if_neg h3,if_neg h4,if_neg h5]
end Go.Mx
