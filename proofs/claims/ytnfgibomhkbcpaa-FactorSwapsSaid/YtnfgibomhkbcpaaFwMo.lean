/-
 What is known of the library's own functions: slices.Insert, Clone, Delete, Compact and Sort. Conditions: none.
-/
import Derived.Test.YtnfgibomhkbcpaaFwMxJ
namespace Go.Mx
open Go Go.Proofs
def isX(f:Nat):Bool:=Nat.beq f 126 || Nat.beq f 49 || Nat.beq f 103 || Nat.beq f 133 || Nat.beq f 50
def zjq:Orc:=fun B f args h=>zo8 (zm2 B f args h) (zo8 (zea B f args h) (zo8 (zo4 B f args h) (zo8 (zqu B f args h) (zrz B f args h))))
theorem zi5{P:Program}{o1 o2:Orc}(h1:zgw P o1)(h2:zgw P o2):zgw P fun B f args h=>zo8 (o1 B f args h) (o2 B f args h):=by
 intro B f args h cr h' ho;simp only[zo8]at ho;split at ho
 ·rename_i x hx;cases ho;exact h1 _ _ _ _ _ _ hx
 exact h2 _ _ _ _ _ _ ho
theorem zq5:zgw Try.prog zjq:=zi5 zqE (zi5 zoi (zi5 zrb (zi5 zqL zri)))
theorem znR{f:Nat}(hf:isX f=false)(B:Nat)(args:List V)(h:zao):zjq B f args h=none:=by
 unfold isX at hf;have h1:f≠126:=by rintro rfl; cases hf
 have h2:f≠49:=by rintro rfl; cases hf
 have h3:f≠103:=by rintro rfl; cases hf
 have h4:f≠133:=by rintro rfl; cases hf
 have h5:f≠50:=by rintro rfl; cases hf
 unfold zjq zo8 zm2 zea zo4 zqu zrz;rw[if_neg h1,if_neg h2,if_neg h3,if_neg h4,if_neg h5]
end Go.Mx
