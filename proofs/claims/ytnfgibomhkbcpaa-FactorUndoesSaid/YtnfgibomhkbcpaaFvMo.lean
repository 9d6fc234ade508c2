/-
 What is known of the library's own functions: slices.Insert, Clone, Delete, Compact and Sort. Conditions: none.
-/
import Derived.Test.YtnfgibomhkbcpaaFvMxJ
namespace Go.Mx
open Go Go.Proofs
def isX(f:Nat):Bool:=Nat.beq f 126 || Nat.beq f 49 || Nat.beq f 103 || Nat.beq f 133 || Nat.beq f 50
def zjk:Orc:=fun B f args h=>zo2 (zm1 B f args h) (zo2 (zeb B f args h) (zo2 (zoZ B f args h) (zo2 (zqa B f args h) (zrM B f args h))))
theorem ziZ{P:Program}{o1 o2:Orc}(h1:zgu P o1)(h2:zgu P o2):zgu P fun B f args h=>zo2 (o1 B f args h) (o2 B f args h):=by
 intro B f args h cr h' ho;simp only[zo2]at ho;split at ho
 ·rename_i x hx;cases ho;exact h1 _ _ _ _ _ _ hx
 exact h2 _ _ _ _ _ _ ho
theorem zrf:zgu Try.prog zjk:=ziZ zqB (ziZ zoa (ziZ zqT (ziZ zrp zqt)))
theorem zou{f:Nat}(hf:isX f=false)(B:Nat)(args:List V)(h:zao):zjk B f args h=none:=by
 unfold isX at hf;have h1:f≠126:=by rintro rfl; cases hf
 have h2:f≠49:=by rintro rfl; cases hf
 have h3:f≠103:=by rintro rfl; cases hf
 have h4:f≠133:=by rintro rfl; cases hf
 have h5:f≠50:=by rintro rfl; cases hf
 unfold zjk zo2 zm1 zeb zoZ zqa zrM;rw[if_neg h1,if_neg h2,if_neg h3,if_neg h4,if_neg h5]
end Go.Mx
