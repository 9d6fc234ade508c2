/-
 What is known of the library's own functions: slices.Insert, Clone, Delete, Compact and Sort. Conditions: none.
-/
import Derived.Test.YtnfgibomhkbcpaaFpMxJ
namespace Go.Mx
open Go Go.Proofs
def isX(f:Nat):Bool:=Nat.beq f 126 || Nat.beq f 49 || Nat.beq f 103 || Nat.beq f 133 || Nat.beq f 50
def zkk:Orc:=fun B f args h=>zqo (zoj B f args h) (zqo (zeK B f args h) (zqo (zqw B f args h) (zqo (zrE B f args h) (zs8 B f args h))))
theorem zjS{P:Program}{o1 o2:Orc}(h1:zhh P o1)(h2:zhh P o2):zhh P fun B f args h=>zqo (o1 B f args h) (o2 B f args h):=by
 intro B f args h cr h' ho;simp only[zqo]at ho;split at ho
 ·rename_i x hx;cases ho;exact h1 _ _ _ _ _ _ hx
 exact h2 _ _ _ _ _ _ ho
theorem zsy:zhh Try.prog zkk:=zjS zsv (zjS zoA (zjS zsf (zjS zr5 zs2)))
theorem zoQ{f:Nat}(hf:isX f=false)(B:Nat)(args:List V)(h:zao):zkk B f args h=none:=by
 unfold isX at hf;have h1:f≠126:=by rintro rfl; cases hf
 have h2:f≠49:=by rintro rfl; cases hf
 have h3:f≠103:=by rintro rfl; cases hf
 have h4:f≠133:=by rintro rfl; cases hf
 have h5:f≠50:=by rintro rfl; cases hf
 unfold zkk zqo zoj zeK zqw zrE zs8;rw[if_neg h1,if_neg h2,if_neg h3,if_neg h4,if_neg h5]
end Go.Mx
