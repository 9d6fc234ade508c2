/-
 What is known of the library's own functions: slices.Insert, Clone, Delete, Compact and Sort. Conditions: none.
-/
import Derived.Test.YtnfgibomhkbcpaaNfMxJ
namespace Go.Mx
open Go Go.Proofs
def isX(f:Nat):Bool:=Nat.beq f 126 || Nat.beq f 49 || Nat.beq f 103 || Nat.beq f 133 || Nat.beq f 50
def zpc:Orc:=fun B f args h=>zqT (zsB B f args h) (zqT (zi8 B f args h) (zqT (zyt B f args h) (zqT (zyw B f args h) (zys B f args h))))
theorem zjr{P:Program}{o1 o2:Orc}(h1:zgo P o1)(h2:zgo P o2):zgo P fun B f args h=>zqT (o1 B f args h) (o2 B f args h):=by
 intro B f args h cr h' ho;simp only[zqT]at ho;split at ho
 ·rename_i x hx;cases ho;exact h1 _ _ _ _ _ _ hx
 exact h2 _ _ _ _ _ _ ho
theorem zuF:zgo Try.prog zpc:=zjr zvH (zjr zpJ (zjr zvr (zjr zvh zu7)))
theorem zqD{f:Nat}(hf:isX f=false)(B:Nat)(args:List V)(h:zap):zpc B f args h=none:=by
 unfold isX at hf;have h1:f≠126:=by rintro rfl; cases hf
 have h2:f≠49:=by rintro rfl; cases hf
 have h3:f≠103:=by rintro rfl; cases hf
 have h4:f≠133:=by rintro rfl; cases hf
 have h5:f≠50:=by rintro rfl; cases hf
 unfold zpc zqT zsB zi8 zyt zyw zys;rw[if_neg h1,if_neg h2,if_neg h3,if_neg h4,if_neg h5]
end Go.Mx
