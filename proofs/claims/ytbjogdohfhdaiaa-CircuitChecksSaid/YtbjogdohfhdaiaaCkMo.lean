/-
 What is known of the library's own functions: slices.Insert, Clone, Delete, Compact and Sort. Conditions: none.
-/
import Derived.Test.YtbjogdohfhdaiaaCkMxJ
namespace Go.Mx
open Go Go.Proofs
def isX(f:Nat):Bool:=Nat.beq f 165 || Nat.beq f 25 || Nat.beq f 91 || Nat.beq f 118 || Nat.beq f 117
def zvi:Orc:=λB f args h=>zqg (zvt B f args h) (zqg (zlQ B f args h) (zqg (zvg B f args h) (zqg (zvh B f args h) (zvo B f args h))))
theorem zik{P:Program}{o1 o2:Orc}(h1:zfI P o1)(h2:zfI P o2):zfI P λB f args h=>zqg (o1 B f args h) (o2 B f args h):=by
 intro B f args h cr h' ho;simp only[zqg]at ho;split at ho
 .rename_i x hx;cases ho;exact h1 _ _ _ _ _ _ hx
 exact h2 _ _ _ _ _ _ ho
theorem ztb:zfI Try.prog zvi:=zik zsp (zik zo2 (zik zsP (zik zsh zsq)))
theorem zpt{f:Nat}(hf:isX f=false)(B:Nat)(args:List V)(h:zaj):zvi B f args h=none:=by
 unfold isX at hf;have h1:f≠165:=by rintro rfl; cases hf
 have h2:f≠25:=by rintro rfl; cases hf
 have h3:f≠91:=by rintro rfl; cases hf
 have h4:f≠118:=by rintro rfl; cases hf
 have h5:f≠117:=by rintro rfl; cases hf
 unfold zvi zqg zvt zlQ zvg zvh zvo;rw[if_neg h1,if_neg h2,if_neg h3,if_neg h4,if_neg h5]
end Go.Mx
