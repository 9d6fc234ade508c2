/-
 What is known of the library's own functions: slices.Insert, Clone, Delete, Compact and Sort. Conditions: none.
-/
import Derived.Test.YtbjogdohfhdaiaaCfMxJ
namespace Go.Mx
open Go Go.Proofs
def isX(f:Nat):Bool:=Nat.beq f 165 || Nat.beq f 25 || Nat.beq f 91 || Nat.beq f 118 || Nat.beq f 117
def zvs:Orc:=λB f args h=>zrI (zzJ B f args h) (zrI (zjO B f args h) (zrI (zBF B f args h) (zrI (zBE B f args h) (zBK B f args h))))
theorem zkV{P:Program}{o1 o2:Orc}(h1:zgQ P o1)(h2:zgQ P o2):zgQ P λB f args h=>zrI (o1 B f args h) (o2 B f args h):=by
 intro B f args h cr h' ho;simp only[zrI]at ho;split at ho
 .rename_i x hx;cases ho;exact h1 _ _ _ _ _ _ hx
 exact h2 _ _ _ _ _ _ ho
theorem zx3:zgQ Try.prog zvs:=zkV zyf (zkV zuV (zkV zyP (zkV zyh zy4)))
theorem zrQ{f:Nat}(hf:isX f=false)(B:Nat)(args:List V)(h:zaj):zvs B f args h=none:=by
 unfold isX at hf;have h1:f≠165:=by rintro rfl; cases hf
 have h2:f≠25:=by rintro rfl; cases hf
 have h3:f≠91:=by rintro rfl; cases hf
 have h4:f≠118:=by rintro rfl; cases hf
 have h5:f≠117:=by rintro rfl; cases hf
 unfold zvs zrI zzJ zjO zBF zBE zBK;rw[if_neg h1,if_neg h2,if_neg h3,if_neg h4,if_neg h5]
end Go.Mx
