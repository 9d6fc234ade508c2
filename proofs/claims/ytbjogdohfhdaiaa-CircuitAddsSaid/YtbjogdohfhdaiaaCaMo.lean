/-
 What is known of the library's own functions: slices.Insert, Clone, Delete, Compact and Sort. Conditions: none.
-/
import Derived.Test.YtbjogdohfhdaiaaCaMxJ
namespace Go.Mx
open Go Go.Proofs
def isX(f:Nat):Bool:=Nat.beq f 165 || Nat.beq f 25 || Nat.beq f 91 || Nat.beq f 118 || Nat.beq f 117
def zwp:Orc:=λB f args h=>zq3 (zws B f args h) (zq3 (zmn B f args h) (zq3 (zwx B f args h) (zq3 (zwr B f args h) (zww B f args h))))
theorem ziT{P:Program}{o1 o2:Orc}(h1:zfb P o1)(h2:zfb P o2):zfb P λB f args h=>zq3 (o1 B f args h) (o2 B f args h):=by
 intro B f args h cr h' ho;simp only[zq3]at ho;split at ho
 .rename_i x hx;cases ho;exact h1 _ _ _ _ _ _ hx
 exact h2 _ _ _ _ _ _ ho
theorem ztP:zfb Try.prog zwp:=ziT ztV (ziT zpw (ziT zuh (ziT ztx zs9)))
theorem zpE{f:Nat}(hf:isX f=false)(B:Nat)(args:List V)(h:zaf):zwp B f args h=none:=by
 unfold isX at hf;have h1:f≠165:=by rintro rfl; cases hf
 have h2:f≠25:=by rintro rfl; cases hf
 have h3:f≠91:=by rintro rfl; cases hf
 have h4:f≠118:=by rintro rfl; cases hf
 have h5:f≠117:=by rintro rfl; cases hf
 unfold zwp zq3 zws zmn zwx zwr zww;rw[if_neg h1,if_neg h2,if_neg h3,if_neg h4,if_neg h5]
end Go.Mx
