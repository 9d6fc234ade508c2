/-
 What is known of the library's own functions: slices.Insert, Clone, Delete, Compact and Sort. Conditions: none.
-/
import Derived.Test.YtnfgibomhkbcpaaNrMxJ
namespace Go.Mx
open Go Go.Proofs
def isX(f:Nat):Bool:=Nat.beq f 126 || Nat.beq f 49 || Nat.beq f 103 || Nat.beq f 133 || Nat.beq f 50
def zkj:Orc:=fun B f args h=>zqp (zph B f args h) (zqp (zfF B f args h) (zqp (zuH B f args h) (zqp (zwF B f args h) (zwz B f args h))))
theorem zjR{P:Program}{o1 o2:Orc}(h1:zfY P o1)(h2:zfY P o2):zfY P fun B f args h=>zqp (o1 B f args h) (o2 B f args h):=by
 intro B f args h cr h' ho;simp only[zqp]at ho;split at ho
 ·rename_i x hx;cases ho;exact h1 _ _ _ _ _ _ hx
 exact h2 _ _ _ _ _ _ ho
theorem zvE:zfY Try.prog zkj:=zjR zvP (zjR zp4 (zjR zvG (zjR zvn zvB)))
theorem zsv{f:Nat}(hf:isX f=false)(B:Nat)(args:List V)(h:zak):zkj B f args h=none:=by
 unfold isX at hf;have h1:f≠126:=by rintro rfl; cases hf
 have h2:f≠49:=by rintro rfl; cases hf
 have h3:f≠103:=by rintro rfl; cases hf
 have h4:f≠133:=by rintro rfl; cases hf
 have h5:f≠50:=by rintro rfl; cases hf
 unfold zkj zqp zph zfF zuH zwF zwz;rw[if_neg h1,if_neg h2,if_neg h3,if_neg h4,if_neg h5]
end Go.Mx
