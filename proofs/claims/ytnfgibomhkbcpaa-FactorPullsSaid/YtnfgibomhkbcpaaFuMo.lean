/-
 What is known of the library's own functions: slices.Insert, Clone, Delete, Compact and Sort. Conditions: none.
-/
import Derived.Test.YtnfgibomhkbcpaaFuMxJ
namespace Go.Mx
open Go Go.Proofs
def isX(f:Nat):Bool:=Nat.beq f 126 || Nat.beq f 49 || Nat.beq f 103 || Nat.beq f 133 || Nat.beq f 50
def zjQ:Orc:=fun B f args h=>zpU (znO B f args h) (zpU (zen B f args h) (zpU (zpS B f args h) (zpU (zrf B f args h) (zsG B f args h))))
theorem zjj{P:Program}{o1 o2:Orc}(h1:zgK P o1)(h2:zgK P o2):zgK P fun B f args h=>zpU (o1 B f args h) (o2 B f args h):=by
 intro B f args h cr h' ho;simp only[zpU]at ho;split at ho
 ·rename_i x hx;cases ho;exact h1 _ _ _ _ _ _ hx
 exact h2 _ _ _ _ _ _ ho
theorem zsn:zgK Try.prog zjQ:=zjj zrC (zjj zoS (zjj zr5 (zjj zsB zsb)))
theorem zob{f:Nat}(hf:isX f=false)(B:Nat)(args:List V)(h:zao):zjQ B f args h=none:=by
 unfold isX at hf;have h1:f≠126:=by rintro rfl; cases hf
 have h2:f≠49:=by rintro rfl; cases hf
 have h3:f≠103:=by rintro rfl; cases hf
 have h4:f≠133:=by rintro rfl; cases hf
 have h5:f≠50:=by rintro rfl; cases hf
 unfold zjQ zpU znO zen zpS zrf zsG;rw[if_neg h1,if_neg h2,if_neg h3,if_neg h4,if_neg h5]
end Go.Mx
