/-
 Arrays of structs: an element at a place that is not known. Conditions: none.
-/
import Derived.Test.YtifdmgbehogecaaNwDc4
set_option linter.unusedSimpArgs false
set_option linter.unusedVariables false
namespace Go.Dc
open Go Go.Mx Go.Lx
variable {α:Type}
theorem zqt{e:En α}{t:Bool}:∀ {xs:List α} {i:Nat} {x:α},xs[i]? = some x→(((xs.map (e.c t)).flatten.drop (i * e.n)).take e.n)=e.c t x
 | y :: r,0,x,h=>by
  simp at h;subst h;rw[qcr,qa4,qaE,qa6,qb1 (by rw[e.len]; exact qal _),qaN (by rw[e.len]; exact qal _)]
 | y :: r,i+1,x,h=>by
  have h1:(i+1)* e.n=e.n+i * e.n:=by rw[qaQ,qb0,Nat.add_comm]
  rw[qaE,qa6,h1,List.drop_append,e.len,List.drop_of_length_le (by rw[e.len]; omega),qa9,show e.n+i * e.n - e.n=i * e.n by omega];exact zqt (by simpa using h)
theorem zvk{e:En α}{n:Nat}(hn:n=e.n){xs:List α}{i:Int}{x:α}(h:zaF xs i=some x):i.toNat * n+n≤xs.length * n:=by
 have h1:=(qac.1 (zgy h)).1;rw[← qbz];exact qaz n h1
theorem zsi{e:En α}{n:Nat}(hn:n=e.n){xs:List α}{i:Int}{x:α}(h:zaF xs i=some x){t:Bool}{ds:List D}(hd:ds=(xs.map (e.c t)).flatten):(ds.drop (i.toNat * n)).take n=e.c t x:=by
 subst hn hd;exact zqt (zgy h)
end Go.Dc
