/-
 Arrays of structs: an element at a place that is not known. Conditions: none.
-/
import Derived.Test.YtbjogdohfhdaiaaGreatEcDc4
set_option linter.unusedSimpArgs false
set_option linter.unusedVariables false
namespace Go.Dc
open Go Go.Mx Go.Lx
variable {α:Type}
theorem zvG{e:En α}{t:Bool}:∀ {xs:List α} {i:Nat} {x:α},xs[i]? = some x->(((xs.map (e.c t)).flatten.drop (i * e.n)).take e.n)=e.c t x
 | y :: r,0,x,h=>by
  simp at h;subst h;rw[qc3,qa4,qaz,qbp,qcJ (by rw[e.len]; exact qap _),qaM (by rw[e.len]; exact qap _)]
 | y :: r,i+1,x,h=>by
  have h1:(i+1)* e.n=e.n+i * e.n:=by rw[qaQ,qa6,qce]
  rw[qaz,qbp,h1,List.drop_append,e.len,qcn (by rw[e.len]; omega),qaP,show e.n+i * e.n - e.n=i * e.n by omega];exact zvG (by simpa using h)
variable{xs:List α}
theorem zAp{e:En α}{n:Nat}(hn:n=e.n){i:Int}{x:α}(h:zaE xs i=some x):i.toNat * n+n<=xs.length * n:=by
 have h1:=(qab.1 (zkH h)).1;rw[<- qcs];exact qau n h1
theorem zsg{e:En α}{n:Nat}(hn:n=e.n){i:Int}{x:α}(h:zaE xs i=some x){t:Bool}{ds:List D}(hd:ds=(xs.map (e.c t)).flatten):(ds.drop (i.toNat * n)).take n=e.c t x:=by
 subst hn hd;exact zvG (zkH h)
end Go.Dc
