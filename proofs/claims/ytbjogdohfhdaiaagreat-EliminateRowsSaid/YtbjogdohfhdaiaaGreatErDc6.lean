/-
 Arrays of structs: an element at a place that is not known. Conditions: none.
-/
import Derived.Test.YtbjogdohfhdaiaaGreatErDc4
set_option linter.unusedSimpArgs false
set_option linter.unusedVariables false
namespace Go.Dc
open Go Go.Mx Go.Lx
variable {α:Type}
theorem zvr{e:En α}{t:Bool}:∀ {xs:List α} {i:Nat} {x:α},xs[i]? = some x->(((xs.map (e.c t)).flatten.drop (i * e.n)).take e.n)=e.c t x
 | y :: r,0,x,h=>by
  simp at h;subst h;rw[qci,qbq,qaL,qbl,qcK (by rw[e.len]; exact qap _),qaM (by rw[e.len]; exact qap _)]
 | y :: r,i+1,x,h=>by
  have h1:(i+1)* e.n=e.n+i * e.n:=by rw[qaQ,qa2,qcj]
  rw[qaL,qbl,h1,List.drop_append,e.len,qcq (by rw[e.len]; omega),qaU,show e.n+i * e.n - e.n=i * e.n by omega];exact zvr (by simpa using h)
variable{xs:List α}
theorem zFS{e:En α}{n:Nat}(hn:n=e.n){i:Int}{x:α}(h:zaE xs i=some x):i.toNat * n+n<=xs.length * n:=by
 have h1:=(qab.1 (zj0 h)).1;rw[<- qcu];exact qas n h1
theorem zy2{e:En α}{n:Nat}(hn:n=e.n){i:Int}{x:α}(h:zaE xs i=some x){t:Bool}{ds:List D}(hd:ds=(xs.map (e.c t)).flatten):(ds.drop (i.toNat * n)).take n=e.c t x:=by
 subst hn hd;exact zvr (zj0 h)
end Go.Dc
