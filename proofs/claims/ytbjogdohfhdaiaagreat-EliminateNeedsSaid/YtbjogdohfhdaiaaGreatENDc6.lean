/-
 Arrays of structs: an element at a place that is not known. Conditions: none.
-/
import Derived.Test.YtbjogdohfhdaiaaGreatENDc4
set_option linter.unusedSimpArgs false
set_option linter.unusedVariables false
namespace Go.Dc
open Go Go.Mx Go.Lx
variable {α:Type}
theorem zsx{e:En α}{t:Bool}:∀ {xs:List α} {i:Nat} {x:α},xs[i]? = some x->(((xs.map (e.c t)).flatten.drop (i * e.n)).take e.n)=e.c t x
 | y :: r,0,x,h=>by
  simp at h;subst h;rw[qcE,qa9,qaF,qbu,qcL (by rw[e.len]; exact qap _),qaO (by rw[e.len]; exact qap _)]
 | y :: r,i+1,x,h=>by
  have h1:(i+1)* e.n=e.n+i * e.n:=by rw[qaN,qbl,qb2]
  rw[qaF,qbu,h1,List.drop_append,e.len,qcQ (by rw[e.len]; omega),qbe,show e.n+i * e.n - e.n=i * e.n by omega];exact zsx (by simpa using h)
variable{xs:List α}
theorem zx3{e:En α}{n:Nat}(hn:n=e.n){i:Int}{x:α}(h:zaz xs i=some x):i.toNat * n+n<=xs.length * n:=by
 have h1:=(qab.1 (zhU h)).1;rw[<- qca];exact qav n h1
theorem zqZ{e:En α}{n:Nat}(hn:n=e.n){i:Int}{x:α}(h:zaz xs i=some x){t:Bool}{ds:List D}(hd:ds=(xs.map (e.c t)).flatten):(ds.drop (i.toNat * n)).take n=e.c t x:=by
 subst hn hd;exact zsx (zhU h)
end Go.Dc
