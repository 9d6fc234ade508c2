/-
 Arrays of structs: an element at a place that is not known. Conditions: none.
-/
import Derived.Test.YtbjogdohfhdaiaaCkDc4
set_option linter.unusedSimpArgs false
set_option linter.unusedVariables false
namespace Go.Dc
open Go Go.Mx Go.Lx
variable {α:Type}
theorem zoM{e:En α}{t:Bool}:∀ {xs:List α} {i:Nat} {x:α},xs[i]? = some x->(((xs.map (e.c t)).flatten.drop (i * e.n)).take e.n)=e.c t x
 | y :: r,0,x,h=>by
  simp at h;subst h;rw[qbI,qaP,qaI,qa2,List.take_append_of_le_length (by rw[e.len]; exact qam _),qaM (by rw[e.len]; exact qam _)]
 | y :: r,i+1,x,h=>by
  have h1:(i+1)* e.n=e.n+i * e.n:=by rw[qaX,qcr,Nat.add_comm]
  rw[qaI,qa2,h1,List.drop_append,e.len,List.drop_of_length_le (by rw[e.len]; omega),qbm,show e.n+i * e.n - e.n=i * e.n by omega];exact zoM (by simpa using h)
variable{xs:List α}
theorem zuN{e:En α}{n:Nat}(hn:n=e.n){i:Int}{x:α}(h:zaH xs i=some x):i.toNat * n+n<=xs.length * n:=by
 have h1:=(qac.1 (zhf h)).1;rw[<- qbs];exact qaC n h1
theorem zrp{e:En α}{n:Nat}(hn:n=e.n){i:Int}{x:α}(h:zaH xs i=some x){t:Bool}{ds:List D}(hd:ds=(xs.map (e.c t)).flatten):(ds.drop (i.toNat * n)).take n=e.c t x:=by
 subst hn hd;exact zoM (zhf h)
end Go.Dc
