/-
 Arrays of structs: an element at a place that is not known. Conditions: none.
-/
import Derived.Test.YtcfdkhbflhdjeaaNcDc4
set_option linter.unusedSimpArgs false
set_option linter.unusedVariables false
namespace Go.Dc
open Go Go.Mx Go.Lx
variable {α:Type}
theorem zp8{e:En α}{t:Bool}:∀ {xs:List α} {i:Nat} {x:α},xs[i]? = some x→(((xs.map (e.c t)).flatten.drop (i * e.n)).take e.n)=e.c t x
 | y :: r,0,x,h=>by
  simp at h;subst h;rw[qbC,qa7,qaD,qa0,qbZ (by rw[e.len]; exact qak _),qaM (by rw[e.len]; exact qak _)]
 | y :: r,i+1,x,h=>by
  have h1:(i+1)* e.n=e.n+i * e.n:=by rw[qaW,qck,Nat.add_comm]
  rw[qaD,qa0,h1,List.drop_append,e.len,List.drop_of_length_le (by rw[e.len]; omega),qbe,show e.n+i * e.n - e.n=i * e.n by omega];exact zp8 (by simpa using h)
theorem zup{e:En α}{n:Nat}(hn:n=e.n){xs:List α}{i:Int}{x:α}(h:zaO xs i=some x):i.toNat * n+n≤xs.length * n:=by
 have h1:=(qac.1 (zgn h)).1;rw[← qbz];exact qaA n h1
theorem zrm{e:En α}{n:Nat}(hn:n=e.n){xs:List α}{i:Int}{x:α}(h:zaO xs i=some x){t:Bool}{ds:List D}(hd:ds=(xs.map (e.c t)).flatten):(ds.drop (i.toNat * n)).take n=e.c t x:=by
 subst hn hd;exact zp8 (zgn h)
end Go.Dc
