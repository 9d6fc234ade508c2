/-
 Arrays of structs: an element at a place that is not known. Conditions: none.
-/
import Derived.Test.YtnfgibomhkbcpaaFkDc4
set_option linter.unusedSimpArgs false
set_option linter.unusedVariables false
namespace Go.Dc
open Go Go.Mx Go.Lx
variable {α:Type}
theorem zoJ{e:En α}{t:Bool}:∀ {xs:List α} {i:Nat} {x:α},xs[i]? = some x→(((xs.map (e.c t)).flatten.drop (i * e.n)).take e.n)=e.c t x
 | y :: r,0,x,h=>by
  simp at h;subst h;rw[qbG,qaK,qay,qaZ,List.take_append_of_le_length (by rw[e.len]; exact qai _),qaM (by rw[e.len]; exact qai _)]
 | y :: r,i+1,x,h=>by
  have h1:(i+1)* e.n=e.n+i * e.n:=by rw[qaO,qbV,Nat.add_comm]
  rw[qay,qaZ,h1,List.drop_append,e.len,qbA (by rw[e.len]; omega),qbb,show e.n+i * e.n - e.n=i * e.n by omega];exact zoJ (by simpa using h)
theorem ztr{e:En α}{n:Nat}(hn:n=e.n){xs:List α}{i:Int}{x:α}(h:za4 xs i=some x):i.toNat * n+n≤xs.length * n:=by
 have h1:=(qac.1 (zjM h)).1;rw[← qbp];exact qat n h1
theorem zp8{e:En α}{n:Nat}(hn:n=e.n){xs:List α}{i:Int}{x:α}(h:za4 xs i=some x){t:Bool}{ds:List D}(hd:ds=(xs.map (e.c t)).flatten):(ds.drop (i.toNat * n)).take n=e.c t x:=by
 subst hn hd;exact zoJ (zjM h)
end Go.Dc
