/-
 Arrays of structs: an element at a place that is not known. Conditions: none.
-/
import Derived.Test.YtnfgibomhkbcpaaFpDc4
set_option linter.unusedSimpArgs false
set_option linter.unusedVariables false
namespace Go.Dc
open Go Go.Mx Go.Lx
variable {α:Type}
theorem zp5{e:En α}{t:Bool}:∀ {xs:List α} {i:Nat} {x:α},xs[i]? = some x→(((xs.map (e.c t)).flatten.drop (i * e.n)).take e.n)=e.c t x
 | y :: r,0,x,h=>by
  simp at h;subst h;rw[qbe,qaP,qaz,qa4,List.take_append_of_le_length (by rw[e.len]; exact qaj _),qaJ (by rw[e.len]; exact qaj _)]
 | y :: r,i+1,x,h=>by
  have h1:(i+1)* e.n=e.n+i * e.n:=by rw[qaN,qbt,Nat.add_comm]
  rw[qaz,qa4,h1,List.drop_append,e.len,qca (by rw[e.len]; omega),qa5,show e.n+i * e.n - e.n=i * e.n by omega];exact zp5 (by simpa using h)
theorem ztF{e:En α}{n:Nat}(hn:n=e.n){xs:List α}{i:Int}{x:α}(h:za0 xs i=some x):i.toNat * n+n≤xs.length * n:=by
 have h1:=(qac.1 (zjh h)).1;rw[← qbr];exact qar n h1
theorem zq0{e:En α}{n:Nat}(hn:n=e.n){xs:List α}{i:Int}{x:α}(h:za0 xs i=some x){t:Bool}{ds:List D}(hd:ds=(xs.map (e.c t)).flatten):(ds.drop (i.toNat * n)).take n=e.c t x:=by
 subst hn hd;exact zp5 (zjh h)
end Go.Dc
