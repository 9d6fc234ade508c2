/-
 Calls of functions that hand back lists of their own. Conditions: none.
-/
import Derived.Test.YtbjogdohfhdaiaaEkDc1
import Derived.Test.YtbjogdohfhdaiaaEkLy17
set_option linter.unusedSimpArgs false
set_option linter.unusedVariables false
namespace Go.Dc
open Go Go.Mx Go.Lx
def ztD:List D→Prop
 | []=>True
 | d :: r=>d.okT∧ztD r
theorem zm7:∀ {ds:List D},ztD ds→∀ d∈ds,d.okT
 | [],_,d,h=>by cases h
 | e :: r,hs,d,h=>by
  rcases qa0.1 h with rfl | h
  ·exact hs.1
  exact zm7 hs.2 d h
def ztx:List LB→Prop
 | []=>True
 | d :: r=>d.okT∧ztx r
theorem zmQ:∀ {ds:List LB},ztx ds→∀ d∈ds,d.okT
 | [],_,d,h=>by cases h
 | e :: r,hs,d,h=>by
  rcases qa0.1 h with rfl | h
  ·exact hs.1
  exact zmQ hs.2 d h
theorem zop{α:Type}{t:Bool}{n:Nat}(e:En α)(h:∀ x,D.frs (e.c t x))(xs:List α):(LB.grow n (xs.map (e.c t))).okT:=by
 intro cells hc;obtain⟨x,_,rfl⟩:=qaU.1 hc;exact h x
theorem EvL.fnT{fns:Mach}{k0:Nat}{Q:LX→LSt→Prop}{S:LSt}{bar e:Bool}{k:List K}{d:Option Nat}{f:Nat}{xs:List X}{g:Option (Nat×Bool)}{l:List O}{ds args rs:List D}{Ls L':List LB}{r:D}(hf:FnT fns f args rs Ls)
  (hw:zaX S.env g=some true) (hx:zgn S.env xs=some ds) (hz:Mzs S.heap (fun _=>false) ds args) (hfr:D.frs args) (hT:ztD rs) (hL:ztx Ls) (hr:zdO (rs.map (D.sh S.heap.length))=r) (hh:S.heap ++ Ls=L')
  (hk:wp fns k0 (.ops bar e l :: k) (LSt.put ⟨S.N,S.env,L'⟩ d r) Q):EvL fns k0 (.ops bar e (⟨d,.call f xs,g⟩:: l):: k) S Q:=by
 refine EvL.call (Qp1:=fun _ _=>False) hw hx (fun c B H vs hH hB hv=>(hf.call hfr (zm7 hT) (zmQ hL) (zmk bar _) (fun _ _=>False)) c B H vs hH hB ⟨by rw[← hz.len]; exact hv.1,fun i d' v h1 h2=>?_⟩) (fun q M h=>by obtain⟨rfl,rfl⟩:=h; rw[hr,hh]; exact hk) fun _ _ h=>h.elim
 have hi:=(qab.1 h1).1;have hi0:ds[i]? = some (ds[i]'(by have:=hz.len; omega)):=qaf _;have hm:=zjV (kp:=fun _=>true) hH (hz.get i _ d' hi0 h1) (Und.refl c) (hv.2 i _ v hi0 h2);rw[zor]at hm;exact hm.zol hH.apart
end Go.Dc
