/-
 Calls of functions that hand back lists of their own. Conditions: none.
-/
import Derived.Test.YtbjogdohfhdaiaaCaDc1
import Derived.Test.YtbjogdohfhdaiaaCaLy17
set_option linter.unusedSimpArgs false
set_option linter.unusedVariables false
namespace Go.Dc
open Go Go.Mx Go.Lx
def zwB:List D->Prop
 | []=>True
 | d :: r=>d.okT/\zwB r
theorem zlM:∀ {ds:List D},zwB ds->∀ d∈ds,d.okT
 | [],_,d,h=>by cases h
 | e :: r,hs,d,h=>by
  rcases qa2.1 h with rfl | h
  .exact hs.1
  exact zlM hs.2 d h
def zxl:List LB->Prop
 | []=>True
 | d :: r=>d.okT/\zxl r
theorem zl0:∀ {ds:List LB},zxl ds->∀ d∈ds,d.okT
 | [],_,d,h=>by cases h
 | e :: r,hs,d,h=>by
  rcases qa2.1 h with rfl | h
  .exact hs.1
  exact zl0 hs.2 d h
theorem zud{α:Type}{t:Bool}{n:Nat}(e:En α)(h:∀ x,D.frs (e.c t x))(xs:List α):(LB.grow n (xs.map (e.c t))).okT:=by
 intro cells hc;obtain⟨x,_,rfl⟩:=qa4.1 hc;exact h x
theorem EvL.fnT{fns:Mach}{k0:Nat}{Q:LX->LSt->Prop}{S:LSt}{bar e:Bool}{k:List K}{d:Option Nat}{f:Nat}{xs:List X}{g:Option (Nat×Bool)}{l:List O}{ds args rs:List D}{Ls L':List LB}{r:D}(hf:FnT fns f args rs Ls)
  (hw:za3 S.env g=some true) (hx:zfG S.env xs=some ds) (hz:Mzs S.heap (λ_=>false) ds args) (hfr:D.frs args) (hT:zwB rs) (hL:zxl Ls) (hr:zca (rs.map (D.sh S.heap.length))=r) (hh:S.heap ++ Ls=L')
  (hk:wp fns k0 (.ops bar e l :: k) (LSt.put ⟨S.N,S.env,L'⟩ d r) Q):EvL fns k0 (.ops bar e (⟨d,.call f xs,g⟩:: l):: k) S Q:=by
 refine EvL.call (Qp1:=λ_ _=>False) hw hx (λc B H vs hH hB hv=>(hf.call hfr (zlM hT) (zl0 hL) (zlx bar _) (λ_ _=>False)) c B H vs hH hB ⟨by rw[<- hz.len]; exact hv.1,λi d' v h1 h2=>?_⟩) (λq M h=>by obtain⟨rfl,rfl⟩:=h; rw[hr,hh]; exact hk) λ_ _ h=>h.elim
 have hi:=(qaa.1 h1).1;have hi0:ds[i]? = some (ds[i]'(by have:=hz.len; omega)):=qad _;have hm:=zig (kp:=λ_=>true) hH (hz.get i _ d' hi0 h1) (Und.refl c) (hv.2 i _ v hi0 h2);rw[zog]at hm;exact hm.zpK hH.apart
end Go.Dc
