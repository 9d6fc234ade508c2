/-
 The machine with an oracle. Conditions: none.
-/
import Derived.Test.YtnfgibomhkbcpaaFkJ17
set_option linter.unusedSimpArgs false
set_option linter.unusedVariables false
namespace Go.Mx
open Go
abbrev Orc:=Nat→Nat→List V→zao→Option (CR×zao)
def zgT(P:Program)(orc:Orc):Prop:=∀ B f args h cr h',orc B f args h=some (cr,h')→ziw P B f args h cr h'∧zaw B h h'
def zp2{α:Type}(x:Option α)(y:Option α):Option α:=match x with | some v=>some v | none=>y
def zq7(orc:Orc)(fns:Nat→Option Fn):Nat→Rec
 | 0=>Rec.none
 | n+1=>⟨exec (zq7 orc fns n),fun B f args h=>zp2 (orc B f args h) (zhZ (zq7 orc fns n) fns B f args h),znI (zq7 orc fns n) fns⟩
theorem zoQ{P:Program}(hm:P.follows .mixedOrders=true){fns:Nat→Option Fn}(hfns:∀ f fn,fns f=some fn→zne P f fn){orc:Orc}(ho:zgT P orc):∀ n,RecOk P (zq7 orc fns n)
 | 0=>⟨fun _ _ _ _ _ _ h=>(by cases h),fun _ _ _ _ _ _ h=>(by cases h),fun _ _ _ _ _ _ _ h=>(by cases h)⟩
 | n+1=>by
  have hr:=zoQ hm hfns ho n;refine⟨fun B rd c S ex S' h=>⟨?_,fun hB=>za9 hr c S S' ex h hB hB⟩,fun B f args h cr h' hc=>?_,fun B f args pv h pv' h' hc=>⟨zlc hm hr hfns hc,zlk hr hc⟩⟩
  ·intro N code w1 ι a w rb hcomp hF hrd;subst hcomp;exact zbT hm hr code S S' ex w1 ι a w rb h hF hrd
  simp only[zq7]at hc;cases hx:orc B f args h with
  | some y=>rw[hx]at hc; cases hc; exact ho _ _ _ _ _ _ hx
  | none=>rw[hx]at hc; exact zlT hm hr hfns hc
end Go.Mx
