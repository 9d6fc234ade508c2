/-
 The machine with an oracle. Conditions: none.
-/
import Derived.Test.YtnfgibomhkbcpaaFvJ19
set_option linter.unusedSimpArgs false
set_option linter.unusedVariables false
namespace Go.Mx
open Go
abbrev Orc:=Nat→Nat→List V→zao→Option (CR×zao)
def zgu(P:Program)(orc:Orc):Prop:=∀ B f args h cr h',orc B f args h=some (cr,h')→zh3 P B f args h cr h'∧zar B h h'
def zo2{α:Type}(x:Option α)(y:Option α):Option α:=match x with | some v=>some v | none=>y
def zp4(orc:Orc)(fns:Nat→Option Fn):Nat→Rec
 | 0=>Rec.none
 | n+1=>⟨exec (zp4 orc fns n),fun B f args h=>zo2 (orc B f args h) (zhu (zp4 orc fns n) fns B f args h),zmj (zp4 orc fns n) fns⟩
theorem znY{P:Program}(hm:P.follows .mixedOrders=true){fns:Nat→Option Fn}(hfns:∀ f fn,fns f=some fn→zmS P f fn){orc:Orc}(ho:zgu P orc):∀ n,RecOk P (zp4 orc fns n)
 | 0=>⟨fun _ _ _ _ _ _ h=>(by cases h),fun _ _ _ _ _ _ h=>(by cases h),fun _ _ _ _ _ _ _ h=>(by cases h)⟩
 | n+1=>by
  have hr:=znY hm hfns ho n;refine⟨fun B rd c S ex S' h=>⟨?_,fun hB=>zaZ hr c S S' ex h hB hB⟩,fun B f args h cr h' hc=>?_,fun B f args pv h pv' h' hc=>⟨zlr hm hr hfns hc,zlp hr hc⟩⟩
  ·intro N code w1 ι a w rb hcomp hF hrd;subst hcomp;exact zbS hm hr code S S' ex w1 ι a w rb h hF hrd
  simp only[zp4]at hc;cases hx:orc B f args h with
  | some y=>rw[hx]at hc; cases hc; exact ho _ _ _ _ _ _ hx
  | none=>rw[hx]at hc; exact zlh hm hr hfns hc
end Go.Mx
