/-
 The machine with an oracle. Conditions: none.
-/
import Derived.Test.YtbjogdohfhdaiaaKfJ12
set_option linter.unusedSimpArgs false
set_option linter.unusedVariables false
namespace Go.Mx
open Go
abbrev Orc:=Nat→Nat→List V→zap→Option (CR×zap)
def zf8(P:Program)(orc:Orc):Prop:=∀ B f args h cr h',orc B f args h=some (cr,h')→zhR P B f args h cr h'∧zax B h h'
def zos{α:Type}(x:Option α)(y:Option α):Option α:=match x with | some v=>some v | none=>y
def zpo(orc:Orc)(fns:Nat→Option Fn):Nat→Rec
 | 0=>Rec.none
 | n+1=>⟨exec (zpo orc fns n),fun B f args h=>zos (orc B f args h) (zhk (zpo orc fns n) fns B f args h),zmv (zpo orc fns n) fns⟩
theorem znz{P:Program}(hm:P.follows .mixedOrders=true){fns:Nat→Option Fn}(hfns:∀ f fn,fns f=some fn→zml P f fn){orc:Orc}(ho:zf8 P orc):∀ n,RecOk P (zpo orc fns n)
 | 0=>⟨fun _ _ _ _ _ _ h=>(by cases h),fun _ _ _ _ _ _ h=>(by cases h),fun _ _ _ _ _ _ _ h=>(by cases h)⟩
 | n+1=>by
  have hr:=znz hm hfns ho n;refine⟨fun B rd c S ex S' h=>⟨?_,fun hB=>za4 hr c S S' ex h hB hB⟩,fun B f args h cr h' hc=>?_,fun B f args pv h pv' h' hc=>⟨zko hm hr hfns hc,zkV hr hc⟩⟩
  ·intro N code w1 ι a w rb hcomp hF hrd;subst hcomp;exact zb1 hm hr code S S' ex w1 ι a w rb h hF hrd
  simp only[zpo]at hc;cases hx:orc B f args h with
  | some y=>rw[hx]at hc; cases hc; exact ho _ _ _ _ _ _ hx
  | none=>rw[hx]at hc; exact zkc hm hr hfns hc
end Go.Mx
