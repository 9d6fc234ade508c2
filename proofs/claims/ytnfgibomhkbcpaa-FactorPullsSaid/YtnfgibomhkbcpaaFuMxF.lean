/-
 The machine with an oracle. Conditions: none.
-/
import Derived.Test.YtnfgibomhkbcpaaFuJ19
set_option linter.unusedSimpArgs false
set_option linter.unusedVariables false
namespace Go.Mx
open Go
abbrev Orc:=Nat→Nat→List V→zao→Option (CR×zao)
def zgK(P:Program)(orc:Orc):Prop:=∀ B f args h cr h',orc B f args h=some (cr,h')→zik P B f args h cr h'∧zau B h h'
def zpU{α:Type}(x:Option α)(y:Option α):Option α:=match x with | some v=>some v | none=>y
def zqS(orc:Orc)(fns:Nat→Option Fn):Nat→Rec
 | 0=>Rec.none
 | n+1=>⟨exec (zqS orc fns n),fun B f args h=>zpU (orc B f args h) (zhZ (zqS orc fns n) fns B f args h),znx (zqS orc fns n) fns⟩
theorem zpN{P:Program}(hm:P.follows .mixedOrders=true){fns:Nat→Option Fn}(hfns:∀ f fn,fns f=some fn→zna P f fn){orc:Orc}(ho:zgK P orc):∀ n,RecOk P (zqS orc fns n)
 | 0=>⟨fun _ _ _ _ _ _ h=>(by cases h),fun _ _ _ _ _ _ h=>(by cases h),fun _ _ _ _ _ _ _ h=>(by cases h)⟩
 | n+1=>by
  have hr:=zpN hm hfns ho n;refine⟨fun B rd c S ex S' h=>⟨?_,fun hB=>za5 hr c S S' ex h hB hB⟩,fun B f args h cr h' hc=>?_,fun B f args pv h pv' h' hc=>⟨zlX hm hr hfns hc,zlU hr hc⟩⟩
  ·intro N code w1 ι a w rb hcomp hF hrd;subst hcomp;exact zbZ hm hr code S S' ex w1 ι a w rb h hF hrd
  simp only[zqS]at hc;cases hx:orc B f args h with
  | some y=>rw[hx]at hc; cases hc; exact ho _ _ _ _ _ _ hx
  | none=>rw[hx]at hc; exact zlZ hm hr hfns hc
end Go.Mx
