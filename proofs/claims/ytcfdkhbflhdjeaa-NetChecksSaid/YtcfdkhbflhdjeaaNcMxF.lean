/-
 The machine with an oracle. Conditions: none.
-/
import Derived.Test.YtcfdkhbflhdjeaaNcJ16
set_option linter.unusedSimpArgs false
set_option linter.unusedVariables false
namespace Go.Mx
open Go
abbrev Orc:=Nat→Nat→List V→zap→Option (CR×zap)
def zqI(P:Program)(orc:Orc):Prop:=∀ B f args h cr h',orc B f args h=some (cr,h')→ziB P B f args h cr h'∧zaE B h h'
def zwa{α:Type}(x:Option α)(y:Option α):Option α:=match x with | some v=>some v | none=>y
def zqP(orc:Orc)(fns:Nat→Option Fn):Nat→Rec
 | 0=>Rec.none
 | n+1=>⟨exec (zqP orc fns n),fun B f args h=>zwa (orc B f args h) (zhA (zqP orc fns n) fns B f args h),zll (zqP orc fns n) fns⟩
theorem zlX{P:Program}(hm:P.follows .mixedOrders=true){fns:Nat→Option Fn}(hfns:∀ f fn,fns f=some fn→zms P f fn){orc:Orc}(ho:zqI P orc):∀ n,RecOk P (zqP orc fns n)
 | 0=>⟨fun _ _ _ _ _ _ h=>(by cases h),fun _ _ _ _ _ _ h=>(by cases h),fun _ _ _ _ _ _ _ h=>(by cases h)⟩
 | n+1=>by
  have hr:=zlX hm hfns ho n;refine⟨fun B rd c S ex S' h=>⟨?_,fun hB=>zaZ hr c S S' ex h hB hB⟩,fun B f args h cr h' hc=>?_,fun B f args pv h pv' h' hc=>⟨zl9 hm hr hfns hc,zmj hr hc⟩⟩
  ·intro N code w1 ι a w rb hcomp hF hrd;subst hcomp;exact zbN hm hr code S S' ex w1 ι a w rb h hF hrd
  simp only[zqP]at hc;cases hx:orc B f args h with
  | some y=>rw[hx]at hc; cases hc; exact ho _ _ _ _ _ _ hx
  | none=>rw[hx]at hc; exact zlw hm hr hfns hc
theorem zl4{P:Program}{f:Nat}(hb:zfq P f=true)(hc:∀ w:World,Calls P f #[] w fun e w'=>e=.returned (.bool true)∧Go.RowKit.Below w.heap.size w w')(B:Nat)(h:zap):
  ziB P B f [] h (.ret (.lit (.bool true))) h∧zaE B h h:=by
 refine⟨fun w1 ι w vs hS ha=>⟨hb,?_⟩,zaE.refl _ _⟩;have hvs:vs = #[]:=Array.eq_empty_of_size_eq_zero (by simpa using ha.1);subst hvs;have:CallsIn Fence.wide 0 P f #[] w fun e w'=>e=.returned (.bool true)∧Go.RowKit.Below w.heap.size w w':=callsIn_wide.2 (hc w)
 exact CallsIn.mono this fun e w' hp=>⟨ι,Io.le.refl _,hS.still hp.2,_,hp.1,.lit _⟩
end Go.Mx
