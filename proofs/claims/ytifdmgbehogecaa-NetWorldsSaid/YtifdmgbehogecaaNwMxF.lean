/-
 The machine with an oracle. Conditions: none.
-/
import Derived.Test.YtifdmgbehogecaaNwJ17
set_option linter.unusedSimpArgs false
set_option linter.unusedVariables false
namespace Go.Mx
open Go
abbrev Orc:=Nat→Nat→List V→zap→Option (CR×zap)
def zqq(P:Program)(orc:Orc):Prop:=∀ B f args h cr h',orc B f args h=some (cr,h')→ziR P B f args h cr h'∧zaD B h h'
def zwG{α:Type}(x:Option α)(y:Option α):Option α:=match x with | some v=>some v | none=>y
def zrd(orc:Orc)(fns:Nat→Option Fn):Nat→Rec
 | 0=>Rec.none
 | n+1=>⟨exec (zrd orc fns n),fun B f args h=>zwG (orc B f args h) (zhi (zrd orc fns n) fns B f args h),zmk (zrd orc fns n) fns⟩
theorem zmz{P:Program}(hm:P.follows .mixedOrders=true){fns:Nat→Option Fn}(hfns:∀ f fn,fns f=some fn→znv P f fn){orc:Orc}(ho:zqq P orc):∀ n,RecOk P (zrd orc fns n)
 | 0=>⟨fun _ _ _ _ _ _ h=>(by cases h),fun _ _ _ _ _ _ h=>(by cases h),fun _ _ _ _ _ _ _ h=>(by cases h)⟩
 | n+1=>by
  have hr:=zmz hm hfns ho n;refine⟨fun B rd c S ex S' h=>⟨?_,fun hB=>za3 hr c S S' ex h hB hB⟩,fun B f args h cr h' hc=>?_,fun B f args pv h pv' h' hc=>⟨zl7 hm hr hfns hc,zmL hr hc⟩⟩
  ·intro N code w1 ι a w rb hcomp hF hrd;subst hcomp;exact zbW hm hr code S S' ex w1 ι a w rb h hF hrd
  simp only[zrd]at hc;cases hx:orc B f args h with
  | some y=>rw[hx]at hc; cases hc; exact ho _ _ _ _ _ _ hx
  | none=>rw[hx]at hc; exact zmv hm hr hfns hc
theorem zlY{P:Program}{f:Nat}(hb:zfz P f=true)(hc:∀ w:World,Calls P f #[] w fun e w'=>e=.returned (.bool true)∧Go.RowKit.Below w.heap.size w w')(B:Nat)(h:zap):
  ziR P B f [] h (.ret (.lit (.bool true))) h∧zaD B h h:=by
 refine⟨fun w1 ι w vs hS ha=>⟨hb,?_⟩,zaD.refl _ _⟩;have hvs:vs = #[]:=Array.eq_empty_of_size_eq_zero (by simpa using ha.1);subst hvs;have:CallsIn Fence.wide 0 P f #[] w fun e w'=>e=.returned (.bool true)∧Go.RowKit.Below w.heap.size w w':=callsIn_wide.2 (hc w)
 exact CallsIn.mono this fun e w' hp=>⟨ι,Io.le.refl _,hS.still hp.2,_,hp.1,.lit _⟩
end Go.Mx
