/-
 The machine with an oracle. Conditions: none.
-/
import Derived.Test.YtbjogdohfhdaiaaEkJ14
set_option linter.unusedSimpArgs false
set_option linter.unusedVariables false
namespace Go.Mx
open Go
abbrev Orc:=Nat→Nat→List V→zas→Option (CR×zas)
def zhN(P:Program)(orc:Orc):Prop:=∀ B f args h cr h',orc B f args h=some (cr,h')→zjL P B f args h cr h'∧zaz B h h'
def zpM{α:Type}(x:Option α)(y:Option α):Option α:=match x with | some v=>some v | none=>y
def zqZ(orc:Orc)(fns:Nat→Option Fn):Nat→Rec
 | 0=>Rec.none
 | n+1=>⟨exec (zqZ orc fns n),fun B f args h=>zpM (orc B f args h) (ziy (zqZ orc fns n) fns B f args h),zlf (zqZ orc fns n) fns⟩
theorem zov{P:Program}(hm:P.follows .mixedOrders=true){fns:Nat→Option Fn}(hfns:∀ f fn,fns f=some fn→znZ P f fn){orc:Orc}(ho:zhN P orc):∀ n,RecOk P (zqZ orc fns n)
 | 0=>⟨fun _ _ _ _ _ _ h=>(by cases h),fun _ _ _ _ _ _ h=>(by cases h),fun _ _ _ _ _ _ _ h=>(by cases h)⟩
 | n+1=>by
  have hr:=zov hm hfns ho n;refine⟨fun B rd c S ex S' h=>⟨?_,fun hB=>zbf hr c S S' ex h hB hB⟩,fun B f args h cr h' hc=>?_,fun B f args pv h pv' h' hc=>⟨zmA hm hr hfns hc,zmw hr hc⟩⟩
  ·intro N code w1 ι a w rb hcomp hF hrd;subst hcomp;exact zco hm hr code S S' ex w1 ι a w rb h hF hrd
  simp only[zqZ]at hc;cases hx:orc B f args h with
  | some y=>rw[hx]at hc; cases hc; exact ho _ _ _ _ _ _ hx
  | none=>rw[hx]at hc; exact zmg hm hr hfns hc
end Go.Mx
