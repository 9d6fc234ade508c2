/-
 The machine with an oracle. Conditions: none.
-/
import Derived.Test.YtnfgibomhkbcpaaFrJ16
set_option linter.unusedSimpArgs false
set_option linter.unusedVariables false
namespace Go.Mx
open Go
abbrev Orc:=Nat→Nat→List V→zao→Option (CR×zao)
def zhg(P:Program)(orc:Orc):Prop:=∀ B f args h cr h',orc B f args h=some (cr,h')→ziR P B f args h cr h'∧zax B h h'
def zqw{α:Type}(x:Option α)(y:Option α):Option α:=match x with | some v=>some v | none=>y
def zrI(orc:Orc)(fns:Nat→Option Fn):Nat→Rec
 | 0=>Rec.none
 | n+1=>⟨exec (zrI orc fns n),fun B f args h=>zqw (orc B f args h) (zis (zrI orc fns n) fns B f args h),znH (zrI orc fns n) fns⟩
theorem zoE{P:Program}(hm:P.follows .mixedOrders=true){fns:Nat→Option Fn}(hfns:∀ f fn,fns f=some fn→zoj P f fn){orc:Orc}(ho:zhg P orc):∀ n,RecOk P (zrI orc fns n)
 | 0=>⟨fun _ _ _ _ _ _ h=>(by cases h),fun _ _ _ _ _ _ h=>(by cases h),fun _ _ _ _ _ _ _ h=>(by cases h)⟩
 | n+1=>by
  have hr:=zoE hm hfns ho n;refine⟨fun B rd c S ex S' h=>⟨?_,fun hB=>zbf hr c S S' ex h hB hB⟩,fun B f args h cr h' hc=>?_,fun B f args pv h pv' h' hc=>⟨zmj hm hr hfns hc,zmB hr hc⟩⟩
  ·intro N code w1 ι a w rb hcomp hF hrd;subst hcomp;exact zb1 hm hr code S S' ex w1 ι a w rb h hF hrd
  simp only[zrI]at hc;cases hx:orc B f args h with
  | some y=>rw[hx]at hc; cases hc; exact ho _ _ _ _ _ _ hx
  | none=>rw[hx]at hc; exact zmt hm hr hfns hc
end Go.Mx
