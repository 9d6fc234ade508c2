/-
 The machine with an oracle. Conditions: none.
-/
import Derived.Test.YtnfgibomhkbcpaaFgJ18
set_option linter.unusedSimpArgs false
set_option linter.unusedVariables false
namespace Go.Mx
open Go
abbrev Orc:=Nat→Nat→List V→zan→Option (CR×zan)
def zgo(P:Program)(orc:Orc):Prop:=∀ B f args h cr h',orc B f args h=some (cr,h')→zhP P B f args h cr h'∧zaq B h h'
def zo1{α:Type}(x:Option α)(y:Option α):Option α:=match x with | some v=>some v | none=>y
def zqc(orc:Orc)(fns:Nat→Option Fn):Nat→Rec
 | 0=>Rec.none
 | n+1=>⟨exec (zqc orc fns n),fun B f args h=>zo1 (orc B f args h) (zhz (zqc orc fns n) fns B f args h),zmO (zqc orc fns n) fns⟩
theorem zob{P:Program}(hm:P.follows .mixedOrders=true){fns:Nat→Option Fn}(hfns:∀ f fn,fns f=some fn→zmE P f fn){orc:Orc}(ho:zgo P orc):∀ n,RecOk P (zqc orc fns n)
 | 0=>⟨fun _ _ _ _ _ _ h=>(by cases h),fun _ _ _ _ _ _ h=>(by cases h),fun _ _ _ _ _ _ _ h=>(by cases h)⟩
 | n+1=>by
  have hr:=zob hm hfns ho n;refine⟨fun B rd c S ex S' h=>⟨?_,fun hB=>zaX hr c S S' ex h hB hB⟩,fun B f args h cr h' hc=>?_,fun B f args pv h pv' h' hc=>⟨zk5 hm hr hfns hc,zkF hr hc⟩⟩
  ·intro N code w1 ι a w rb hcomp hF hrd;subst hcomp;exact zbQ hm hr code S S' ex w1 ι a w rb h hF hrd
  simp only[zqc]at hc;cases hx:orc B f args h with
  | some y=>rw[hx]at hc; cases hc; exact ho _ _ _ _ _ _ hx
  | none=>rw[hx]at hc; exact zk4 hm hr hfns hc
end Go.Mx
