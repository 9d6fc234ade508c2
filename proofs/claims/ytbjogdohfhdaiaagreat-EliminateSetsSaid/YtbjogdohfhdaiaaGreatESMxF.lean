/-
 The machine with an oracle. Conditions: none.
-/
import Derived.Test.YtbjogdohfhdaiaaGreatESJ22
set_option linter.unusedSimpArgs false
set_option linter.unusedVariables false
namespace Go.Mx
open Go
abbrev Orc:=Nat→Nat→List V→zaj→Option (CR×zaj)
def zfF(P:Program)(orc:Orc):Prop:=∀ B f args h cr h',orc B f args h=some (cr,h')→zeP P B f args h cr h'∧zar B h h'
def zhB{α:Type}(x:Option α)(y:Option α):Option α:=match x with | some v=>some v | none=>y
def ztB(orc:Orc)(fns:Nat→Option Fn):Nat→Rec
 | 0=>Rec.none
 | n+1=>⟨exec (ztB orc fns n),fun B f args h=>zhB (orc B f args h) (zht (ztB orc fns n) fns B f args h),znP (ztB orc fns n) fns⟩
theorem zjV{P:Program}(hm:P.follows .mixedOrders=true){fns:Nat→Option Fn}(hfns:∀ f fn,fns f=some fn→zk6 P f fn){orc:Orc}(ho:zfF P orc):∀ n,RecOk P (ztB orc fns n)
 | 0=>⟨fun _ _ _ _ _ _ h=>(by cases h),fun _ _ _ _ _ _ h=>(by cases h),fun _ _ _ _ _ _ _ h=>(by cases h)⟩
 | n+1=>by
  have hr:=zjV hm hfns ho n;refine⟨fun B rd c S ex S' h=>⟨?_,fun hB=>za9 hr c S S' ex h hB hB⟩,fun B f args h cr h' hc=>?_,fun B f args pv h pv' h' hc=>⟨znl hm hr hfns hc,zns hr hc⟩⟩
  ·intro N code w1 ι a w rb hcomp hF hrd;subst hcomp;exact zbO hm hr code S S' ex w1 ι a w rb h hF hrd
  simp only[ztB]at hc;cases hx:orc B f args h with
  | some y=>rw[hx]at hc; cases hc; exact ho _ _ _ _ _ _ hx
  | none=>rw[hx]at hc; exact znA hm hr hfns hc
theorem znB{P:Program}{f:Nat}(hb:zfy P f=true)(hc:∀ w:World,Calls P f #[] w fun e w'=>e=.returned (.bool true)∧Go.RowKit.Below w.heap.size w w')(B:Nat)(h:zaj):
  zeP P B f [] h (.ret (.lit (.bool true))) h∧zar B h h:=by
 refine⟨⟨fun w1 ι w vs hS ha=>⟨hb,?_⟩,fun _ w1 ι w vs hS ha=>?_⟩,zar.refl _ _⟩
 all_goals
  have hvs:vs = #[]:=Array.eq_empty_of_size_eq_zero (by simpa using ha.1);subst hvs;have:CallsIn Fence.wide 0 P f #[] w fun e w'=>e=.returned (.bool true)∧Go.RowKit.Below w.heap.size w w':=callsIn_wide.2 (hc w)
 ·exact CallsIn.mono this fun e w' hp=>⟨ι,Io.le.refl _,hS.still hp.2,_,hp.1,.lit _⟩
 exact CallsIn.mono this fun e w' hp=>⟨⟨ι,Io.le.refl _,hS.still hp.2,_,hp.1,.lit _⟩,.zbl hp.2⟩
end Go.Mx
