/-
 The machine with an oracle. Conditions: none.
-/
import Derived.Test.YtbjogdohfhdaiaaGreatErMx14
set_option linter.unusedSimpArgs false
set_option linter.unusedVariables false
namespace Go.Mx
open Go
abbrev Orc:=Nat->Nat->List V->zam->Option (CR×zam)
def zhv(P:Program)(orc:Orc):Prop:=∀ B f args h cr h',orc B f args h=some (cr,h')->zgb P B f args h cr h'/\zaG B h h'
def zjH{α:Type}(x:Option α)(y:Option α):Option α:=match x with | some v=>some v | none=>y
def zvl(orc:Orc)(fns:Nat->Option Fn):Nat->Rec
 | 0=>Rec.none
 | n+1=>⟨exec (zvl orc fns n),λB f args h=>zjH (orc B f args h) (zi2 (zvl orc fns n) fns B f args h),zm6 (zvl orc fns n) fns⟩
theorem zn4{P:Program}(hm:P.follows .mixedOrders=true){fns:Nat->Option Fn}(hfns:∀ f fn,fns f=some fn->znE P f fn){orc:Orc}(ho:zhv P orc):∀ n,RecOk P (zvl orc fns n)
 | 0=>⟨λ_ _ _ _ _ _ h=>(by cases h),λ_ _ _ _ _ _ h=>(by cases h),λ_ _ _ _ _ _ _ h=>(by cases h)⟩
 | n+1=>by
  have hr:=zn4 hm hfns ho n;refine⟨λB rd c S ex S' h=>⟨?_,λhB=>zbH hr c S S' ex h hB hB⟩,λB f args h cr h' hc=>?_,λB f args pv h pv' h' hc=>⟨zqr hm hr hfns hc,zqB hr hc⟩⟩
  .intro N code w1 ι a w rb hcomp hF hrd;subst hcomp;exact zcR hm hr code S S' ex w1 ι a w rb h hF hrd
  simp only[zvl]at hc;cases hx:orc B f args h with
  | some y=>rw[hx]at hc; cases hc; exact ho _ _ _ _ _ _ hx
  | none=>rw[hx]at hc; exact zqD hm hr hfns hc
theorem zqT{P:Program}{f:Nat}(hb:zhp P f=true)(hc:∀ w:World,Calls P f #[] w λe w'=>e=.returned (.bool true)/\Go.RowKit.Below w.heap.size w w')(B:Nat)(h:zam):
  zgb P B f [] h (.ret (.lit (.bool true))) h/\zaG B h h:=by
 refine⟨⟨λw1 ι w vs hS ha=>⟨hb,?_⟩,λ_ w1 ι w vs hS ha=>?_⟩,zaG.refl _ _⟩
 all_goals
  have hvs:vs = #[]:=Array.eq_empty_of_size_eq_zero (by simpa using ha.1);subst hvs;have:CallsIn Fence.wide 0 P f #[] w λe w'=>e=.returned (.bool true)/\Go.RowKit.Below w.heap.size w w':=callsIn_wide.2 (hc w)
 .exact CallsIn.mono this λe w' hp=>⟨ι,Io.le.refl _,hS.still hp.2,_,hp.1,.lit _⟩
 exact CallsIn.mono this λe w' hp=>⟨⟨ι,Io.le.refl _,hS.still hp.2,_,hp.1,.lit _⟩,.zbX hp.2⟩
end Go.Mx
