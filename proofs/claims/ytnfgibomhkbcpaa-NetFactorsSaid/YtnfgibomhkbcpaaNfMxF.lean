/-
 The machine with an oracle. Conditions: none.
-/
import Derived.Test.YtnfgibomhkbcpaaNfJ26
set_option linter.unusedSimpArgs false
set_option linter.unusedVariables false
namespace Go.Mx
open Go
abbrev Orc:=Nat→Nat→List V→zap→Option (CR×zap)
def zgo(P:Program)(orc:Orc):Prop:=∀ B f args h cr h',orc B f args h=some (cr,h')→zhK P B f args h cr h'∧zay B h h'
def zqT{α:Type}(x:Option α)(y:Option α):Option α:=match x with | some v=>some v | none=>y
def zrM(orc:Orc)(fns:Nat→Option Fn):Nat→Rec
 | 0=>Rec.none
 | n+1=>⟨exec (zrM orc fns n),fun B f args h=>zqT (orc B f args h) (zg2 (zrM orc fns n) fns B f args h),znc (zrM orc fns n) fns⟩
theorem zmE{P:Program}(hm:P.follows .mixedOrders=true){fns:Nat→Option Fn}(hfns:∀ f fn,fns f=some fn→zkC P f fn){orc:Orc}(ho:zgo P orc):∀ n,RecOk P (zrM orc fns n)
 | 0=>⟨fun _ _ _ _ _ _ h=>(by cases h),fun _ _ _ _ _ _ h=>(by cases h),fun _ _ _ _ _ _ _ h=>(by cases h)⟩
 | n+1=>by
  have hr:=zmE hm hfns ho n;refine⟨fun B rd c S ex S' h=>⟨?_,fun hB=>zba hr c S S' ex h hB hB⟩,fun B f args h cr h' hc=>?_,fun B f args pv h pv' h' hc=>⟨znb hm hr hfns hc,zml hr hc⟩⟩
  ·intro N code w1 ι a w rb hcomp hF hrd;subst hcomp;exact zb6 hm hr code S S' ex w1 ι a w rb h hF hrd
  simp only[zrM]at hc;cases hx:orc B f args h with
  | some y=>rw[hx]at hc; cases hc; exact ho _ _ _ _ _ _ hx
  | none=>rw[hx]at hc; exact zm6 hm hr hfns hc
theorem zmP{P:Program}{f:Nat}(hb:zfH P f=true)(hc:∀ w:World,Calls P f #[] w fun e w'=>e=.returned (.bool true)∧Go.RowKit.Below w.heap.size w w')(B:Nat)(h:zap):
  zhK P B f [] h (.ret (.lit (.bool true))) h∧zay B h h:=by
 refine⟨⟨fun w1 ι w vs hS ha=>⟨hb,?_⟩,fun _ w1 ι w vs hS ha=>?_⟩,zay.refl _ _⟩
 all_goals
  have hvs:vs = #[]:=Array.eq_empty_of_size_eq_zero (by simpa using ha.1);subst hvs;have:CallsIn Fence.wide 0 P f #[] w fun e w'=>e=.returned (.bool true)∧Go.RowKit.Below w.heap.size w w':=callsIn_wide.2 (hc w)
 ·exact CallsIn.mono this fun e w' hp=>⟨ι,Io.le.refl _,hS.still hp.2,_,hp.1,.lit _⟩
 exact CallsIn.mono this fun e w' hp=>⟨⟨ι,Io.le.refl _,hS.still hp.2,_,hp.1,.lit _⟩,.zbo hp.2⟩
end Go.Mx
