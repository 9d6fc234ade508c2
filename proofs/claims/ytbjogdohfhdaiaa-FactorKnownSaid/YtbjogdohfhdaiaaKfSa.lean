/-
 Closing: what the laws of this seat have in common. Conditions: none.
-/
import Derived.Test.YtbjogdohfhdaiaaKfDm
import Derived.Test.YtbjogdohfhdaiaaKfJ5
import Derived.Test.YtbjogdohfhdaiaaKfFct
set_option linter.unusedSimpArgs false
set_option linter.unusedVariables false
set_option maxRecDepth 100000
namespace Go.Proofs.Ytbjogdohfhdaiaa.S
open Go Go.Mx Go.Lx Go.Dc Go.ChangeShapes Go.WideShapes Go.ChangeAt Go.RowKit
theorem own:ownKnob Try.prog.godebug=none:=by kernel_rfl
theorem laidOut:laidOutB Try.prog=true:=zpJ
theorem zqE:zf8 Try.prog Dc.zrS:=by
 intro B f args h cr h' ho;unfold Dc.zrS at ho;cases args with
 | cons a r=>exact zqH _ _ _ _ _ _ ho
 | nil=>cases ho
theorem mixed:Try.prog.follows .mixedOrders=true:=by kernel_rfl
theorem zq8:∀ f fn,mC.fns f=some fn→zml Try.prog f fn:=by
 intro f fn h;have hp:=zpW (P:=Try.prog) (f:=f) h;have he:({ fn with p:=false }:Mx.Fn)=fn:=by
  cases fn;simp only at hp;subst hp;rfl
 unfold zml;rw[he];exact h
theorem zsW{H:Type}{enc:TypeId×Value→H}{w:World}{f g b0:Nat}{ts:List TypeId}{args:Array Value}{ds:List (DataW H)}{ps:List MemPlace}
  (hv:∀(j:Nat) t v,ts[j]? = some t→args[j]? = some v→Value.okWide Try.prog w .any b0 t v) (hd:DataW.TrodAll enc Try.prog w 0 (fun _=>true) true ts args.toList ds ps) (hf:∀ t∈ts,(zdM Try.prog g t).isSome=true)
  (hF:∀ es,ShAs Try.prog g ts es→Lx.Fn mC f es (.lit (.bool true))):Calls Try.prog f args w fun e w'=>e=.returned (.bool true)∧Below w.heap.size w w':=
 zm8 mixed zq8 zqE hv hd hf hF
end Go.Proofs.Ytbjogdohfhdaiaa.S
