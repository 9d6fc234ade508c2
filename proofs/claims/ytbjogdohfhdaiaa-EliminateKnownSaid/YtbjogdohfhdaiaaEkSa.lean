/-
 Closing: what the laws of this seat have in common. Conditions: none.
-/
import Derived.Test.YtbjogdohfhdaiaaEkDm
import Derived.Test.YtbjogdohfhdaiaaEkJ7
import Derived.Test.YtbjogdohfhdaiaaEkFct
set_option linter.unusedSimpArgs false
set_option linter.unusedVariables false
set_option maxRecDepth 100000
namespace Go.Proofs.Ytbjogdohfhdaiaa.S
open Go Go.Mx Go.Lx Go.Dc Go.ChangeShapes Go.WideShapes Go.ChangeAt Go.RowKit
theorem own:ownKnob Try.prog.godebug=none:=by kernel_rfl
theorem laidOut:laidOutB Try.prog=true:=zqS
theorem zq9:zhN Try.prog Dc.zsO:=by
 intro B f args h cr h' ho;unfold Dc.zsO at ho;cases args with
 | cons a r=>exact zq6 _ _ _ _ _ _ ho
 | nil=>cases ho
theorem mixed:Try.prog.follows .mixedOrders=true:=by kernel_rfl
theorem zrW:∀ f fn,mC.fns f=some fn→znZ Try.prog f fn:=by
 intro f fn h;have hp:=zrE (P:=Try.prog) (f:=f) h;have he:({ fn with p:=false }:Mx.Fn)=fn:=by
  cases fn;simp only at hp;subst hp;rfl
 unfold znZ;rw[he];exact h
theorem zt9{H:Type}{enc:TypeId×Value→H}{w:World}{f g b0:Nat}{ts:List TypeId}{args:Array Value}{ds:List (DataW H)}{ps:List MemPlace}
  (hv:∀(j:Nat) t v,ts[j]? = some t→args[j]? = some v→Value.okWide Try.prog w .any b0 t v) (hd:DataW.TrodAll enc Try.prog w 0 (fun _=>true) true ts args.toList ds ps) (hf:∀ t∈ts,(ze0 Try.prog g t).isSome=true)
  (hF:∀ es,ShAs Try.prog g ts es→Lx.Fn mC f es (.lit (.bool true))):Calls Try.prog f args w fun e w'=>e=.returned (.bool true)∧Below w.heap.size w w':=
 zoP mixed zrW zq9 hv hd hf hF
end Go.Proofs.Ytbjogdohfhdaiaa.S
