/-
 Closing: what the laws of this seat have in common. Conditions: none.
-/
import Derived.Test.YtcfdkhbflhdjeaaNcWk5
import Derived.Test.YtcfdkhbflhdjeaaNcDm
import Derived.Test.YtcfdkhbflhdjeaaNcJ9
import Derived.Test.YtcfdkhbflhdjeaaNcFct
set_option linter.unusedSimpArgs false
set_option linter.unusedVariables false
set_option maxRecDepth 100000
namespace Go.Proofs.Ytcfdkhbflhdjeaa.S
open Go Go.Mx Go.Lx Go.Dc Go.ChangeShapes Go.WideShapes Go.ChangeAt Go.RowKit
theorem own:ownKnob Try.prog.godebug=none:=by kernel_rfl
theorem laidOut:laidOutB Try.prog=true:=zsw
theorem ztJ:zqI Try.prog Dc.zus:=by
 intro B f args h cr h' ho;unfold Dc.zus at ho;cases args with
 | cons a r=>cases ho
 | nil=>
  simp only at ho;cases hf:Nat.beq f 5 with
  | false=>rw[hf]at ho; cases ho
  | true=>
   rw[hf]at ho;have:=qbQ hf;subst this;cases ho;exact zl4 (by kernel_rfl) W.zlE B h
theorem zva:∀ f fn,mC.fns f=some fn→zms Try.prog f fn:=by
 intro f fn h;have hp:=zoz (P:=Try.prog) (f:=f) h;have he:({ fn with p:=false }:Mx.Fn)=fn:=by
  cases fn;simp only at hp;subst hp;rfl
 unfold zms;rw[he];exact h
theorem zxd{H:Type}{enc:TypeId×Value→H}{w:World}{f g b0:Nat}{ts:List TypeId}{args:Array Value}{ds:List (DataW H)}{ps:List MemPlace}
  (hv:∀(j:Nat) t v,ts[j]? = some t→args[j]? = some v→Value.okWide Try.prog w .any b0 t v) (hd:DataW.TrodAll enc Try.prog w 0 (fun _=>true) true ts args.toList ds ps) (hf:∀ t∈ts,(zdC Try.prog g t).isSome=true)
  (hF:∀ es,ShAs Try.prog g ts es→Lx.Fn mC f es (.lit (.bool true))):Calls Try.prog f args w fun e w'=>e=.returned (.bool true)∧Below w.heap.size w w':=
 zqk W.mixed zva ztJ hv hd hf hF
theorem zg6{n:Int}(h:okI .u8 n):0≤n∧n≤255:=by
 simpa [okI,Lit.wf,IntKind.has,IntKind.min,IntKind.max,IntKind.signed,IntKind.bits]using h
end Go.Proofs.Ytcfdkhbflhdjeaa.S
