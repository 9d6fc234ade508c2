/-
 Closing: what the laws of this seat have in common. Conditions: none.
-/
import Derived.Test.YtbjogdohfhdaiaaCaWk5
import Derived.Test.YtbjogdohfhdaiaaCaDm
import Derived.Test.YtbjogdohfhdaiaaCaJ12
import Derived.Test.YtbjogdohfhdaiaaCaFct
set_option linter.unusedSimpArgs false
set_option linter.unusedVariables false
set_option maxRecDepth 100000
namespace Go.Proofs.Ytbjogdohfhdaiaa.S
open Go Go.Mx Go.Lx Go.Dc Go.ChangeShapes Go.WideShapes Go.ChangeAt Go.RowKit
theorem own:ownKnob Try.prog.godebug=none:=by kernel_rfl
theorem laidOut:laidOutB Try.prog=true:=zsM
theorem zto:zfb Try.prog Dc.zvs:=by
 intro B f args h cr h' ho;unfold Dc.zvs at ho;cases args with
 | cons a r=>exact ztP _ _ _ _ _ _ ho
 | nil=>
  simp only at ho;cases hf:Nat.beq f 8 with
  | false=>rw[hf]at ho; cases ho
  | true=>
   rw[hf]at ho;have:=qbu hf;subst this;cases ho;exact zlm (by kernel_rfl) W.zkR B h
theorem zvZ:∀ f fn,mC.fns f=some fn->zha Try.prog f fn:=by
 intro f fn h;have hp:=zqn (P:=Try.prog) (f:=f) h;have he:({ fn with p:=false }:Mx.Fn)=fn:=by
  cases fn;simp only at hp;subst hp;rfl
 unfold zha;rw[he];exact h
theorem zyu{H:Type}{enc:TypeId×Value->H}{w:World}{f g b0:Nat}{ts:List TypeId}{args:Array Value}{ds:List (DataW H)}{ps:List MemPlace}
  (hv:∀(j:Nat) t v,ts[j]? = some t->args[j]? = some v->Value.okWide Try.prog w .any b0 t v) (hd:DataW.TrodAll enc Try.prog w 0 (λ_=>true) true ts args.toList ds ps) (hf:∀ t∈ts,(zcN Try.prog g t).isSome=true)
  (hF:∀ es,ShAs Try.prog g ts es->Lx.Fn mC f es (.lit (.bool true))):Calls Try.prog f args w λe w'=>e=.returned (.bool true)/\Below w.heap.size w w':=
 zpX W.mixed zvZ zto hv hd hf hF
theorem zhM{n:Int}(h:okI .u8 n):0<=n/\n<=255:=by
 simpa [okI,Lit.wf,IntKind.has,IntKind.min,IntKind.max,IntKind.signed,IntKind.bits]using h
end Go.Proofs.Ytbjogdohfhdaiaa.S
