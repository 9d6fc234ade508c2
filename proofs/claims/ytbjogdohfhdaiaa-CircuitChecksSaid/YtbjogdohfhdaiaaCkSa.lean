/-
 Closing: what the laws of this seat have in common. Conditions: none.
-/
import Derived.Test.YtbjogdohfhdaiaaCkWk5
import Derived.Test.YtbjogdohfhdaiaaCkDm
import Derived.Test.YtbjogdohfhdaiaaCkJ5
import Derived.Test.YtbjogdohfhdaiaaCkFct
set_option linter.unusedSimpArgs false
set_option linter.unusedVariables false
set_option maxRecDepth 100000
namespace Go.Proofs.Ytbjogdohfhdaiaa.S
open Go Go.Mx Go.Lx Go.Dc Go.ChangeShapes Go.WideShapes Go.ChangeAt Go.RowKit
theorem own:ownKnob Try.prog.godebug=none:=by kernel_rfl
theorem laidOut:laidOutB Try.prog=true:=zrT
theorem zsg:zfI Try.prog Dc.zuc:=by
 intro B f args h cr h' ho;unfold Dc.zuc at ho;cases args with
 | cons a r=>exact ztb _ _ _ _ _ _ ho
 | nil=>
  simp only at ho;cases hf:Nat.beq f 8 with
  | false=>rw[hf]at ho; cases ho
  | true=>
   rw[hf]at ho;have:=qbp hf;subst this;cases ho;exact zkY (by kernel_rfl) W.zkJ B h
theorem ztL:∀ f fn,mC.fns f=some fn->zju Try.prog f fn:=by
 intro f fn h;have hp:=zoh (P:=Try.prog) (f:=f) h;have he:({ fn with p:=false }:Mx.Fn)=fn:=by
  cases fn;simp only at hp;subst hp;rfl
 unfold zju;rw[he];exact h
theorem zxf{H:Type}{enc:TypeId×Value->H}{w:World}{f g b0:Nat}{ts:List TypeId}{args:Array Value}{ds:List (DataW H)}{ps:List MemPlace}
  (hv:∀(j:Nat) t v,ts[j]? = some t->args[j]? = some v->Value.okWide Try.prog w .any b0 t v) (hd:DataW.TrodAll enc Try.prog w 0 (λ_=>true) true ts args.toList ds ps) (hf:∀ t∈ts,(zc1 Try.prog g t).isSome=true)
  (hF:∀ es,ShAs Try.prog g ts es->Lx.Fn mC f es (.lit (.bool true))):Calls Try.prog f args w λe w'=>e=.returned (.bool true)/\Below w.heap.size w w':=
 zn2 W.mixed ztL zsg hv hd hf hF
theorem zjs{n:Int}(h:okI .u8 n):0<=n/\n<=255:=by
 simpa [okI,Lit.wf,IntKind.has,IntKind.min,IntKind.max,IntKind.signed,IntKind.bits]using h
end Go.Proofs.Ytbjogdohfhdaiaa.S
