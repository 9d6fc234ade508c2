/-
 Closing: what the laws of this seat have in common. Conditions: none.
-/
import Derived.Test.YtbjogdohfhdaiaaCfWk5
import Derived.Test.YtbjogdohfhdaiaaCfDm
import Derived.Test.YtbjogdohfhdaiaaCfJ12
import Derived.Test.YtbjogdohfhdaiaaCfFct
set_option linter.unusedSimpArgs false
set_option linter.unusedVariables false
set_option maxRecDepth 100000
namespace Go.Proofs.Ytbjogdohfhdaiaa.S
open Go Go.Mx Go.Lx Go.Dc Go.ChangeShapes Go.WideShapes Go.ChangeAt Go.RowKit
theorem own:ownKnob Try.prog.godebug=none:=by kernel_rfl
theorem laidOut:laidOutB Try.prog=true:=zxi
theorem zyX:zgQ Try.prog Dc.zAc:=by
 intro B f args h cr h' ho;unfold Dc.zAc at ho;cases args with
 | cons a r=>exact zx3 _ _ _ _ _ _ ho
 | nil=>
  simp only at ho;cases hf:Nat.beq f 8 with
  | false=>rw[hf]at ho; cases ho
  | true=>
   rw[hf]at ho;have:=qbT hf;subst this;cases ho;exact znY (by kernel_rfl) W.zn5 B h
theorem zAi:∀ f fn,mC.fns f=some fn->zjd Try.prog f fn:=by
 intro f fn h;have hp:=zuF (P:=Try.prog) (f:=f) h;have he:({ fn with p:=false }:Mx.Fn)=fn:=by
  cases fn;simp only at hp;subst hp;rfl
 unfold zjd;rw[he];exact h
theorem zDN{H:Type}{enc:TypeId×Value->H}{w:World}{f g b0:Nat}{ts:List TypeId}{args:Array Value}{ds:List (DataW H)}{ps:List MemPlace}
  (hv:∀(j:Nat) t v,ts[j]? = some t->args[j]? = some v->Value.okWide Try.prog w .any b0 t v) (hd:DataW.TrodAll enc Try.prog w 0 (λ_=>true) true ts args.toList ds ps) (hf:∀ t∈ts,(zdL Try.prog g t).isSome=true)
  (hF:∀ es,ShAs Try.prog g ts es->Lx.Fn mC f es (.lit (.bool true))):Calls Try.prog f args w λe w'=>e=.returned (.bool true)/\Below w.heap.size w w':=
 zsr W.mixed zAi zyX hv hd hf hF
theorem zjF{n:Int}(h:okI .u8 n):0<=n/\n<=255:=by
 simpa [okI,Lit.wf,IntKind.has,IntKind.min,IntKind.max,IntKind.signed,IntKind.bits]using h
end Go.Proofs.Ytbjogdohfhdaiaa.S
