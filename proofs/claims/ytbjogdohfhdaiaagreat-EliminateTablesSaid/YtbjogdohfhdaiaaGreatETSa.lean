/-
 Closing: what the laws of this seat have in common. Conditions: none.
-/
import Derived.Test.YtbjogdohfhdaiaaGreatETWk5
import Derived.Test.YtbjogdohfhdaiaaGreatETDm
import Derived.Test.YtbjogdohfhdaiaaGreatETJ11
import Derived.Test.YtbjogdohfhdaiaaGreatETFct
set_option linter.unusedSimpArgs false
set_option linter.unusedVariables false
set_option maxRecDepth 100000
namespace Go.Proofs.YtbjogdohfhdaiaaGreat.S
open Go Go.Mx Go.Lx Go.Dc Go.ChangeShapes Go.WideShapes Go.ChangeAt Go.RowKit
theorem own:ownKnob Tryz.prog.godebug=none:=by kernel_rfl
theorem laidOut:laidOutB Tryz.prog=true:=zxZ
theorem zAx:zg3 Tryz.prog Dc.zCb:=by
 intro B f args h cr h' ho;unfold Dc.zCb at ho;cases args with
 | cons a r=>exact ziq _ _ _ _ _ _ ho
 | nil=>
  simp only at ho;cases hf:Nat.beq f 10 with
  | false=>rw[hf]at ho; cases ho
  | true=>
   rw[hf]at ho;have:=qaK hf;subst this;cases ho;exact zp0 (by kernel_rfl) W.zpn B h
theorem zC4:∀ f fn,mC.fns f=some fn->zmV Tryz.prog f fn:=by
 intro f fn h;have hp:=zvi (P:=Tryz.prog) (f:=f) h;have he:({ fn with p:=false }:Mx.Fn)=fn:=by
  cases fn;simp only at hp;subst hp;rfl
 unfold zmV;rw[he];exact h
theorem zF6{H:Type}{enc:TypeId×Value->H}{w:World}{f g b0:Nat}{ts:List TypeId}{args:Array Value}{ds:List (DataW H)}{ps:List MemPlace}
  (hv:∀(j:Nat) t v,ts[j]? = some t->args[j]? = some v->Value.okWide Tryz.prog w .any b0 t v) (hd:DataW.TrodAll enc Tryz.prog w 0 (λ_=>true) true ts args.toList ds ps) (hf:∀ t∈ts,(zeN Tryz.prog g t).isSome=true)
  (hF:∀ es,ShAs Tryz.prog g ts es->Lx.Fn mC f es (.lit (.bool true))):Calls Tryz.prog f args w λe w'=>e=.returned (.bool true)/\Below w.heap.size w w':=
 zuu W.mixed zC4 zAx hv hd hf hF
theorem zkH{n:Int}(h:okI .u8 n):0<=n/\n<=255:=by
 simpa [okI,Lit.wf,IntKind.has,IntKind.min,IntKind.max,IntKind.signed,IntKind.bits]using h
end Go.Proofs.YtbjogdohfhdaiaaGreat.S
