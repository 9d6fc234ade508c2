/-
 Closing: what the laws of this seat have in common. Conditions: none.
-/
import Derived.Test.YtbjogdohfhdaiaaGreatENWk5
import Derived.Test.YtbjogdohfhdaiaaGreatENDm
import Derived.Test.YtbjogdohfhdaiaaGreatENJ12
import Derived.Test.YtbjogdohfhdaiaaGreatENFct
set_option linter.unusedSimpArgs false
set_option linter.unusedVariables false
set_option maxRecDepth 100000
namespace Go.Proofs.YtbjogdohfhdaiaaGreat.S
open Go Go.Mx Go.Lx Go.Dc Go.ChangeShapes Go.WideShapes Go.ChangeAt Go.RowKit
theorem own:ownKnob Tryz.prog.godebug=none:=by kernel_rfl
theorem laidOut:laidOutB Tryz.prog=true:=zxj
theorem zzP:zgE Tryz.prog Dc.zBT:=by
 intro B f args h cr h' ho;unfold Dc.zBT at ho;cases args with
 | cons a r=>exact zhW _ _ _ _ _ _ ho
 | nil=>
  simp only at ho;cases hf:Nat.beq f 10 with
  | false=>rw[hf]at ho; cases ho
  | true=>
   rw[hf]at ho;have:=qaJ hf;subst this;cases ho;exact zoc (by kernel_rfl) W.zor B h
theorem zBH:∀ f fn,mC.fns f=some fn->zmh Tryz.prog f fn:=by
 intro f fn h;have hp:=ztu (P:=Tryz.prog) (f:=f) h;have he:({ fn with p:=false }:Mx.Fn)=fn:=by
  cases fn;simp only at hp;subst hp;rfl
 unfold zmh;rw[he];exact h
theorem zFb{H:Type}{enc:TypeId×Value->H}{w:World}{f g b0:Nat}{ts:List TypeId}{args:Array Value}{ds:List (DataW H)}{ps:List MemPlace}
  (hv:∀(j:Nat) t v,ts[j]? = some t->args[j]? = some v->Value.okWide Tryz.prog w .any b0 t v) (hd:DataW.TrodAll enc Tryz.prog w 0 (λ_=>true) true ts args.toList ds ps) (hf:∀ t∈ts,(zef Tryz.prog g t).isSome=true)
  (hF:∀ es,ShAs Tryz.prog g ts es->Lx.Fn mC f es (.lit (.bool true))):Calls Tryz.prog f args w λe w'=>e=.returned (.bool true)/\Below w.heap.size w w':=
 zsU W.mixed zBH zzP hv hd hf hF
theorem zhb{n:Int}(h:okI .u8 n):0<=n/\n<=255:=by
 simpa [okI,Lit.wf,IntKind.has,IntKind.min,IntKind.max,IntKind.signed,IntKind.bits]using h
end Go.Proofs.YtbjogdohfhdaiaaGreat.S
