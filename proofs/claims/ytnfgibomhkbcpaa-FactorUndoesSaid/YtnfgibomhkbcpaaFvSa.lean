/-
 Closing: what the laws of this seat have in common. Conditions: none.
-/
import Derived.Test.YtnfgibomhkbcpaaFvDm
import Derived.Test.YtnfgibomhkbcpaaFvJ12
import Derived.Test.YtnfgibomhkbcpaaFvFct
set_option linter.unusedSimpArgs false
set_option linter.unusedVariables false
set_option maxRecDepth 100000
namespace Go.Proofs.Ytnfgibomhkbcpaa.S
open Go Go.Mx Go.Lx Go.Dc Go.ChangeShapes Go.WideShapes Go.ChangeAt Go.RowKit
theorem own:ownKnob Try.prog.godebug=none:=by kernel_rfl
theorem laidOut:laidOutB Try.prog=true:=zpU
theorem zrn:zgu Try.prog Dc.zsf:=by
 intro B f args h cr h' ho;unfold Dc.zsf at ho;cases args with
 | cons a r=>exact zrf _ _ _ _ _ _ ho
 | nil=>cases ho
theorem mixed:Try.prog.follows .mixedOrders=true:=by kernel_rfl
theorem zr2:∀ f fn,mC.fns f=some fn→zmS Try.prog f fn:=by
 intro f fn h;have hp:=zq8 (P:=Try.prog) (f:=f) h;have he:({ fn with p:=false }:Mx.Fn)=fn:=by
  cases fn;simp only at hp;subst hp;rfl
 unfold zmS;rw[he];exact h
theorem ztC{H:Type}{enc:TypeId×Value→H}{w:World}{f g b0:Nat}{ts:List TypeId}{args:Array Value}{ds:List (DataW H)}{ps:List MemPlace}
  (hv:∀(j:Nat) t v,ts[j]? = some t→args[j]? = some v→Value.okWide Try.prog w .any b0 t v) (hd:DataW.TrodAll enc Try.prog w 0 (fun _=>true) true ts args.toList ds ps) (hf:∀ t∈ts,(zdJ Try.prog g t).isSome=true)
  (hF:∀ es,ShAs Try.prog g ts es→Lx.Fn mC f es (.lit (.bool true))):Calls Try.prog f args w fun e w'=>e=.returned (.bool true)∧Below w.heap.size w w':=
 znp mixed zr2 zrn hv hd hf hF
theorem zqm{n:Int}(h:okI .u8 n):0≤n∧n≤255:=by
 simpa [okI,Lit.wf,IntKind.has,IntKind.min,IntKind.max,IntKind.signed,IntKind.bits]using h
end Go.Proofs.Ytnfgibomhkbcpaa.S
