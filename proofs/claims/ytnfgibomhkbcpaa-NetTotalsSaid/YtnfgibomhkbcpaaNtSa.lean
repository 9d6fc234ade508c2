/-
 Closing: what the laws of this seat have in common. Conditions: none.
-/
import Derived.Test.YtnfgibomhkbcpaaNtWk5
import Derived.Test.YtnfgibomhkbcpaaNtDm
import Derived.Test.YtnfgibomhkbcpaaNtJ18
import Derived.Test.YtnfgibomhkbcpaaNtFct
set_option linter.unusedSimpArgs false
set_option linter.unusedVariables false
set_option maxRecDepth 100000
namespace Go.Proofs.Ytnfgibomhkbcpaa.S
open Go Go.Mx Go.Lx Go.Dc Go.ChangeShapes Go.WideShapes Go.ChangeAt Go.RowKit
theorem own:ownKnob Try.prog.godebug=none:=by kernel_rfl
theorem laidOut:laidOutB Try.prog=true:=zvc
theorem zxa:zgC Try.prog Dc.zy2:=by
 intro B f args h cr h' ho;unfold Dc.zy2 at ho;cases args with
 | cons a r=>exact zwi _ _ _ _ _ _ ho
 | nil=>
  simp only at ho;cases hf:Nat.beq f 14 with
  | false=>rw[hf]at ho; cases ho
  | true=>
   rw[hf]at ho;have:=qcc hf;subst this;cases ho;exact znn (by kernel_rfl) W.zn7 B h
theorem zy7:∀ f fn,mC.fns f=some fn→zmU Try.prog f fn:=by
 intro f fn h;have hp:=ztu (P:=Try.prog) (f:=f) h;have he:({ fn with p:=false }:Mx.Fn)=fn:=by
  cases fn;simp only at hp;subst hp;rfl
 unfold zmU;rw[he];exact h
theorem zB6{H:Type}{enc:TypeId×Value→H}{w:World}{f g b0:Nat}{ts:List TypeId}{args:Array Value}{ds:List (DataW H)}{ps:List MemPlace}
  (hv:∀(j:Nat) t v,ts[j]? = some t→args[j]? = some v→Value.okWide Try.prog w .any b0 t v) (hd:DataW.TrodAll enc Try.prog w 0 (fun _=>true) true ts args.toList ds ps) (hf:∀ t∈ts,(zee Try.prog g t).isSome=true)
  (hF:∀ es,ShAs Try.prog g ts es→Lx.Fn mC f es (.lit (.bool true))):Calls Try.prog f args w fun e w'=>e=.returned (.bool true)∧Below w.heap.size w w':=
 ztb W.mixed zy7 zxa hv hd hf hF
theorem zor{n:Int}(h:okI .u8 n):0≤n∧n≤255:=by
 simpa [okI,Lit.wf,IntKind.has,IntKind.min,IntKind.max,IntKind.signed,IntKind.bits]using h
end Go.Proofs.Ytnfgibomhkbcpaa.S
