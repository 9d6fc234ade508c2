/-
 Calls with memory in sight: a function's code, written down region by region. Conditions: none.
-/
import Derived.Test.YtbjogdohfhdaiaaCkMc
set_option linter.unusedSimpArgs false
set_option linter.unusedVariables false
namespace Go.Dc
open Go Go.Mx Go.Lx Go.Proofs
theorem gnL{f N:Nat}{cm:C}{rs:List RX}{args:List D}{L:List LB}{Q1 Qp1:D->List LB->Prop}
  (hb:EvL mC L.length [.code cm] ⟨N,zdx 0 args,L⟩ λx S'=>match x with
   | .ret=>∃ ds,zdY S'.heap S'.env rs=some ds/\Q1 (zcP ds) S'.heap
   | .normal=>∃ ds,zdY S'.heap S'.env rs=some ds/\Q1 (zcP ds) S'.heap
   | .panic d=>Qp1 d S'.heap
   | .exit _=>False) (h:zq6 Try.prog f=some (N,cm,rs,false):=by apply zvS; exact rfl; exact rfl; exact rfl; repeat' with_reducible first | exact zpV | exact zsM | exact zoJ | exact zlg | apply zsy | apply zpl rfl | apply zk8 | apply zok | apply cpScope | apply zkV rfl rfl | apply plS | exact pl0 | apply pl1 | apply pl2 | apply pl3 | (conv=>lhs; cbv)| apply cpRegF | apply zsx | apply zoQ | apply fmA | exact fmN | apply fmC) (ho:isO f=false:=by rfl) (hN:Nat.ble args.length N=true:=by rfl):zes mC false f args L Q1 Qp1:=zes.ofM (zvB h) (zdc ho) (qai hN) hb
end Go.Dc
