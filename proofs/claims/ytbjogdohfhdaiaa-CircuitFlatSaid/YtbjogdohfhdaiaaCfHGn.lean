/-
 Calls with memory in sight: a function's code, written down region by region. Conditions: none.
-/
import Derived.Test.YtbjogdohfhdaiaaCfMc
set_option linter.unusedSimpArgs false
set_option linter.unusedVariables false
namespace Go.Dc
open Go Go.Mx Go.Lx Go.Proofs
theorem gnL{f N:Nat}{cm:C}{rs:List RX}{args:List D}{L:List LB}{Q1 Qp1:D->List LB->Prop}
  (hb:EvL mC L.length [.code cm] ⟨N,zd4 0 args,L⟩ λx S'=>match x with
   | .ret=>∃ ds,zd1 S'.heap S'.env rs=some ds/\Q1 (zcK ds) S'.heap
   | .normal=>∃ ds,zd1 S'.heap S'.env rs=some ds/\Q1 (zcK ds) S'.heap
   | .panic d=>Qp1 d S'.heap
   | .exit _=>False) (h:zvl Try.prog f=some (N,cm,rs,false):=by apply zCa; exact rfl; exact rfl; exact rfl; repeat' with_reducible first | exact zt1 | exact zyV | exact ztT | exact zoh | apply zyr | apply zr7 rfl | apply zow | apply ztW | apply znO | apply znL rfl rfl | apply plS | exact pl0 | apply pl1 | apply pl2 | apply pl3 | (conv=>lhs; cbv)| apply cpRegF | apply zy7 | apply zue | apply fmA | exact fmN | apply fmC) (ho:isO f=false:=by rfl) (hN:Nat.ble args.length N=true:=by rfl):zbA mC false f args L Q1 Qp1:=zbA.ofM (zCQ h) (zbG ho) (qah hN) hb
end Go.Dc
