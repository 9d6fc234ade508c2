/-
 Calls with memory in sight: a function's code, written down region by region. Conditions: none.
-/
import Derived.Test.YtbjogdohfhdaiaaCaMc
set_option linter.unusedSimpArgs false
set_option linter.unusedVariables false
namespace Go.Dc
open Go Go.Mx Go.Lx Go.Proofs
theorem gnL{f N:Nat}{cm:C}{rs:List RX}{args:List D}{L:List LB}{Q1 Qp1:D->List LB->Prop}
  (hb:EvL mC L.length [.code cm] ⟨N,zcO 0 args,L⟩ λx S'=>match x with
   | .ret=>∃ ds,zdd S'.heap S'.env rs=some ds/\Q1 (zca ds) S'.heap
   | .normal=>∃ ds,zdd S'.heap S'.env rs=some ds/\Q1 (zca ds) S'.heap
   | .panic d=>Qp1 d S'.heap
   | .exit _=>False) (h:zq0 Try.prog f=some (N,cm,rs,false):=by apply zxj; exact rfl; exact rfl; exact rfl; repeat' with_reducible first | exact zoX | exact ztj | exact zqe | exact zkS | apply ztG | apply zpM rfl | apply zkY | apply zqI | apply cpScope | apply zlv rfl rfl | apply plS | exact pl0 | apply pl1 | apply pl2 | apply pl3 | (conv=>lhs; cbv)| apply cpRegF | apply zug | apply zqq | apply fmA | exact fmN | apply fmC) (ho:isO f=false:=by rfl) (hN:Nat.ble args.length N=true:=by rfl):zbs mC false f args L Q1 Qp1:=zbs.ofM (zwo h) (zcV ho) (qak hN) hb
end Go.Dc
