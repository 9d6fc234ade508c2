/-
 Functions of the program that hand back lists of their own. Conditions: none.
-/
import Derived.Test.YtbjogdohfhdaiaaCaDm
import Derived.Test.YtbjogdohfhdaiaaCaDc8
namespace Go.Dc
open Go Go.Mx Go.Lx Go.Proofs
theorem zyl{f N:Nat}{cm:C}{rs:List RX}{args ds:List D}{Ls:List LB}(h:zq0 Try.prog f=some (N,cm,rs,false))(hb:EvL mC 0 [.code cm] ⟨N,zcO 0 args,[]⟩ (zuz rs ds Ls))(ho:isO f=false:=by rfl)(hN:Nat.ble args.length N=true:=by rfl):FnT mC f args ds Ls:=
 FnT.of (zwo h) (zcV ho) (qak hN) hb
end Go.Dc
