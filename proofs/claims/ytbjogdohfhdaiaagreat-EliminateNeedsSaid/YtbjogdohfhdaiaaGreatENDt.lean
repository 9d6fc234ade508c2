/-
 Functions of the program that hand back lists of their own. Conditions: none.
-/
import Derived.Test.YtbjogdohfhdaiaaGreatENDm
import Derived.Test.YtbjogdohfhdaiaaGreatENLy17
namespace Go.Dc
open Go Go.Mx Go.Lx Go.Proofs
theorem zEQ{f N:Nat}{cm:C}{rs:List RX}{args ds:List D}{Ls:List LB}(h:zvC Tryz.prog f=some (N,cm,rs,false))(hb:EvL mC 0 [.code cm] ⟨N,zee 0 args,[]⟩ (zAl rs ds Ls))(ho:isO f=false:=by rfl)(hN:Nat.ble args.length N=true:=by rfl):FnT mC f args ds Ls:=
 FnT.of (zDb h) (zfu ho) (qal hN) hb
end Go.Dc
