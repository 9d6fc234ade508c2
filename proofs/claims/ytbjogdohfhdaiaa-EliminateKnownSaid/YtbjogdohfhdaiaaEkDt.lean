/-
 Functions of the program that hand back lists of their own. Conditions: none.
-/
import Derived.Test.YtbjogdohfhdaiaaEkDm
import Derived.Test.YtbjogdohfhdaiaaEkDc9
namespace Go.Dc
open Go Go.Mx Go.Lx Go.Proofs
theorem ztS{f N:Nat}{cm:C}{rs:List RX}{args ds:List D}{Ls:List LB}(h:zsu Try.prog f=some (N,cm,rs,false))(hb:EvL mC 0 [.code cm] ⟨N,ze1 0 args,[]⟩ (zq0 rs ds Ls))(ho:isO f=false:=by rfl)(hN:Nat.ble args.length N=true:=by rfl):FnT mC f args ds Ls:=
 FnT.of (ztz h) (zaZ ho) (qac hN) hb
end Go.Dc
