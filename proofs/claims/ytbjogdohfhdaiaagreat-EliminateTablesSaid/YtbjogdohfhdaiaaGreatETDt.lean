/-
 Functions of the program that hand back lists of their own. Conditions: none.
-/
import Derived.Test.YtbjogdohfhdaiaaGreatETDm
import Derived.Test.YtbjogdohfhdaiaaGreatETLy17
namespace Go.Dc
open Go Go.Mx Go.Lx Go.Proofs
theorem zEY{f N:Nat}{cm:C}{rs:List RX}{args ds:List D}{Ls:List LB}(h:zue Tryz.prog f=some (N,cm,rs,false))(hb:EvL mC 0 [.code cm] ⟨N,zep 0 args,[]⟩ (zAC rs ds Ls))(ho:isO f=false:=by rfl)(hN:Nat.ble args.length N=true:=by rfl):FnT mC f args ds Ls:=
 FnT.of (zD9 h) (ze9 ho) (qae hN) hb
end Go.Dc
