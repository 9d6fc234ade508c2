/-
 Lists that are empty or not. Conditions: none.
-/
import Derived.Test.YtbjogdohfhdaiaaEkDc8
namespace Go.Dc
theorem zjO{α:Type}{xs:List α}(h:xs.isEmpty=false):0<xs.length:=by
 cases xs with
 | nil=>cases h
 | cons x xs=>exact Nat.succ_pos _
theorem zqG{α:Type}{xs:List α}(h:xs.isEmpty=false)(k:Nat):(k+xs.length≤k)=False:=by
 have:=zjO h;exact eq_false (by omega)
theorem zqT{α:Type}{xs:List α}(h:xs.isEmpty=false):(xs.length≤0)=False:=by
 have:=zjO h;exact eq_false (by omega)
end Go.Dc
