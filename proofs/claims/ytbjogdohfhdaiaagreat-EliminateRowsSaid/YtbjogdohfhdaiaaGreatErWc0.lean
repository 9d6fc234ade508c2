/-
 Calls at known memories. Conditions: none.
-/
import Derived.Test.YtbjogdohfhdaiaaGreatErTabW
import Derived.Test.YtbjogdohfhdaiaaGreatErMxL
set_option linter.unusedSimpArgs false
set_option linter.unusedVariables false
set_option maxRecDepth 100000
namespace Go.Proofs.YtbjogdohfhdaiaaGreat.W
open Go Go.Mx
abbrev zi(n:Int):V:=.lit (.int .i64 n)
abbrev zn:V:=.lit (.slice none 0 0)
def dd(n:Nat):List Ob:=List.replicate n .dead
def m0:List Ob:=[.blk [(zi 4),(.sl 11 0 3 3 (some 3))],.blk [(zi 1),(zi 3)],.blk [(.sl 1 0 1 2 (some 2))],.blk [(zi 0)],.blk [(zi 4),(zi 0)],.blk [(zi 2),(zi 2)],.blk [(.sl 4 0 1 2 (some 2)),(.sl 5 0 1 2 (some 2))],.blk [(zi 1)],.blk [(zi 1),(zi 3)],.blk [(zi 4),(zi 0)],.blk [(.sl 8 0 1 2 (some 2)),(.sl 9 0 1 2 (some 2))],.blk [(zi 2),zn,(.sl 2 0 1 1 (some 1)),(zi 2),(.sl 3 0 1 1 (some 1)),(.sl 6 0 1 2 (some 2)),(zi 2),(.sl 7 0 1 1 (some 1)),(.sl 10 0 1 2 (some 2))],.blk [(zi (-1)),(zi (-1)),(zi (-1))],.blk [(zi 4),(.sl 11 0 3 3 (some 3))],.blk [(zi 0),(zi 2)]]
def m1:List Ob:=m0 ++ dd 487 ++ [.blk [(zi 5),(zi 8),(zi 3),(zi 8)]]++ dd 18
def c1:Cut:=⟨14,[(.agg [(zi 4),(.sl 11 0 3 3 (some 3))]),(.sl 12 0 1 3 (some 3)),(zi 1),(.sl 14 0 1 2 (some 2))],m0,(.tup [(.sl 502 0 2 2 (some 2)),(zi 0)]),m1⟩
def m2:List Ob:=m1 ++ [.blk [(zi (-1)),(zi (-1)),(zi 1)],.blk [(zi 1),(zi 2)]]
def m3:List Ob:=m2 ++ dd 846 ++ [.blk [(zi 2),(zi 5),(zi 3),(zi 5)]]++ dd 18
def c2:Cut:=⟨15,[(.agg [(zi 4),(.sl 11 0 3 3 (some 3))]),(.sl 521 0 1 3 (some 3)),(zi 0),(.sl 522 0 1 2 (some 2))],m2,(.tup [(.sl 1369 0 2 2 (some 2)),(zi 0)]),m3⟩
def m4:List Ob:=m3 ++ [.blk [(zi 0),(zi 2)]]
def m5:List Ob:=m4 ++ dd 466
def c3:Cut:=⟨20,[(.agg [(zi 4),(.sl 11 0 3 3 (some 3))]),(.sl 12 0 1 3 (some 3)),(zi 1),(.sl 1388 0 1 2 (some 2))],m4,(.tup [(zi 6),(zi 4),(zi 0)]),m5⟩
def m6:List Ob:=m1 ++ [.blk [(zi (-1)),(zi (-1)),(zi 1)],.blk [(zi 1),(zi 2)],.blk [(zi 4),(.sl 11 0 3 3 (some 3))],.blk [(zi 4),(.sl 11 0 3 3 (some 3))],.blk [(zi 4),(.sl 11 0 3 3 (some 3)),(.sl 521 0 1 3 (some 3)),(zi 0)],.blk [(zi 4),(.sl 11 0 3 3 (some 3))],.blk [(zi 4),(.sl 11 0 3 3 (some 3))],.blk [(zi 4),(.sl 11 0 3 3 (some 3)),(.sl 529 0 1 3 (some 3)),(.sl 530 0 1 3 (some 3)),(.sl 556 0 1 3 (some 3))],.blk [(zi 2),(zi 2),(zi 2)],.blk [(.lit (.int .u64 0)),(.lit (.int .u64 1)),(.lit (.int .u64 2))],.blk [(zi 4),(.sl 11 0 3 3 (some 3)),(.sl 529 0 1 3 (some 3)),(.sl 530 0 1 3 (some 3)),(.sl 556 0 1 3 (some 3))],.blk [(zi 2),zn,(.sl 2 0 1 1 (some 1))],.blk [(zi 2),(.sl 3 0 1 1 (some 1)),(.sl 6 0 1 2 (some 2))],.blk [(zi 2),(.sl 7 0 1 1 (some 1)),(.sl 10 0 1 2 (some 2))],.blk [(zi 2),zn,(.sl 2 0 1 1 (some 1))],.blk [(zi 4),(.sl 11 0 3 3 (some 3)),(.sl 529 0 1 3 (some 3)),(.sl 530 0 1 3 (some 3)),zn],.blk [(zi 2),zn,(.sl 2 0 1 1 (some 1))],.blk [(.lit (.bool true))],.blk [(zi 2),zn,(.sl 2 0 1 1 (some 1))]]++ dd 2 ++ [.blk [(zi 2),(.sl 3 0 1 1 (some 1)),(.sl 6 0 1 2 (some 2))],.blk [(zi 4),(.sl 11 0 3 3 (some 3)),(.sl 529 0 1 3 (some 3)),(.sl 530 0 1 3 (some 3)),zn],.blk [(zi 2),(.sl 3 0 1 1 (some 1)),(.sl 6 0 1 2 (some 2))],.blk [(.lit (.bool true))],.blk [(zi 2),(.sl 3 0 1 1 (some 1)),(.sl 6 0 1 2 (some 2))]]++ dd 2 ++ [.blk [(zi 2),(.sl 7 0 1 1 (some 1)),(.sl 10 0 1 2 (some 2))],.blk [(zi 4),(.sl 11 0 3 3 (some 3)),(.sl 529 0 1 3 (some 3)),(.sl 530 0 1 3 (some 3)),zn],.blk [(zi 2),(.sl 7 0 1 1 (some 1)),(.sl 10 0 1 2 (some 2))],.blk [(.lit (.bool true))],.blk [(zi 2),(.sl 7 0 1 1 (some 1)),(.sl 10 0 1 2 (some 2))]]++ dd 2 ++ [.blk [(zi 0),(zi 1),(zi 2)],.blk [(zi 0)],.blk [(zi 1)],.blk [(zi 2)],.blk [(zi 4),(.sl 11 0 3 3 (some 3)),(.sl 529 0 1 3 (some 3)),(.sl 530 0 1 3 (some 3)),(.sl 556 0 1 3 (some 3))],.blk [(zi 4),(.sl 11 0 3 3 (some 3)),(.sl 521 0 1 3 (some 3)),(zi 0)],.blk [(zi 4),(.sl 11 0 3 3 (some 3)),(.sl 521 0 1 3 (some 3)),(zi 0)],.blk [(zi 4),(.sl 11 0 3 3 (some 3)),(.sl 521 0 1 3 (some 3)),(zi 0)]]
def m7:List Ob:=m6 ++ dd 390 ++ [.blk [(zi 2),(zi 5),(zi 3),(zi 5)]]++ dd 18
def c4:Cut:=⟨41,[(.agg [(zi 4),(.sl 11 0 3 3 (some 3)),(.sl 521 0 1 3 (some 3)),(zi 0)]),(.sl 522 0 1 2 (some 2)),(.lit (.int .u64 7))],m6,(.tup [(.sl 954 0 2 2 (some 2)),(zi 0)]),m7⟩
theorem mixed:Tryz.prog.follows .mixedOrders=true:=by kernel_rfl
end Go.Proofs.YtbjogdohfhdaiaaGreat.W
set_option maxRecDepth 100000
namespace Go.Proofs.YtbjogdohfhdaiaaGreat.W
open Go Go.Mx
theorem r1:zub (ztQ [] (zoL tab) 200 c1.f c1.args c1.h0) c1.v c1.h1=true:=by kernel_rfl
theorem k1:zoU Tryz.prog c1:=zg1 mixed (zhe tab) zja (λc hc=>absurd hc qbC) (by kernel_rfl) r1
end Go.Proofs.YtbjogdohfhdaiaaGreat.W
