/-
 What bits_Mul64 computes. Conditions: none.
-/
import Derived.Test.YtbjogdohfhdaiaaCaJ5
set_option linter.unusedSimpArgs false
set_option linter.unusedVariables false
set_option maxRecDepth 100000
set_option maxHeartbeats 4000000
namespace Go.Dc
open Go Go.Mx Go.Lx Go.Proofs
def zcv(p0:Int)(p1:Int):Option (Int×Int):=
(znX .u64 p0 32).bind λq1=>
(znX .u64 p1 32).bind λq3=>
(znX .u64 (IntKind.u64.wrap ((zkD .u64 p0 4294967295)* (zkD .u64 p1 4294967295))) 32).bind λq5=>
(znX .u64 (IntKind.u64.wrap ((IntKind.u64.wrap (q1 * (zkD .u64 p1 4294967295)))+q5)) 32).bind λq7=>
(znX .u64 (IntKind.u64.wrap ((zkD .u64 (IntKind.u64.wrap ((IntKind.u64.wrap (q1 * (zkD .u64 p1 4294967295)))+q5)) 4294967295)+(IntKind.u64.wrap ((zkD .u64 p0 4294967295)* q3)))) 32).bind λq9=>
some ((IntKind.u64.wrap ((IntKind.u64.wrap ((IntKind.u64.wrap (q1 * q3))+q7))+q9)),(IntKind.u64.wrap (p0 * p1)))
theorem ziv{p0:Int}{p1:Int}{r:(Int×Int)}(h:zcv p0 p1=some r):Lx.Fn mC 86 [(dU p0),(dU p1)] (.tup [(dU r.1),(dU r.2)]):=by
 refine gnO ?_;unfold zcv at h;refine zaa ?_;obtain⟨q1,g2,h⟩:=bind_some h;obtain⟨q3,g4,h⟩:=bind_some h;obtain⟨q5,g6,h⟩:=bind_some h;obtain⟨q7,g8,h⟩:=bind_some h;obtain⟨q9,g10,h⟩:=bind_some h;try simp only[rnA,Nat.reduceEqDiff,reduceIte,Nat.reduceLT,Nat.reduceAdd,Nat.reduceLeDiff,Nat.reduceMul,Nat.reduceSub,Int.reduceLE,Int.reduceLT,Int.reduceBEq,Nat.reduceBEq,reduceCtorEq,(zb0 g2).1,(zb0 g2).2,(zb0 g4).1,(zb0 g4).2,(zb0 g6).1,(zb0 g6).2,(zb0 g8).1,(zb0 g8).2,(zb0 g10).1,(zb0 g10).2]
 replace h:=qae h; subst h;exact zc7.ret rfl (Snp.ztX (.cons (.lit _) (.cons (.lit _) .nil)))
end Go.Dc
namespace Go.Dc
open Go Go.Mx Go.Lx
theorem ztd{a:Nat}(ha:a<18446744073709551616):zkD .u64 (a:Int) 4294967295=((a % 4294967296:Nat):Int):=by
 rw[show(4294967295:Int)=((4294967295:Nat):Int)from rfl,zvX ha (by omega)];congr 1
 exact Nat.and_two_pow_sub_one_eq_mod a 32
theorem zoH(a:Nat):znX .u64 (a:Int) 32=some ((a / 4294967296:Nat):Int):=by
 have h:=zxL (a:=a) (v:=32) (by omega);rw[show((32:Nat):Int)=32 from rfl]at h;rw[h,qb6]
theorem zwH{x y:Nat}(hx:x<18446744073709551616)(hy:y<18446744073709551616):zcv (x:Int) (y:Int)=some (((x * y / 18446744073709551616:Nat):Int),((x * y % 18446744073709551616:Nat):Int)):=by
 unfold zcv;rw[zoH,qab,zoH,qab,ztd hx,ztd hy];have ex:x=x / 4294967296 * 4294967296+x % 4294967296:=by omega
 have ey:y=y / 4294967296 * 4294967296+y % 4294967296:=by omega
 have exy:x * y=(x / 4294967296)* (y / 4294967296)* 18446744073709551616+((x / 4294967296)* (y % 4294967296)+(x % 4294967296)* (y / 4294967296))* 4294967296+(x % 4294967296)* (y % 4294967296):=by
  have:∀ a b c d:Nat,(a * 4294967296+b)* (c * 4294967296+d)=a * c * 18446744073709551616+(a * d+b * c)* 4294967296+b * d:=by
   intro a b c d;rw[qaW,Nat.mul_add,Nat.mul_add,Nat.mul_mul_mul_comm,show b * (c * 4294967296)=b * c * 4294967296 from(qb3 _ _ _).symm,show a * 4294967296 * d=a * d * 4294967296 by rw[qb3,qbs 4294967296 d,qb3]];omega
  calc x * y=(x / 4294967296 * 4294967296+x % 4294967296)* (y / 4294967296 * 4294967296+y % 4294967296):=by rw[<- ex,<- ey]
   _=_:=this _ _ _ _
 rw[show(x:Int)* (y:Int)=((x * y:Nat):Int)from(qbo x y).symm,zu6];have ha:x / 4294967296<=4294967295:=by omega
 have hb:x % 4294967296<=4294967295:=by omega
 have hc:y / 4294967296<=4294967295:=by omega
 have hd:y % 4294967296<=4294967295:=by omega
 rw[exy];generalize x / 4294967296=a at *;generalize x % 4294967296=b at *;generalize y / 4294967296=c at *;generalize y % 4294967296=d at *;have h1:a * c<=4294967295 * 4294967295:=qb7 ha hc;have h2:a * d<=4294967295 * 4294967295:=qb7 ha hd;have h3:b * c<=4294967295 * 4294967295:=qb7 hb hc;have h4:b * d<=4294967295 * 4294967295:=qb7 hb hd;rw[<- qbo,<- qbo,<- qbo,<- qbo];generalize a * c=p at *;generalize a * d=q at *;generalize b * c=r at *;generalize b * d=s at *
 rw[zbA (n:=s) (by omega),zoH,qab,zbA (n:=q) (by omega),<- qcB,zbA (n:=q+s / 4294967296) (by omega),zoH,qab,ztd (by omega),zbA (n:=r) (by omega),<- qcB,zbA (n:=(q+s / 4294967296) % 4294967296+r) (by omega),zoH,qab,
  zbA (n:=p) (by omega),<- qcB,zbA (n:=p+(q+s / 4294967296) / 4294967296) (by omega),<- qcB,zbA (n:=p+(q+s / 4294967296) / 4294967296+((q+s / 4294967296) % 4294967296+r) / 4294967296) (by omega)]
 congr 2
 congr 1
 omega
end Go.Dc
namespace Go.Dc
open Go Go.Mx Go.Lx Go.Proofs
def zco(p0:Int)(p1:Int):Option Int:=
some (w64 (p0+(zuZ p1 (w64 (4611686018427387904 - p0)))))
theorem zcb{p0:Int}{p1:Int}{r:Int}(h:zco p0 p1=some r):Lx.Fn mC 110 [(dI p0),(dI p1)] (dI r):=by
 refine gnO ?_;unfold zco at h;refine zaa ?_;try simp only[rnA,Nat.reduceEqDiff,reduceIte,Nat.reduceLT,Nat.reduceAdd,Nat.reduceLeDiff,Nat.reduceMul,Nat.reduceSub,Int.reduceLE,Int.reduceLT,Int.reduceBEq,Nat.reduceBEq,reduceCtorEq]
 replace h:=qae h; subst h;exact zc7.ret rfl (.lit _)
def zb9(p0:Int)(p1:Int):Option Int:=
(zcv (IntKind.u64.wrap p0) (IntKind.u64.wrap p1)).bind λr1=>
((bif (decide (0<r1.1))then(
some true)
else(
some (decide (4611686018427387903<r1.2))):Option Bool)).bind λv20=>
bif v20 then(
some 4611686018427387904)
else(
some (w64 r1.2))
theorem zbt{p0:Int}{p1:Int}{r:Int}(h:zb9 p0 p1=some r):Lx.Fn mC 112 [(dI p0),(dI p1)] (dI r):=by
 refine gnO ?_;unfold zb9 at h;refine zaa ?_;obtain⟨r1,g2,h⟩:=bind_some h;try simp only[rnA,Nat.reduceEqDiff,Nat.reduceLT,Nat.reduceAdd,reduceCtorEq]
 refine EvL.fn (ziv g2) rfl rfl (.cons (.lit _) (.cons (.lit _) .nil)) ?_;try simp only[rnA,Nat.reduceEqDiff,Nat.reduceLT,reduceCtorEq]
 obtain⟨o1,j1,h⟩:=bind_some h;obtain⟨T1,hT1⟩:=mkT λa:Bool=>⟨23,[(6,(dU r1.2)),(20,(dB a))],[]⟩
 refine EvL.jn T1 (λa=>a=o1) ?_ ?_
 .refine zaa ?_;try simp only[rnA,Nat.reduceEqDiff,Nat.reduceLT,reduceCtorEq]
  cases c3:(decide (0<r1.1))
  .rw[c3,qcS]at j1;try simp only[rnA,Nat.reduceEqDiff,Nat.reduceLT,reduceCtorEq]
   replace j1:=qae j1; subst j1;exact lfj hT1 rfl (wm0 [] (by exact trivial))
  rw[c3,qcR]at j1;try simp only[rnA,Nat.reduceEqDiff,Nat.reduceLT,reduceCtorEq]
  replace j1:=qae j1; subst j1;exact lfj hT1 rfl (wm0 [] (by exact trivial))
 rintro v20 rfl;rw[congrFun hT1 v20];refine zaa ?_;try simp only[rnA,Nat.reduceEqDiff]
 cases c4:v20
 .rw[c4,qcS]at h;try simp only[rnA,Nat.reduceEqDiff,Nat.reduceLT]
  replace h:=qae h; subst h;exact zc7.ret rfl (.lit _)
 rw[c4,qcR]at h;try simp only[rnA,Nat.reduceLT]
 replace h:=qae h; subst h;exact zc7.ret rfl (.lit _)
end Go.Dc
