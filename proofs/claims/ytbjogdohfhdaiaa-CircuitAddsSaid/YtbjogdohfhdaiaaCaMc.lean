/-
 Steps of walks, by default tactics. Conditions: none.
-/
import Derived.Test.YtbjogdohfhdaiaaCaDm
set_option linter.unusedVariables false
set_option linter.unusedSimpArgs false
namespace Go.Dc
open Go Go.Mx Go.Lx
def zuu:List LB->List Lx.Act
 | []=>[]
 | .gone :: r=>.d :: zuu r
 | _ :: r=>.k :: zuu r
theorem wAM{N:Nat}{E E':List (Nat×D)}{L L':List LB}
  (hL:MBs L (zuu L') 0 L L':=by repeat' first | exact trivial | exact rfl | exact MB.cs (by repeat' first | exact trivial | exact rfl | refine⟨?_,?_⟩)| exact MB.es _ _ _ | exact MB.gs _ _ _ | refine⟨?_,?_⟩)
  (hE:MEs L (zuu L') E E':=by repeat' first | exact trivial | exact rfl | refine ms ?_ ?_ ?_ | refine⟨?_,?_⟩)
  (hl:znA (zuu L') L'.length=true:=by rfl):za9 0 ⟨N,E,L⟩ ⟨N,E',L'⟩:=za9.m0 (zuu L') hl hE hL
section
variable {m:Mach} {k0:Nat} {k:List K} {S:LSt} {Q:LX->LSt->Prop} {A G G0 G1 Y:Prop} {α:Type} {T T':α->LSt}
section
variable {L:List LB} {t t':Bool} {f:Nat} {g:Option (Nat×Bool)} {l:List O} {ds args:List D} {res:D} {bar e:Bool} {d:Option Nat}
theorem zyF{β:Type}{e:En β}{xs:List β}:Snp L false (fzE t e xs) (fzE false e xs):=zaM e xs (λh=>nomatch h)
variable{xs:List Mx.X}
theorem fCM(hf:Lx.Fn m f args res)(h:G)(hw:za3 S.env g=some true:=by rfl)(hx:zfG S.env xs=some ds:=by rfl)(hs:Snps S.heap false ds args:=by repeat' first | exact .lit _ | exact .nil | exact .any | refine .cons ?_ ?_ | refine Snp.zl2 ?_ | refine Snp.ztX ?_ | exact zyF | exact snTM | exact zaM _ _ id | exact zqm _ | exact sOM)(q:wp m k0 (.ops bar e l :: k) (LSt.put ⟨S.N,S.env,S.heap⟩ d res) Q=G:=by(try simp only[rnA,Nat.reduceEqDiff,Nat.reduceLT,reduceCtorEq,Nat.reduceAdd,Nat.reduceLeDiff,Int.reduceBEq,Int.reduceLE,Int.reduceLT,Nat.reduceBEq,Nat.reduceMul,Nat.reduceSub,Int.reduceToNat,reduceIte,zal,ze9]); exact Eq.refl _):EvL m k0 (.ops bar e (⟨d,.call f xs,g⟩:: l):: k) S Q:=EvL.fn hf hw hx hs (q.mpr h)
theorem fDM(hf:FnA m f args res)(h:G)(hw:za3 S.env g=some true:=by rfl)(hx:zfG S.env xs=some ds:=by rfl)(hz:Mzs S.heap (λ_=>false) ds args:=by repeat' first | exact .lit _ | exact .nil | refine .cons ?_ ?_ | refine Mzs.agg ?_ | exact zmN _ _ (λh=>by cases h<;>contradiction)| exact zmN _ _ (λ_=>rfl)| exact zpG _)(hfr:D.frs args:=by repeat' first | exact trivial | exact rfl | exact zlK _ _ | exact En.fr _ _ | refine⟨?_,?_⟩)(hres:res.fr:=by repeat' first | exact trivial | exact rfl | exact zlK _ _ | exact En.fr _ _ | refine⟨?_,?_⟩)(q:wp m k0 (.ops bar e l :: k) (LSt.put ⟨S.N,S.env,S.heap⟩ d res) Q=G:=by(try simp only[rnA,Nat.reduceEqDiff,Nat.reduceLT,reduceCtorEq,Nat.reduceAdd,Nat.reduceLeDiff,Int.reduceBEq,Int.reduceLE,Int.reduceLT,Nat.reduceBEq,Nat.reduceMul,Nat.reduceSub,Int.reduceToNat,reduceIte,zal,ze9]); exact Eq.refl _):EvL m k0 (.ops bar e (⟨d,.call f xs,g⟩:: l):: k) S Q:=EvL.fnS hf hw hx hz hfr hres (q.mpr h)
end
end
end Go.Dc
