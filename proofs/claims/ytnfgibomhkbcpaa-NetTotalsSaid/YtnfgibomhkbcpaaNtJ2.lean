/-
 Bend.Of: the copy of the nodes, one of which stays open. Conditions: none.
-/
import Derived.Test.YtnfgibomhkbcpaaNtJ1
set_option linter.unusedSimpArgs false
set_option linter.unusedVariables false
set_option maxRecDepth 100000
set_option maxHeartbeats 4000000
namespace Go.Dc
open Go Go.Mx Go.Lx Go.Proofs
abbrev KB(n:Nat)(es:List (List D)):Prop:=∀ kp:Nat→Bool,(∀ j,j<n→kp j=true)→∀ cs∈es,D.zhf kp cs
theorem Mt.zhf{L:List LB}{F kp:Nat→Bool}:∀ {es:List (List D)},(∀ cs∈es,D.zhf kp cs)→Mt L F kp es es
 | [],_=>.nil
 | x :: r,h=>.cons (Mos.kin (h x qan)) (Mt.zhf fun cs hc=>h cs (qaj _ hc))
theorem KB.map{α:Type}{n:Nat}(e:En α)(t:Bool)(xs:List α):KB n (xs.map (e.c t)):=fun kp _=>zfx e kp t xs
theorem KB.one{n:Nat}{c:List D}(h:∀ kp:Nat→Bool,(∀ j,j<n→kp j=true)→D.zhf kp c):KB n [c]:=fun kp hk cs hm=>by rw[qa3.1 hm]; exact h kp hk
theorem KB.le{n m:Nat}{a:List (List D)}(ha:KB n a)(h:n≤m):KB m a:=fun kp hk=>ha kp fun j hj=>hk j (qbr hj h)
abbrev fzR(r:List Int):List D:=[fzE true (eI .i64) r]
theorem kfz{kp:Nat→Bool}{rs:List (List Int)}:∀ cs∈rs.map fzR,D.zhf kp cs:=zfx (eL (eI .i64)) kp true rs
theorem KB.fz{n:Nat}{rs:List (List Int)}:KB n (rs.map fzR):=fun kp _=>kfz
theorem KB.nil{n:Nat}:KB n []:=fun _ _ _ h=>nomatch h
structure FitN (x:S_api_Node):Prop where
 ps:(x.parents.length+1)* 8≤zai
 rs:(x.rows.length+1)* 24≤zai
 row:∀ r∈x.rows,(r.length+1)* 8≤zai
theorem FitN.p1{x:S_api_Node}(h:FitN x):x.parents.length * 8≤zai:=by have:=h.ps; omega
theorem FitN.r1{x:S_api_Node}(h:FitN x):x.rows.length * 24≤zai:=by have:=h.rs; omega
theorem FitN.w1{x:S_api_Node}(h:FitN x):∀ r∈x.rows,r.length * 8≤zai:=fun r hr=>by have:=h.row r hr; omega
instance (x:S_api_Node):Decidable (FitN x):=decidable_of_iff ((x.parents.length+1)* 8≤zai∧(x.rows.length+1)* 24≤zai∧∀ r∈x.rows,(r.length+1)* 8≤zai) ⟨fun h=>⟨h.1,h.2.1,h.2.2⟩,fun h=>⟨h.ps,h.rs,h.row⟩⟩
def zcG(zad steps:List Int):Option (List Int×List Int):=some (zad,steps)
def zeQ:C:=
 .seq (rg [oW 2 0,
 oW 3 1,
 ⟨some 4,.mov (.c .nilFunc),none⟩])
 (.seq (rg [⟨some 5,.clo 135 [] [(.s 2),(.s 3)],none⟩,
 oM 4 5])
 (.ret))
theorem zgW:ziU mC 93=some (6,zeQ,[.tmp 4],false):=zbu (by kernel_rfl)
theorem zeu{zad steps:List Int}{r:List Int×List Int}(h:zcG zad steps=some r):
  Lx.FnA mC 93 [fzE false (eI .i64) zad,fzE false (eI .i64) steps] (.clo 135 [] [.fptr false ((eL (eI .i64)).c false r.1),.fptr false ((eL (eI .i64)).c false r.2)]):=by
 cases h;refine FnA.of zgW (zbo rfl) (qaf rfl) ?_;simp only[zeQ,zjR];refine zaa ?_;simp only[rnA,Nat.reduceEqDiff,reduceIte,Nat.reduceLT,Nat.reduceAdd,Nat.reduceLeDiff,Nat.reduceMul,Nat.reduceSub,Int.reduceLE,Int.reduceLT,Int.reduceBEq,Nat.reduceBEq,reduceCtorEq];exact zkd.ret rfl (.clo rfl rfl (Snps.get .nil) (Snps.get (.cons (zif (eL (eI .i64)) zad rfl) (.cons (zif (eL (eI .i64)) steps rfl) .nil))))
end Go.Dc
