/-
 Plain laws: what is reached in a net. Conditions: none.
-/
import Derived.Test.YtnfgibomhkbcpaaNrJ15
set_option linter.unusedSimpArgs false
set_option linter.unusedVariables false
namespace Go.Dc
open Go Go.Mx Go.Lx
inductive Reach (ms:List Nat):Nat→Nat→Prop
 | refl (i:Nat):Reach ms i i
 | step {s p i:Nat}:(ms.getD s 0).testBit p=true→Reach ms p i→Reach ms s i
theorem Reach.tr{ms:List Nat}{a b c:Nat}(h1:Reach ms a b)(h2:Reach ms b c):Reach ms a c:=by
 induction h1 with
 | refl=>exact h2
 | step e _ ih=>exact .step e (ih h2)
def cnt(n s:Nat):Nat:=(List.range n).countP (s.testBit ·)
def zvy(m:Int):Int→List Int→Prop
 | _,[]=>True
 | lo,p :: r=>lo<p∧p<m∧zvy m p r
theorem zvy.of{m:Nat}:∀ {qs:List Nat} {lo:Int},qs.Pairwise (· < ·)→(∀ q∈qs,lo<(q:Int))→(∀ q∈qs,q<m)→zvy m lo (iL qs)
 | [],lo,_,_,_=>trivial
 | q :: r,lo,h,h1,h2=>by
  obtain⟨h3,h4⟩:=qbw.1 h;show lo<(q:Int)∧(q:Int)<(m:Int)∧zvy m (q:Int) (iL r);refine⟨h1 q qar,by have:=h2 q qar; omega,zvy.of h4 (fun p hp=>by have:=h3 p hp; omega) fun p hp=>h2 p (qak _ hp)⟩
structure BndX (k:Nat) (x:S_api_Node):Prop where
 par:x.parents.length≤k
 rows:x.rows.length≤k
 row:∀ r∈x.rows,r.length≤k
structure BndK (k:Nat) (d:S_api_Net):Prop where
 nodes:d.nodes.length≤k
 node:∀ x∈d.nodes,BndX k x
theorem BndX.mono{k m:Nat}{x:S_api_Node}(h:BndX k x)(hk:k≤m):BndX m x:=⟨qao h.par hk,qao h.rows hk,fun r hr=>qao (h.row r hr) hk⟩
theorem BndK.mono{k m:Nat}{d:S_api_Net}(h:BndK k d)(hk:k≤m):BndK m d:=⟨qao h.nodes hk,fun x hx=>(h.node x hx).mono hk⟩
theorem BndK.set{k t:Nat}{g:Int}{d:S_api_Net}{y:S_api_Node}(h:BndK k d)(hy:BndX k y):BndK k ⟨g,d.nodes.set t y⟩:=
 ⟨by simpa using h.nodes,fun x hx=>by
  rcases qcd hx with hx | hx
  ·exact h.node x hx
  rw[hx]; exact hy⟩
theorem Sub.tr{a b c:Nat}(h1:Sub a b)(h2:Sub b c):Sub a c:=fun i h=>h2 i (h1 i h)
structure RN where
 c:Nat
 ps:List Nat
 rows:List (List Int)
def rd(x:RN):S_api_Node:=⟨x.c,iL x.ps,x.rows⟩
def P1(m:Int)(y:S_api_Node):Prop:=(1≤y.card∧y.card≤4)∧zvy m (-1) y.parents
theorem zuD:∀ {zs:List Nat} {z:Nat},z∈zs→z≤zs.sum
 | x :: xs,z,h=>by
  rw[qcP];rcases qaP.1 h with rfl | h
  ·omega
  have:=zuD h; omega
theorem RightN.p1{g:Nat}{ns:List NN}(h:RightN g ns):∀ y∈ns.map nd,P1 (ns.length:Int) y:=by
 intro y hy;obtain⟨x,hx,rfl⟩:=qaJ.1 hy;have hc:=h.card x hx;exact⟨⟨by simp only[nd]; omega,by simp only[nd]; omega⟩,zvy.of (h.inc x hx) (fun q _=>by omega) (h.lt x hx)⟩
theorem zwc{a b:Nat}(hb:0<b)(ha:a<9223372036854775808):zo5 .i64 (a:Int) (b:Int)=some ((a / b:Nat):Int):=by
 unfold zo5;rw[show((b:Int)== 0)=false by rw[beq_eq_false_iff_ne]; omega,cond_false,show((a:Int).tdiv (b:Int))=((a / b:Nat):Int)from rfl];congr 1
 have:a / b≤a:=qcL a b;exact zav (by omega)
structure CsOk (cs:List Nat):Prop where
 len:cs.length≤8
 card:∀ c∈cs,1≤c∧c≤4
 prod:zab cs≤1024
end Go.Dc
