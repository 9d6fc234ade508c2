/-
 Ranges over generators that keep a cell of their own. Conditions: none.
-/
import Derived.Test.YtbjogdohfhdaiaaEkLy18
import Derived.Test.YtbjogdohfhdaiaaEkJ7
import Derived.Test.YtbjogdohfhdaiaaEkDc9
set_option linter.unusedSimpArgs false
set_option linter.unusedVariables false
namespace Go.Dc
open Go Go.Mx Go.Lx
theorem zix{L:List LB}{n:Nat}(h:L.length=n)(X:List LB)(k:Nat):(L ++ X)[n+k]? = X[k]?:=by rw[qam (by omega),h,qaV]
theorem zks{L:List LB}{n:Nat}(h:L.length=n)(X:List LB):(L ++ X)[n]? = X[0]?:=zix h X 0
theorem zm1{L:List LB}{n κ:Nat}(h:L.length=n)(hκ:κ<n)(X:List LB):(L ++ X)[κ]? = L[κ]?:=qaj (by omega)
theorem zmm{L:List LB}{n:Nat}(h:L.length=n)(X:List LB)(k:Nat)(x:LB):(L ++ X).set (n+k) x=L ++ X.set k x:=by rw[List.set_append_right _ _ (by omega),h,qaV]
theorem zmS{L:List LB}{n:Nat}(h:L.length=n)(X:List LB)(x:LB):(L ++ X).set n x=L ++ X.set 0 x:=zmm h X 0 x
theorem zqk{L:List LB}{n κ:Nat}(h:L.length=n)(hκ:κ<n)(X:List LB)(x:LB):(L ++ X).set κ x=L.set κ x ++ X:=List.set_append_left _ _ (by omega)
theorem zpW{cs l:List D}(h:l.length=cs.length):zk6 cs 0 l=l:=by simp[zk6,h]
inductive AsgX (N:Nat):C→List (Nat×D)→Nat→List (Nat×D)→List LB→Prop
 | old {c E E1 n}:zqE N c E=some E1→AsgX N c E n E1 []
 | box {dr bar:Bool} {d p k n:Nat} {z:List Value} {E:List (Nat×D)} {v:D} {l:List D}:d<N→d≠p→z.length=k→l.length=k→lk E p=some v→v.cells=some l →
   AsgX N (.reg dr bar [⟨some d,.alloc z,none⟩,⟨none,.store k (.s d) (.s p),none⟩]) E n ((d,.ptr n 0):: E) [.cells l]
section
variable {m:Mach} {k0:Nat} {Q:LX→LSt→Prop}
theorem zrI{N n:Nat}{c:C}{E E1:List (Nat×D)}{L Gx:List LB}(h:AsgX N c E n E1 Gx)(hn:L.length=n):EvL m k0 [.code c] ⟨N,E,L⟩ fun x S1=>x=.normal∧S1=⟨N,E1,L ++ Gx⟩:=by
 cases h with
 | old h=>
  rw[qaC];exact zo1 h
 | @box dr bar d p k n z E v l h1 h2 h3 h4 h5 h6=>
  refine zaa ?_;have e1:(l.length=k)=True:=eq_true h4;have e2:(0+k≤(z.map D.lit).length)=True:=eq_true (by rw[qaD]; omega);have e3:zk6 (z.map D.lit) 0 l=l:=zpW (by rw[qaD]; omega);have e4:(d=p)=False:=eq_false h2;have e5:(d<N)=True:=eq_true h1;have e6:(k≤z.length)=True:=eq_true (by omega);have e7:List.drop l.length (z.map D.lit)=[]:=qbc (by rw[qaD]; omega);simp only[rnA,Nat.reduceEqDiff,reduceIte,Nat.reduceLT,Nat.reduceAdd,Nat.reduceLeDiff,Nat.reduceMul,Nat.reduceSub,Int.reduceLE,Int.reduceLT,Int.reduceBEq,Nat.reduceBEq,reduceCtorEq,hn,zks hn,zmS hn,e1,e2,e3,e4,e5,e6,e7,h5,h6,qaC]
theorem EvL.zsD{ι γ:Type}{k:List K}{x:X}{ps:List Nat}{asg body bm:C}{gf:Nat}{first cap:List D}{xs:List ι}{Y:ι→Nat→List D→List LB→Prop}{N n0 κ:Nat}{Gs:Nat→LB}{E:List (Nat×D)}
  (hg:ztG m gf first cap xs Y κ Gs) (hx:evD E x=some (.clo gf first cap)) (hbm:zbY false body=bm) (T:γ→LB→List LB) (P:Nat→γ→Prop) (R:LX→List LB→Prop) (a0:γ)
  (hκ:κ<n0) (hlen:∀ a g,(T a g).length=n0) (hget:∀ a g,(T a g)[κ]? = some g) (hset:∀ a g g',(T a g).set κ g'=T a g') (hgk:∀ i kp,LB.kin kp (Gs i)) (hk0:k0≤n0) (hE:scE (n0+1) E) (hgs:∀ i n,LB.sc n (Gs i)) (hsc:∀ a g,(∀ n,LB.sc n g)→zcH (n0+1) (T a g)) (hR:∀ x L1,R x L1→L1.length=n0∧zcH (n0+1) L1) (hpan:∀ d L1,¬ R (.panic d) L1)
  (hp:P 0 a0)
  (hstep:∀ i a y args G lpF g,xs[i]? = some y→P i a→Y y (n0+1) args G→(∀ kp:Nat→Bool,(∀ b,b<n0+1→kp b=true)→LB.kin kp lpF)→(∀ kp,LB.kin kp g)→∃ E' E1 Gx,zqw N E ps args=some E'∧AsgX N asg E' (n0+1+G.length) E1 Gx ∧
   EvL m (n0+1+G.length) [.code bm] ⟨N,E1,T a g ++ lpF ::(G ++ Gx)⟩ fun x2 S2=>∃ L1,L1.length=n0∧zaV (n0+1+G.length) S2 ⟨S2.N,[],L1 ++ lpF :: G⟩∧(match x2 with | .normal=>∃ a',P (i+1) a'∧L1=T a' g | x2=>R x2 L1))
  (hend:∀ a i,P xs.length a→R .normal (T a (Gs i)))
  (hk:∀ L1,R .normal L1→EvL m k0 k ⟨N,E,L1 ++ [.lost]⟩ Q)
  (hke:∀ id L1,R (.exit id) L1→EvL m k0 (.ex id :: k) ⟨N,E,L1 ++ [.lost]⟩ Q)
  (hkr:∀ L1,R .ret L1→Q .ret ⟨N,E,L1 ++ [.lost]⟩):EvL m k0 (.code (.zem x ps asg body):: k) ⟨N,E,T a0 (Gs 0)⟩ Q:=by
 refine EvL.zsH hx hg T P R a0 hκ hlen hget hset hk0 (zlr hE) hgs hsc hR hpan hp ?_ hend hk hke hkr;intro i a y args G hy hP hY;have hl:=hlen a (Gs i);obtain⟨E',E1,Gx,h1,h2,h3⟩:=hstep i a y args G (.lp false none N E ps asg body) (Gs i) hy hP hY (fun kp hkp j d hj=>zkO hkp (zlr hE j d hj)) (hgk i);refine⟨E',h1,EvL.mono (zrI h2 (by rw[qao,qaL,hl]; omega)) ?_⟩;rintro x1 S1 ⟨rfl,rfl⟩;rw[qa7,qa6];refine⟨rfl,rfl,zhi hl,?_⟩;rw[ziD hl];subst hbm;exact EvL.zgT h3
end
end Go.Dc
