/-
 States behind blocks of which nothing is known but where they lead. Conditions: none.
-/
import Derived.Test.YtbjogdohfhdaiaaEkDcU
set_option linter.unusedSimpArgs false
set_option linter.unusedVariables false
namespace Go.Dc
open Go Go.Mx Go.Lx
theorem zqj{n:Nat}{kp:Nat→Bool}(hk:∀ b,b<n→kp b=true){b:LB}(h:b.sc n):LB.kin kp b:=by
 cases b with
 | cells ds=>exact zfQ hk h
 | els n es=>exact fun cells hc=>zfQ hk (h cells hc)
 | grow n es=>exact fun cells hc=>zfQ hk (h cells hc)
 | gone=>trivial
 | lp st pend N E ps asg body=>exact fun k d hd=>zkO hk (h k d hd)
 | lost=>trivial
def zdU(n:Nat)(as:List Lx.Act):List Lx.Act:=List.replicate n .k ++ as
theorem zm2{n β:Nat}{as:List Lx.Act}(h:β<n):(zdU n as)[β]? = some .k:=by
 unfold zdU;rw[qaj (by simpa using h),List.getElem?_replicate,if_pos h]
theorem zhY{n j:Nat}{as:List Lx.Act}:(zdU n as)[n+j]? = as[j]?:=by
 unfold zdU;rw[qam (by simp),qbH,qaV]
theorem ze7{n β:Nat}{as:List Lx.Act}(h:β<n):isK (zdU n as) β=true:=by unfold isK; rw[zm2 h]
theorem zpk{n j:Nat}{as:List Lx.Act}(h:as[j]? = some .f):isF (zdU n as) (n+j)=true:=by unfold isF; rw[zhY,h]
theorem zpF{n:Nat}{as:List Lx.Act}(h:as[0]? = some .f):isF (zdU n as) n=true:=zpk (j:=0) h
theorem zr0{n j:Nat}{as:List Lx.Act}(h:as[j]? = some .k):isK (zdU n as) (n+j)=true:=by unfold isK; rw[zhY,h]
theorem MBs.of{L0:List LB}{as:List Lx.Act}:∀ {i:Nat} {L L':List LB},L'.length≤L.length→(∀(j:Nat) b b',L[j]? = some b→L'[j]? = some b'→(match as[i+j]? with | some .k=>MB L0 (isF as) (isK as) b b' | _=>b'=.gone))→MBs L0 as i L L'
 | i,L,[],_,_=>by cases L<;>trivial
 | i,[],_ :: _,h,_=>by simp at h
 | i,b :: r,b' :: r',h,hb=>by
  refine⟨hb 0 b b' rfl rfl,MBs.of (by simpa using h) fun j c c' h1 h2=>?_⟩;have:=hb (j+1) c c' (by simpa using h1) (by simpa using h2);rw[show i+(j+1)=i+1+j by omega]at this;exact this
def MBx(L0:List LB)(F kp:Nat→Bool):List Lx.Act→List LB→List LB→Prop
 | _,_,[]=>True
 | .k :: as,b :: r,b' :: r'=>MB L0 F kp b b'∧MBx L0 F kp as r r'
 | .f :: as,_ :: r,b' :: r'=>b'=.gone∧MBx L0 F kp as r r'
 | .d :: as,_ :: r,b' :: r'=>b'=.gone∧MBx L0 F kp as r r'
 | _,_,_=>False
theorem MBx.get{L0:List LB}{F kp:Nat→Bool}:∀ {as:List Lx.Act} {X Y:List LB},MBx L0 F kp as X Y→Y.length≤X.length∧∀(j:Nat) b b',X[j]? = some b→Y[j]? = some b'→(match as[j]? with | some .k=>MB L0 F kp b b' | _=>b'=.gone)
 | _,X,[],_=>⟨by simp,fun j b b' _ h=>by simp at h⟩
 | .k :: as,b :: r,b' :: r',h=>by
  obtain⟨h1,h2⟩:=MBx.get h.2;refine⟨by simpa using h1,fun j c c' g1 g2=>?_⟩;cases j with
  | zero=>simp at g1 g2; subst g1; subst g2; exact h.1
  | succ j=>simpa using h2 j c c' (by simpa using g1) (by simpa using g2)
 | .f :: as,b :: r,b' :: r',h=>by
  obtain⟨h1,h2⟩:=MBx.get h.2;refine⟨by simpa using h1,fun j c c' g1 g2=>?_⟩;cases j with
  | zero=>simp at g1 g2; subst g1; subst g2; exact h.1
  | succ j=>simpa using h2 j c c' (by simpa using g1) (by simpa using g2)
 | .d :: as,b :: r,b' :: r',h=>by
  obtain⟨h1,h2⟩:=MBx.get h.2;refine⟨by simpa using h1,fun j c c' g1 g2=>?_⟩;cases j with
  | zero=>simp at g1 g2; subst g1; subst g2; exact h.1
  | succ j=>simpa using h2 j c c' (by simpa using g1) (by simpa using g2)
 | [],_,_ :: _,h=>h.elim
 | .k :: _,[],_ :: _,h=>h.elim
 | .f :: _,[],_ :: _,h=>h.elim
 | .d :: _,[],_ :: _,h=>h.elim
theorem zaV.zrw{k0 N n:Nat}{E E':List (Nat×D)}{L L1 X Y:List LB}(as:List Lx.Act)(hn:L.length=n)(hk:k0≤n)(hl:L1.length=n)(hb:∀(j:Nat) b b',L[j]? = some b→L1[j]? = some b'→MB (L ++ X) (isF (zdU n as)) (isK (zdU n as)) b b')
  (hX:MBx (L ++ X) (isF (zdU n as)) (isK (zdU n as)) as X Y) (hY:zle as Y.length=true) (hE:MEs (L ++ X) (zdU n as) E E'):zaV k0 ⟨N,E,L ++ X⟩ ⟨N,E',L1 ++ Y⟩:=by
 obtain⟨g1,g2⟩:=hX.get;refine zaV.zel (zdU n as) (fun β h=>ze7 (by omega)) (fun β h=>?_) hE (MBs.of (by rw[qao,qao]; omega) fun j b b' h1 h2=>?_)
 ·rw[qao,hl];rcases qaT β n with hβ | hβ
  ·omega
  obtain⟨j,rfl⟩:∃ j,β=n+j:=⟨β - n,by omega⟩;have:isK as j=true:=by
   unfold isK at h ⊢;rw[zhY]at h;exact h
  have:=zge hY j this;omega
 rw[qay];rcases qaT j n with hj | hj
 ·rw[zm2 hj];rw[qaj (by omega)]at h1 h2;exact hb j b b' h1 h2
 obtain⟨m,rfl⟩:∃ m,j=n+m:=⟨j - n,by omega⟩;rw[qam (by omega),hn,qaV]at h1;rw[qam (by omega),hl,qaV]at h2;rw[zhY];exact g2 m b b' h1 h2
theorem zkJ{n:Nat}{L L0:List LB}{as:List Lx.Act}(hsc:zcH n L):∀(j:Nat) b b',L[j]? = some b→L[j]? = some b'→MB L0 (isF (zdU n as)) (isK (zdU n as)) b b':=by
 intro j b b' h1 h2;rw[h1]at h2;cases h2;exact .same (zqj (fun β hβ=>ze7 hβ) (zih hsc h1))
theorem zrC{n κ:Nat}{L L0:List LB}{g g':LB}{as:List Lx.Act}(hsc:zcH n L)(hg:MB L0 (isF (zdU n as)) (isK (zdU n as)) g g'):∀(j:Nat) b b',(L.set κ g)[j]? = some b→(L.set κ g')[j]? = some b'→MB L0 (isF (zdU n as)) (isK (zdU n as)) b b':=by
 intro j b b' h1 h2;by_cases e:κ=j
 ·subst e;rw[List.getElem?_set]at h1 h2;simp only[if_true]at h1 h2;split at h1
  ·rename_i hlt;cases h1;rw[if_pos hlt]at h2;cases h2; exact hg
  cases h1
 rw[qak e]at h1 h2;exact zkJ hsc j b b' h1 h2
theorem zaV.pad{k0 N:Nat}{E:List (Nat×D)}{L X:List LB}(hX:∀ b∈X,b=.gone):zaV k0 ⟨N,E,L⟩ ⟨N,E,L ++ X⟩:=by
 intro c M h;refine⟨c,⟨h.env,h.len,⟨h.heap.base,h.heap.za,h.heap.zf,h.heap.own,h.heap.inj,fun β x hx=>?_,fun β o ho=>?_⟩⟩,Step.refl _ _,Cx.leK.refl _ _⟩
 ·have:=h.heap.scope β x hx;simp only[qao]at this ⊢;omega
 rcases qaT β L.length with hβ | hβ
 ·rw[qaj hβ]at ho;exact h.heap.obj β o ho
 rw[qam hβ]at ho;rw[hX o (qar ho)];show c.ρ β=none;cases hr:c.ρ β with
 | none=>rfl
 | some x=>have:=h.heap.scope β x hr; simp only at this; omega
end Go.Dc
