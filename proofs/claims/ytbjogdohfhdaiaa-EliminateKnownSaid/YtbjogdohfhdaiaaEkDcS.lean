/-
 Rows of steps that are all passed over. Conditions: none.
-/
import Derived.Test.YtbjogdohfhdaiaaEkDm
set_option linter.unusedSimpArgs false
set_option linter.unusedVariables false
namespace Go.Dc
open Go Go.Mx Go.Lx
section
variable {fns:Mach} {k0:Nat} {Q:LX→LSt→Prop} {S S':LSt} {bar e:Bool}
theorem EvL.op{k:List K}{d:Option Nat}{i:I}{g:Option (Nat×Bool)}{l:List O}(hi:zcr i=false)(hs:ziQ S d i (zaX S.env g)=some S')(h:EvL fns k0 (.ops bar e l :: k) S' Q):EvL fns k0 (.ops bar e (⟨d,i,g⟩:: l):: k) S Q:=by
 intro c0 H0 c B rd M hd hw hr hB;exact zdA hr hB hi hs fun c' M' hstep hle hdd hb hr'=>h c0 H0 c' B rd M' hd (hw.go hstep hle hr.heap hdd) hr' (by rw[hb]; exact hB)
theorem EvL.zsa{k:List K}{o:O}{l:List O}(hw:zaX S.env o.g=some false)(hs:S.put o.dst zhw=some S')(hk:EvL fns k0 (.ops bar e l :: k) S' Q):EvL fns k0 (.ops bar e (o :: l):: k) S Q:=by
 intro c0 H0 c B rd M hd hway hr hB;have hput:=zdk (L:=S.heap) (H:=M.heap) hr hr.le0 hr.heap (.lit _) hs;refine EvO.skip (zb9 hr hw) (hk c0 H0 c B rd _ hd ?_ hput hB);obtain⟨od,oi,og⟩:=o;cases od<;>exact⟨hway.step,hway.le,hway.dfs⟩
def zhs:List Nat→Nat→Bool
 | [],_=>false
 | a :: r,b=>Nat.beq a b || zhs r b
def ziR:D:=.lit (.bool false)
def zrN(N:Nat)(ks F:List Nat):Option Nat→I→Option (Nat×Bool)→Option (List Nat)
 | some d,i,some (g,true)=>bif zhs F g && (!zhs ks d) && (!zhs F d) && Nat.blt d N then some F else none
 | none,i,some (g,true)=>bif zhs F g then some F else none
 | some d,.pick (.s a) _ (.c (.bool false)),none=>bif zhs F a && (!zhs ks d) && Nat.blt d N then some (d :: F)else none
 | some d,.mov (.s a),none=>bif zhs F a && (!zhs ks d) && Nat.blt d N then some (d :: F)else none
 | _,_,_=>none
def zoE(N:Nat)(ks:List Nat)(z:Nat):Nat→List Nat→List O→Option (List O)
 | 0,F,l=>bif zhs F z then some l else none
 | n+1,F,o :: l=>match zrN N ks F o.dst o.i o.g with
  | some F'=>zoE N ks z n F' l
  | none=>none
 | _+1,_,[]=>none
def zke(E:List (Nat×D)):List Nat→Prop
 | []=>True
 | f :: r=>lk E f=some ziR∧zke E r
theorem zhx{E:List (Nat×D)}:∀ {F:List Nat},zke E F→∀ f,zhs F f=true→lk E f=some ziR
 | [],_,f,h=>by cases h
 | a :: r,h,f,hf=>by
  simp only[zhs,qaO]at hf;rcases hf with hf | hf
  ·have:=qbq hf;subst this;exact h.1
  exact zhx h.2 f hf
theorem zqC:∀ {E:List (Nat×D)} {k:Nat} {d:D},lk E k=some d→zhs (E.map Prod.fst) k=true
 | [],k,d,h=>by cases h
 |(a,b):: r,k,d,h=>by
  simp only[lk]at h;simp only[qaH,zhs,qaO];by_cases e:a=k
  ·subst e; exact .inl (Nat.beq_refl _)
  rw[if_neg e]at h;exact .inr (zqC h)
theorem zl4{E:List (Nat×D)}{k:Nat}{d:D}:lk ((k,d):: E) k=some d:=by simp only[lk,if_true]
theorem zo9{E:List (Nat×D)}{a k:Nat}{d:D}(h:a≠k):lk ((a,d):: E) k=lk E k:=by simp only[lk,if_neg h]
theorem EvL.zoO{N z:Nat}{E:List (Nat×D)}{H:List LB}{k:List K}{l':List O}(hk:EvL fns k0 (.ops bar e l' :: k) ⟨N,(z,ziR):: E,H⟩ Q):∀(n:Nat) {F:List Nat} {l:List O} {E':List (Nat×D)},(∀ f,zhs F f=true→lk E' f=some ziR)→(∀ k d,lk E k=some d→lk E' k=some d)→zoE N (E.map Prod.fst) z n F l=some l'→EvL fns k0 (.ops bar e l :: k) ⟨N,E',H⟩ Q
 | 0,F,l,E',hF,hE,h=>by
  simp only[zoE]at h;cases hz:zhs F z with
  | false=>rw[hz]at h; cases h
  | true=>
   rw[hz]at h;cases h;refine EvL.zeH (zaV.env fun j d hj=>?_) hk;by_cases ej:z=j
   ·subst ej;rw[zl4]at hj;cases hj;exact hF _ hz
   ·rw[zo9 ej]at hj;exact hE _ _ hj
 | n+1,F,[],E',hF,hE,h=>by cases h
 | n+1,F,⟨d,i,g⟩:: l,E',hF,hE,h=>by
  simp only[zoE]at h;cases hs:zrN N (E.map Prod.fst) F d i g with
  | none=>rw[hs]at h; cases h
  | some F'=>
  rw[hs]at h;have hkeep:∀ {j:Nat} {v:D},zhs (E.map Prod.fst) j=false→∀ k d,lk E k=some d→lk ((j,v):: E') k=some d:=fun hj k d hd=>by
   rw[zo9 (fun e=>by subst e; rw[zqC hd]at hj; cases hj)];exact hE k d hd
  unfold zrN at hs;split at hs
  ·rename_i d g;cases hc:(zhs F g && (!zhs (E.map Prod.fst) d) && (!zhs F d) && Nat.blt d N)with
   | false=>rw[hc]at hs; cases hs
   | true=>
   rw[hc]at hs;cases hs;simp only[qag,qaX]at hc;obtain⟨⟨⟨h1,h2⟩,h3⟩,h4⟩:=hc;refine EvL.zsa (S':=⟨N,(d,zhw):: E',H⟩) ?_ ?_ (EvL.zoO hk n (fun f hf=>?_) (hkeep h2) h)
   ·show zi9 true (lk E' g)=some false;rw[hF g h1]; rfl
   ·show(if d<N then _ else none)=_;rw[if_pos (by simp[Nat.blt]at h4; omega)]
   rw[zo9 (fun e=>by subst e; rw[hf]at h3; cases h3)];exact hF f hf
  ·rename_i g;cases hc:zhs F g with
   | false=>rw[hc]at hs; cases hs
   | true=>
   rw[hc]at hs;cases hs;refine EvL.zsa (S':=⟨N,E',H⟩) ?_ rfl (EvL.zoO hk n hF hE h);show zi9 true (lk E' g)=some false;rw[hF g hc]; rfl
  ·rename_i d a y;cases hc:(zhs F a && (!zhs (E.map Prod.fst) d) && Nat.blt d N)with
   | false=>rw[hc]at hs; cases hs
   | true=>
   rw[hc]at hs;cases hs;simp only[qag,qaX]at hc;obtain⟨⟨h1,h2⟩,h4⟩:=hc;refine EvL.op (S':=⟨N,(d,ziR):: E',H⟩) rfl ?_ (EvL.zoO hk n (fun f hf=>?_) (hkeep h2) h)
   ·have h5:d<N:=by simp[Nat.blt]at h4; omega
    simp[ziQ,zaX,doI,zan,qL,evD,hF a h1,ziR,zgh,LSt.zqY,LSt.put,h5]
   by_cases ed:d=f
   ·subst ed; exact zl4
   rw[zo9 ed];simp only[zhs,qaO]at hf;rcases hf with hf | hf
   ·exact absurd (qbq hf) ed
   exact hF f hf
  ·rename_i d a;cases hc:(zhs F a && (!zhs (E.map Prod.fst) d) && Nat.blt d N)with
   | false=>rw[hc]at hs; cases hs
   | true=>
   rw[hc]at hs;cases hs;simp only[qag,qaX]at hc;obtain⟨⟨h1,h2⟩,h4⟩:=hc;refine EvL.op (S':=⟨N,(d,ziR):: E',H⟩) rfl ?_ (EvL.zoO hk n (fun f hf=>?_) (hkeep h2) h)
   ·have h5:d<N:=by simp[Nat.blt]at h4; omega
    simp[ziQ,zaX,doI,zan,qL,evD,hF a h1,LSt.zqY,LSt.put,h5]
   by_cases ed:d=f
   ·subst ed; exact zl4
   rw[zo9 ed];simp only[zhs,qaO]at hf;rcases hf with hf | hf
   ·exact absurd (qbq hf) ed
   exact hF f hf
  cases hs
theorem EvL.dead{N:Nat}{E:List (Nat×D)}{H:List LB}{k:List K}{l l':List O}(n z:Nat)(F:List Nat)(hF:zke E F)(h:zoE N (E.map Prod.fst) z n F l=some l')(hk:wp fns k0 (.ops bar e l' :: k) (some ⟨N,(z,.lit (.bool false)):: E,H⟩) Q):EvL fns k0 (.ops bar e l :: k) ⟨N,E,H⟩ Q:=
 EvL.zoO (z:=z) (zaa hk) n (zhx hF) (fun _ _ h=>h) h
end
end Go.Dc
