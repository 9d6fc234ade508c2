/-
 Rows of steps that are all passed over. Conditions: none.
-/
import Derived.Test.YtbjogdohfhdaiaaKfDm
set_option linter.unusedSimpArgs false
set_option linter.unusedVariables false
namespace Go.Dc
open Go Go.Mx Go.Lx
section
variable {fns:Mach} {k0:Nat} {Q:LX→LSt→Prop} {S S':LSt} {bar e:Bool}
theorem EvL.op{k:List K}{d:Option Nat}{i:I}{g:Option (Nat×Bool)}{l:List O}(hi:zb6 i=false)(hs:zgn S d i (zaZ S.env g)=some S')(h:EvL fns k0 (.ops bar e l :: k) S' Q):EvL fns k0 (.ops bar e (⟨d,i,g⟩:: l):: k) S Q:=by
 intro c0 H0 c B rd M hd hw hr hB;exact zcO hr hB hi hs fun c' M' hstep hle hdd hb hr'=>h c0 H0 c' B rd M' hd (hw.go hstep hle hr.heap hdd) hr' (by rw[hb]; exact hB)
theorem EvL.zru{k:List K}{o:O}{l:List O}(hw:zaZ S.env o.g=some false)(hs:S.put o.dst zfV=some S')(hk:EvL fns k0 (.ops bar e l :: k) S' Q):EvL fns k0 (.ops bar e (o :: l):: k) S Q:=by
 intro c0 H0 c B rd M hd hway hr hB;have hput:=zcF (L:=S.heap) (H:=M.heap) hr hr.le0 hr.heap (.lit _) hs;refine EvO.skip (zbO hr hw) (hk c0 H0 c B rd _ hd ?_ hput hB);obtain⟨od,oi,og⟩:=o;cases od<;>exact⟨hway.step,hway.le,hway.dfs⟩
def zfR:List Nat→Nat→Bool
 | [],_=>false
 | a :: r,b=>Nat.beq a b || zfR r b
def zgV:D:=.lit (.bool false)
def zqk(N:Nat)(ks F:List Nat):Option Nat→I→Option (Nat×Bool)→Option (List Nat)
 | some d,i,some (g,true)=>bif zfR F g && (!zfR ks d) && (!zfR F d) && Nat.blt d N then some F else none
 | none,i,some (g,true)=>bif zfR F g then some F else none
 | some d,.pick (.s a) _ (.c (.bool false)),none=>bif zfR F a && (!zfR ks d) && Nat.blt d N then some (d :: F)else none
 | some d,.mov (.s a),none=>bif zfR F a && (!zfR ks d) && Nat.blt d N then some (d :: F)else none
 | _,_,_=>none
def zn3(N:Nat)(ks:List Nat)(z:Nat):Nat→List Nat→List O→Option (List O)
 | 0,F,l=>bif zfR F z then some l else none
 | n+1,F,o :: l=>match zqk N ks F o.dst o.i o.g with
  | some F'=>zn3 N ks z n F' l
  | none=>none
 | _+1,_,[]=>none
def ziB(E:List (Nat×D)):List Nat→Prop
 | []=>True
 | f :: r=>lk E f=some zgV∧ziB E r
theorem zfY{E:List (Nat×D)}:∀ {F:List Nat},ziB E F→∀ f,zfR F f=true→lk E f=some zgV
 | [],_,f,h=>by cases h
 | a :: r,h,f,hf=>by
  simp only[zfR,qaR]at hf;rcases hf with hf | hf
  ·have:=qbx hf;subst this;exact h.1
  exact zfY h.2 f hf
theorem zpB:∀ {E:List (Nat×D)} {k:Nat} {d:D},lk E k=some d→zfR (E.map Prod.fst) k=true
 | [],k,d,h=>by cases h
 |(a,b):: r,k,d,h=>by
  simp only[lk]at h;simp only[qay,zfR,qaR];by_cases e:a=k
  ·subst e; exact .inl (Nat.beq_refl _)
  rw[if_neg e]at h;exact .inr (zpB h)
theorem zkE{E:List (Nat×D)}{k:Nat}{d:D}:lk ((k,d):: E) k=some d:=by simp only[lk,if_true]
theorem znf{E:List (Nat×D)}{a k:Nat}{d:D}(h:a≠k):lk ((a,d):: E) k=lk E k:=by simp only[lk,if_neg h]
theorem EvL.znQ{N z:Nat}{E:List (Nat×D)}{H:List LB}{k:List K}{l':List O}(hk:EvL fns k0 (.ops bar e l' :: k) ⟨N,(z,zgV):: E,H⟩ Q):∀(n:Nat) {F:List Nat} {l:List O} {E':List (Nat×D)},(∀ f,zfR F f=true→lk E' f=some zgV)→(∀ k d,lk E k=some d→lk E' k=some d)→zn3 N (E.map Prod.fst) z n F l=some l'→EvL fns k0 (.ops bar e l :: k) ⟨N,E',H⟩ Q
 | 0,F,l,E',hF,hE,h=>by
  simp only[zn3]at h;cases hz:zfR F z with
  | false=>rw[hz]at h; cases h
  | true=>
   rw[hz]at h;cases h;refine EvL.zcY (zbl.env fun j d hj=>?_) hk;by_cases ej:z=j
   ·subst ej;rw[zkE]at hj;cases hj;exact hF _ hz
   ·rw[znf ej]at hj;exact hE _ _ hj
 | n+1,F,[],E',hF,hE,h=>by cases h
 | n+1,F,⟨d,i,g⟩:: l,E',hF,hE,h=>by
  simp only[zn3]at h;cases hs:zqk N (E.map Prod.fst) F d i g with
  | none=>rw[hs]at h; cases h
  | some F'=>
  rw[hs]at h;have hkeep:∀ {j:Nat} {v:D},zfR (E.map Prod.fst) j=false→∀ k d,lk E k=some d→lk ((j,v):: E') k=some d:=fun hj k d hd=>by
   rw[znf (fun e=>by subst e; rw[zpB hd]at hj; cases hj)];exact hE k d hd
  unfold zqk at hs;split at hs
  ·rename_i d g;cases hc:(zfR F g && (!zfR (E.map Prod.fst) d) && (!zfR F d) && Nat.blt d N)with
   | false=>rw[hc]at hs; cases hs
   | true=>
   rw[hc]at hs;cases hs;simp only[qah,qa0]at hc;obtain⟨⟨⟨h1,h2⟩,h3⟩,h4⟩:=hc;refine EvL.zru (S':=⟨N,(d,zfV):: E',H⟩) ?_ ?_ (EvL.znQ hk n (fun f hf=>?_) (hkeep h2) h)
   ·show zhj true (lk E' g)=some false;rw[hF g h1]; rfl
   ·show(if d<N then _ else none)=_;rw[if_pos (by simp[Nat.blt]at h4; omega)]
   rw[znf (fun e=>by subst e; rw[hf]at h3; cases h3)];exact hF f hf
  ·rename_i g;cases hc:zfR F g with
   | false=>rw[hc]at hs; cases hs
   | true=>
   rw[hc]at hs;cases hs;refine EvL.zru (S':=⟨N,E',H⟩) ?_ rfl (EvL.znQ hk n hF hE h);show zhj true (lk E' g)=some false;rw[hF g hc]; rfl
  ·rename_i d a y;cases hc:(zfR F a && (!zfR (E.map Prod.fst) d) && Nat.blt d N)with
   | false=>rw[hc]at hs; cases hs
   | true=>
   rw[hc]at hs;cases hs;simp only[qah,qa0]at hc;obtain⟨⟨h1,h2⟩,h4⟩:=hc;refine EvL.op (S':=⟨N,(d,zgV):: E',H⟩) rfl ?_ (EvL.znQ hk n (fun f hf=>?_) (hkeep h2) h)
   ·have h5:d<N:=by simp[Nat.blt]at h4; omega
    simp[zgn,zaZ,doI,zak,qL,evD,hF a h1,zgV,zeE,LSt.zpj,LSt.put,h5]
   by_cases ed:d=f
   ·subst ed; exact zkE
   rw[znf ed];simp only[zfR,qaR]at hf;rcases hf with hf | hf
   ·exact absurd (qbx hf) ed
   exact hF f hf
  ·rename_i d a;cases hc:(zfR F a && (!zfR (E.map Prod.fst) d) && Nat.blt d N)with
   | false=>rw[hc]at hs; cases hs
   | true=>
   rw[hc]at hs;cases hs;simp only[qah,qa0]at hc;obtain⟨⟨h1,h2⟩,h4⟩:=hc;refine EvL.op (S':=⟨N,(d,zgV):: E',H⟩) rfl ?_ (EvL.znQ hk n (fun f hf=>?_) (hkeep h2) h)
   ·have h5:d<N:=by simp[Nat.blt]at h4; omega
    simp[zgn,zaZ,doI,zak,qL,evD,hF a h1,LSt.zpj,LSt.put,h5]
   by_cases ed:d=f
   ·subst ed; exact zkE
   rw[znf ed];simp only[zfR,qaR]at hf;rcases hf with hf | hf
   ·exact absurd (qbx hf) ed
   exact hF f hf
  cases hs
theorem EvL.dead{N:Nat}{E:List (Nat×D)}{H:List LB}{k:List K}{l l':List O}(n z:Nat)(F:List Nat)(hF:ziB E F)(h:zn3 N (E.map Prod.fst) z n F l=some l')(hk:wp fns k0 (.ops bar e l' :: k) (some ⟨N,(z,.lit (.bool false)):: E,H⟩) Q):EvL fns k0 (.ops bar e l :: k) ⟨N,E,H⟩ Q:=
 EvL.znQ (z:=z) (zac hk) n (zfY hF) (fun _ _ h=>h) h
end
end Go.Dc
