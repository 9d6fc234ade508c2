/-
 The machine with tries: operations, code, calls. Conditions: none.
-/
import Derived.Test.YtbjogdohfhdaiaaGreatESMx19
set_option linter.unusedSimpArgs false
set_option linter.unusedVariables false
namespace Go.Mx
open Go
abbrev KY:=TY→Option (Ex×TY)
structure RecY where
 code:Nat→Option Nat→C→TY→Option (Ex×TY)
 call:Nat→Nat→List V→HY→Option (CR×HY)
 dcall:Nat→Nat→List V→Option V→HY→Option (Option V×HY)
structure RRY (rY:RecY) (r:Rec):Prop where
 code:∀ B rd c T S ex T',RY T S→rY.code B rd c T=some (ex,T')→∃ S',r.code B rd c S=some (ex,S')∧RY T' S'
 call:∀ B f args H h cr H',zeE H h→rY.call B f args H=some (cr,H')→∃ h',r.call B f args h=some (cr,h')∧zeE H' h'
 dcall:∀ B f args pv H h pv' H',zeE H h→rY.dcall B f args pv H=some (pv',H')→∃ h',r.dcall B f args pv h=some (pv',h')∧zeE H' h'
def zzJ(T:TY)(n:Nat)(v:V)(k:KY):Option (Ex×TY):=
 match T with
 | ⟨N,env,dfs,hp⟩=>bif Nat.blt n N then fcX v fun v'=>Tr.put v' 40 env n fun env'=>k ⟨N,env',dfs,hp⟩else none
theorem zr1(T:TY)(n:Nat)(v:V)(k:KY):zzJ T n v k=bif Nat.blt n T.N then fcX v fun v'=>Tr.put v' 40 T.env n fun env'=>k ⟨T.N,env',T.dfs,T.hp⟩else none:=rfl
def zt7(T:TY)(d:Option Nat)(v:V)(k:KY):Option (Ex×TY):=
 match d with
 | none=>k T
 | some n=>zzJ T n v k
theorem zsU{T:TY}{S:St}(h:RY T S){d:Option Nat}{v:V}{k:KY}{x:Ex×TY}(hc:zt7 T d v k=some x):∃ T',RY T' (S.put d v)∧k T'=some x:=by
 cases d with
 | none=>exact⟨T,h,hc⟩
 | some n=>
  simp only[zt7,zr1,zvT]at hc;cases hb:Nat.blt n T.N with
  | false=>rw[hb,cond_false]at hc; cases hc
  | true=>
   rw[hb,cond_true]at hc;have hn:=qbE.mp hb;obtain⟨t',g1,g2⟩:=Tr.zjz _ _ _ _ hc;refine⟨⟨T.N,t',T.dfs,T.hp⟩,⟨?_,fun j=>?_,h.2.2.1,h.2.2.2⟩,g1⟩
   ·simp only[St.put,qaH]; exact h.1
   have hj:=h.2.1 j;simp only[zuG,St.put,qc7]at hj ⊢;rw[g2];by_cases he:j=n
   ·subst he;rw[if_pos rfl,if_pos rfl,if_pos (by rw[h.1]; exact hn)]
   rw[if_neg he,if_neg (fun h0=>he h0.symm)];exact hj
def znI{α:Type}(H:HY)(o:Ob)(c:Nat→HY→Option α):Option α:=zcS H.n fun n=>zyh o fun o'=>Tr.put o' 40 H.t n fun t'=>zcS (Nat.succ n) fun n'=>c n ⟨n',t'⟩
theorem zhL{α:Type}{H:HY}{h:zaj}(hh:zeE H h){o:Ob}{c:Nat→HY→Option α}{x:α}(hc:znI H o c=some x):∃ H',zeE H' (h ++ [o])∧c h.length H'=some x:=by
 simp only[znI,zbK,zrv]at hc;obtain⟨t',g1,g2⟩:=Tr.zjz _ _ _ _ hc;rw[hh.1]at g1 g2;refine⟨⟨_,t'⟩,⟨by simp,fun k=>?_⟩,g1⟩;simp only[g2,hh.2];by_cases hk:k=h.length
 ·subst hk; simp
 rw[if_neg hk];rcases qa3 k h.length with h1 | h1
 ·rw[qal h1]
 rw[qaN (by omega),qaN (by simp; omega)]
def zko{α:Type}(H:HY)(β:Nat)(o:Ob)(c:HY→Option α):Option α:=
 match H with
 | ⟨n,t⟩=>bif Nat.blt β n then zyh o fun o'=>Tr.put o' 40 t β fun t'=>c ⟨n,t'⟩else none
theorem zsP{α:Type}(H:HY)(β:Nat)(o:Ob)(c:HY→Option α):zko H β o c=bif Nat.blt β H.n then zyh o fun o'=>Tr.put o' 40 H.t β fun t'=>c ⟨H.n,t'⟩else none:=rfl
theorem zeq{α:Type}{H:HY}{h:zaj}(hh:zeE H h){β:Nat}{o:Ob}{c:HY→Option α}{x:α}(hc:zko H β o c=some x):∃ H',zeE H' (h.set β o)∧c H'=some x:=by
 simp only[zsP,zrv]at hc;cases hb:Nat.blt β H.n with
 | false=>rw[hb,cond_false]at hc; cases hc
 | true=>
  rw[hb,cond_true]at hc;have hn:=qbE.mp hb;obtain⟨t',g1,g2⟩:=Tr.zjz _ _ _ _ hc;refine⟨⟨H.n,t'⟩,⟨by simp only[qaH]; exact hh.1,fun k=>?_⟩,g1⟩;simp only[g2,hh.2,qc7];by_cases hk:k=β
  ·subst hk; rw[if_pos rfl,if_pos rfl,if_pos (by rw[← hh.1]; exact hn)]
  rw[if_neg hk,if_neg (fun h0=>hk h0.symm)]
def apY{α:Type}(H:HY)(e:EffR)(c:V→HY→Option α):Option α:=
 match e with
 | .zdr v=>c v H
 | .snoc f o=>znI H o fun n H'=>c (f n) H'
 | .set v β o=>zko H β o fun H'=>c v H'
 | .setSnoc β o f o'=>zko H β o fun H1=>znI H1 o' fun n H'=>c (f n) H'
theorem zvk{α:Type}{H:HY}{h:zaj}(hh:zeE H h){e:EffR}{c:V→HY→Option α}{x:α}(hc:apY H e c=some x):∃ H',zeE H' (e.ap h).2∧c (e.ap h).1 H'=some x:=by
 cases e with
 | zdr v=>exact⟨H,hh,hc⟩
 | snoc f o=>exact zhL hh hc
 | set v β o=>exact zeq hh hc
 | setSnoc β o f o'=>
  simp only[apY]at hc;obtain⟨H1,g1,g2⟩:=zeq hh hc;obtain⟨H2,g3,g4⟩:=zhL g1 g2;rw[qaH]at g4;exact⟨H2,g3,g4⟩
def zsa(T:TY)(H:HY):TY:=match T with | ⟨N,env,dfs,_⟩=>⟨N,env,dfs,H⟩
def zAK{α:Type}(T:TY)(k:HY→α):α:=match T with | ⟨_,_,_,⟨n,t⟩⟩=>k ⟨n,t⟩
theorem zsh{α:Type}(T:TY)(k:HY→α):zAK T k=k T.hp:=rfl
theorem RY.heap{T:TY}{S:St}(h:RY T S){H:HY}{hp:zaj}(hh:zeE H hp):RY (zsa T H) { S with heap:=hp }:=⟨h.1,h.2.1,h.2.2.1,hh⟩
def zm1(T:TY):Option (Nat×Bool)→Bool
 | none=>true
 | some (k,want)=>match zuG T k with
  | some (.lit (.bool b))=>b == want
  | _=>false
theorem zpv{T:TY}{S:St}(h:RY T S)(g:Option (Nat×Bool)):zm1 T g=wanted S.env g:=by
 cases g with
 | none=>rfl
 | some kw=>simp only[zm1,wanted,h.2.1]; rfl
def zgs{α:Type}(H:HY)(l:Nat)(st:Bool)(pend:Option Jump)(k:HY→Option α):Option α:=
 match H.t.get l with
 | some (.loop _ _ env ps asg body)=>zko H l (.loop st pend env ps asg body) k
 | _=>none
theorem zfI{α:Type}{H:HY}{h:zaj}(hh:zeE H h){l:Nat}{st:Bool}{pend:Option Jump}{k:HY→Option α}{x:α}(hc:zgs H l st pend k=some x):∃ h' H',zcW h l st pend=some h'∧zeE H' h'∧k H'=some x:=by
 unfold zgs at hc;rw[hh.2]at hc;split at hc
 ·rename_i env ps asg body hl;obtain⟨H',g1,g2⟩:=zeq hh hc;exact⟨_,H',by unfold zcW; rw[hl],g1,g2⟩
 cases hc
def zlh(l:Nat):Option (Ex×TY)→Option (CR×HY)
 | some (.normal,⟨_,_,[],h⟩)=>zgs h l true none fun h'=>some (.ret (.lit (.bool true)),h')
 | some (.ret,⟨_,_,[],h⟩)=>zgs h l false (some .ret) fun h'=>some (.ret (.lit (.bool false)),h')
 | some (.exit id,⟨_,_,[],h⟩)=>zgs h l false (some (.exit id)) fun h'=>some (.ret (.lit (.bool false)),h')
 | _=>none
def zrD(r:RecY)(B l:Nat)(vs:List V)(H:HY):Option (CR×HY):=
 match H.t.get l with
 | some (.loop true none env ps asg body)=>bif Nat.ble B l then(zka env ps vs fun env'=>zcS env'.length fun N=>zvp env' 0 .leaf fun e'=>(match r.code B (some l) asg ⟨N,e',[],H⟩with
   | some (.normal,⟨N1,env1,[],h1⟩)=>(match h1.t.get l with
    | some (.loop true none e1 p1 a1 b1)=>zko h1 l (.loop false none e1 p1 a1 b1) fun h2=>zlh l (r.code B (some l) body ⟨N1,env1,[],h2⟩)
    | _=>none)
   | _=>none))else none
 | _=>none
theorem zwa{l:List V}{t:Tr V}(h:∀ j,t.get j=if 0≤j∧j<0+l.length then l[j - 0]? else(Tr.leaf:Tr V).get j){ds:List Df}{H:HY}{hp:zaj}(hh:zeE H hp):RY ⟨l.length,t,ds,H⟩ ⟨l,ds,hp⟩:=by
 refine⟨rfl,fun k=>?_,rfl,hh⟩;simp only[zuG,h];by_cases hk:k<l.length
 ·rw[if_pos (by omega),qcU,qac hk]
 rw[if_neg (by omega),qaN (by omega)];simp only[Tr.get,zfl,hk,decide_false,cond_false]
theorem zl9{l:Nat}{ex:Ex}{T:TY}{S:St}(hS:RY T S){cr:CR}{H':HY}(hc:zlh l (some (ex,T))=some (cr,H')):∃ h',zbo l (some (ex,S))=some (cr,h')∧zeE H' h':=by
 obtain⟨N,e,ds,H⟩:=T;obtain⟨se,sd,sh⟩:=S;obtain⟨h1,h2,h3,h4⟩:=hS;simp only at h1 h2 h3 h4;subst h3;cases ds with
 | cons d ds=>cases ex<;>cases hc
 | nil=>
  cases ex with
  | normal=>
   obtain⟨h',H2,g1,g2,g3⟩:=zfI h4 hc;cases g3;exact⟨h',by simp only[zbo,g1]; rfl,g2⟩
  | ret=>
   obtain⟨h',H2,g1,g2,g3⟩:=zfI h4 hc;cases g3;exact⟨h',by simp only[zbo,g1]; rfl,g2⟩
  | exit id=>
   obtain⟨h',H2,g1,g2,g3⟩:=zfI h4 hc;cases g3;exact⟨h',by simp only[zbo,g1]; rfl,g2⟩
  | panic v e=>cases hc
theorem ztq{rY:RecY}{r:Rec}(hr:RRY rY r){B l:Nat}{vs:List V}{H:HY}{h:zaj}(hh:zeE H h){cr:CR}{H':HY}(hc:zrD rY B l vs H=some (cr,H')):∃ h',round r B l vs h=some (cr,h')∧zeE H' h':=by
 unfold zrD at hc;rw[hh.2]at hc;unfold round;split at hc
 ·rename_i env ps asg body hl;rw[hl];cases hB:Nat.ble B l with
  | false=>rw[hB,cond_false]at hc; cases hc
  | true=>
   rw[hB,cond_true,zjy]at hc;simp only[cond_true];split at hc
   ·rename_i env' hs;rw[hs];simp only[zbK]at hc ⊢;obtain⟨e',g1,g2⟩:=zg4 _ _ _ _ hc;split at g1
    ·rename_i N1 env1 h1 hcode;obtain⟨S1,k1,k2⟩:=hr.code _ _ _ _ _ _ _ (zwa g2 hh) hcode;rw[k1];obtain⟨se1,sd1,sh1⟩:=S1;obtain⟨m1,m2,m3,m4⟩:=k2;simp only at m1 m2 m3 m4;subst m3;simp only[];rw[m4.2]at g1;split at g1
     ·rename_i e1 p1 a1 b1 hl1;rw[hl1];obtain⟨H2,n1,n2⟩:=zeq m4 g1;cases hbody:rY.code B (some l) body ⟨N1,env1,[],H2⟩with
      | none=>rw[hbody]at n2; cases n2
      | some res=>
       obtain⟨ex2,T2⟩:=res;rw[hbody]at n2;obtain⟨S2,p1',p2'⟩:=hr.code _ _ _ ⟨N1,env1,[],H2⟩ ⟨se1,[],sh1.set l (.loop false none e1 p1 a1 b1)⟩ _ _ ⟨m1,m2,rfl,n1⟩ hbody;simp only[p1'];exact zl9 p2' n2
     cases g1
    cases g1
   cases hc
 cases hc
def zrJ(r:RecY)(B:Nat)(v:V)(vs:List V)(H:HY):Option (CR×HY):=
 match v with
 | .clo f first cap=>zcH (first ++ vs ++ cap) fun l=>r.call B f l H
 | .yld l=>zrD r B l vs H
 | _=>none
theorem zsY{rY:RecY}{r:Rec}(hr:RRY rY r){B:Nat}{v:V}{vs:List V}{H:HY}{h:zaj}(hh:zeE H h){cr:CR}{H':HY}(hc:zrJ rY B v vs H=some (cr,H')):∃ h',zma r B v vs h=some (cr,h')∧zeE H' h':=by
 unfold zrJ at hc;unfold zma;split at hc
 ·rw[zck]at hc; exact hr.call _ _ _ _ _ _ _ hh hc
 ·exact ztq hr hh hc
 cases hc
end Go.Mx
