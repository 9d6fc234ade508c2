/-
 The machine with tries: operations, code, calls. Conditions: none.
-/
import Derived.Test.YtnfgibomhkbcpaaNrMx19
set_option linter.unusedSimpArgs false
set_option linter.unusedVariables false
namespace Go.Mx
open Go
abbrev KY:=TY→Option (Ex×TY)
structure RecY where
 code:Nat→Option Nat→C→TY→Option (Ex×TY)
 call:Nat→Nat→List V→HY→Option (CR×HY)
 dcall:Nat→Nat→List V→Option V→HY→Option (Option V×HY)
structure RRY (rY:RecY) (r:Rec):Prop where
 code:∀ B rd c T S ex T',RY T S→rY.code B rd c T=some (ex,T')→∃ S',r.code B rd c S=some (ex,S')∧RY T' S'
 call:∀ B f args H h cr H',zeB H h→rY.call B f args H=some (cr,H')→∃ h',r.call B f args h=some (cr,h')∧zeB H' h'
 dcall:∀ B f args pv H h pv' H',zeB H h→rY.dcall B f args pv H=some (pv',H')→∃ h',r.dcall B f args pv h=some (pv',h')∧zeB H' h'
def zxC(T:TY)(n:Nat)(v:V)(k:KY):Option (Ex×TY):=
 match T with
 | ⟨N,env,dfs,hp⟩=>bif Nat.blt n N then fcX v fun v'=>Tr.put v' 40 env n fun env'=>k ⟨N,env',dfs,hp⟩else none
theorem zro(T:TY)(n:Nat)(v:V)(k:KY):zxC T n v k=bif Nat.blt n T.N then fcX v fun v'=>Tr.put v' 40 T.env n fun env'=>k ⟨T.N,env',T.dfs,T.hp⟩else none:=rfl
def ztL(T:TY)(d:Option Nat)(v:V)(k:KY):Option (Ex×TY):=
 match d with
 | none=>k T
 | some n=>zxC T n v k
theorem zrc{T:TY}{S:St}(h:RY T S){d:Option Nat}{v:V}{k:KY}{x:Ex×TY}(hc:ztL T d v k=some x):∃ T',RY T' (S.put d v)∧k T'=some x:=by
 cases d with
 | none=>exact⟨T,h,hc⟩
 | some n=>
  simp only[ztL,zro,zuB]at hc;cases hb:Nat.blt n T.N with
  | false=>rw[hb,cond_false]at hc; cases hc
  | true=>
   rw[hb,cond_true]at hc;have hn:=qbt.mp hb;obtain⟨t',g1,g2⟩:=Tr.ziD _ _ _ _ hc;refine⟨⟨T.N,t',T.dfs,T.hp⟩,⟨?_,fun j=>?_,h.2.2.1,h.2.2.2⟩,g1⟩
   ·simp only[St.put,qaI]; exact h.1
   have hj:=h.2.1 j;simp only[ztJ,St.put,qcT]at hj ⊢;rw[g2];by_cases he:j=n
   ·subst he;rw[if_pos rfl,if_pos rfl,if_pos (by rw[h.1]; exact hn)]
   rw[if_neg he,if_neg (fun h0=>he h0.symm)];exact hj
def zjP{α:Type}(H:HY)(o:Ob)(c:Nat→HY→Option α):Option α:=zdg H.n fun n=>zxx o fun o'=>Tr.put o' 40 H.t n fun t'=>zdg (Nat.succ n) fun n'=>c n ⟨n',t'⟩
theorem zgA{α:Type}{H:HY}{h:zak}(hh:zeB H h){o:Ob}{c:Nat→HY→Option α}{x:α}(hc:zjP H o c=some x):∃ H',zeB H' (h ++ [o])∧c h.length H'=some x:=by
 simp only[zjP,zcj,zmu]at hc;obtain⟨t',g1,g2⟩:=Tr.ziD _ _ _ _ hc;rw[hh.1]at g1 g2;refine⟨⟨_,t'⟩,⟨by simp,fun k=>?_⟩,g1⟩;simp only[g2,hh.2];by_cases hk:k=h.length
 ·subst hk; simp
 rw[if_neg hk];rcases qa0 k h.length with h1 | h1
 ·rw[qal h1]
 rw[qa4 (by omega),qa4 (by simp; omega)]
def zkH{α:Type}(H:HY)(β:Nat)(o:Ob)(c:HY→Option α):Option α:=
 match H with
 | ⟨n,t⟩=>bif Nat.blt β n then zxx o fun o'=>Tr.put o' 40 t β fun t'=>c ⟨n,t'⟩else none
theorem zr7{α:Type}(H:HY)(β:Nat)(o:Ob)(c:HY→Option α):zkH H β o c=bif Nat.blt β H.n then zxx o fun o'=>Tr.put o' 40 H.t β fun t'=>c ⟨H.n,t'⟩else none:=rfl
theorem zel{α:Type}{H:HY}{h:zak}(hh:zeB H h){β:Nat}{o:Ob}{c:HY→Option α}{x:α}(hc:zkH H β o c=some x):∃ H',zeB H' (h.set β o)∧c H'=some x:=by
 simp only[zr7,zmu]at hc;cases hb:Nat.blt β H.n with
 | false=>rw[hb,cond_false]at hc; cases hc
 | true=>
  rw[hb,cond_true]at hc;have hn:=qbt.mp hb;obtain⟨t',g1,g2⟩:=Tr.ziD _ _ _ _ hc;refine⟨⟨H.n,t'⟩,⟨by simp only[qaI]; exact hh.1,fun k=>?_⟩,g1⟩;simp only[g2,hh.2,qcT];by_cases hk:k=β
  ·subst hk; rw[if_pos rfl,if_pos rfl,if_pos (by rw[← hh.1]; exact hn)]
  rw[if_neg hk,if_neg (fun h0=>hk h0.symm)]
def apY{α:Type}(H:HY)(e:EffR)(c:V→HY→Option α):Option α:=
 match e with
 | .zeJ v=>c v H
 | .snoc f o=>zjP H o fun n H'=>c (f n) H'
 | .set v β o=>zkH H β o fun H'=>c v H'
 | .setSnoc β o f o'=>zkH H β o fun H1=>zjP H1 o' fun n H'=>c (f n) H'
theorem zwN{α:Type}{H:HY}{h:zak}(hh:zeB H h){e:EffR}{c:V→HY→Option α}{x:α}(hc:apY H e c=some x):∃ H',zeB H' (e.ap h).2∧c (e.ap h).1 H'=some x:=by
 cases e with
 | zeJ v=>exact⟨H,hh,hc⟩
 | snoc f o=>exact zgA hh hc
 | set v β o=>exact zel hh hc
 | setSnoc β o f o'=>
  simp only[apY]at hc;obtain⟨H1,g1,g2⟩:=zel hh hc;obtain⟨H2,g3,g4⟩:=zgA g1 g2;rw[qaI]at g4;exact⟨H2,g3,g4⟩
def zsw(T:TY)(H:HY):TY:=match T with | ⟨N,env,dfs,_⟩=>⟨N,env,dfs,H⟩
def zyC{α:Type}(T:TY)(k:HY→α):α:=match T with | ⟨_,_,_,⟨n,t⟩⟩=>k ⟨n,t⟩
theorem zrC{α:Type}(T:TY)(k:HY→α):zyC T k=k T.hp:=rfl
theorem RY.heap{T:TY}{S:St}(h:RY T S){H:HY}{hp:zak}(hh:zeB H hp):RY (zsw T H) { S with heap:=hp }:=⟨h.1,h.2.1,h.2.2.1,hh⟩
def zmx(T:TY):Option (Nat×Bool)→Bool
 | none=>true
 | some (k,want)=>match ztJ T k with
  | some (.lit (.bool b))=>b == want
  | _=>false
theorem zpR{T:TY}{S:St}(h:RY T S)(g:Option (Nat×Bool)):zmx T g=wanted S.env g:=by
 cases g with
 | none=>rfl
 | some kw=>simp only[zmx,wanted,h.2.1]; rfl
def zf6{α:Type}(H:HY)(l:Nat)(st:Bool)(pend:Option Jump)(k:HY→Option α):Option α:=
 match H.t.get l with
 | some (.loop _ _ env ps asg body)=>zkH H l (.loop st pend env ps asg body) k
 | _=>none
theorem zfG{α:Type}{H:HY}{h:zak}(hh:zeB H h){l:Nat}{st:Bool}{pend:Option Jump}{k:HY→Option α}{x:α}(hc:zf6 H l st pend k=some x):∃ h' H',zc7 h l st pend=some h'∧zeB H' h'∧k H'=some x:=by
 unfold zf6 at hc;rw[hh.2]at hc;split at hc
 ·rename_i env ps asg body hl;obtain⟨H',g1,g2⟩:=zel hh hc;exact⟨_,H',by unfold zc7; rw[hl],g1,g2⟩
 cases hc
def zl9(l:Nat):Option (Ex×TY)→Option (CR×HY)
 | some (.normal,⟨_,_,[],h⟩)=>zf6 h l true none fun h'=>some (.ret (.lit (.bool true)),h')
 | some (.ret,⟨_,_,[],h⟩)=>zf6 h l false (some .ret) fun h'=>some (.ret (.lit (.bool false)),h')
 | some (.exit id,⟨_,_,[],h⟩)=>zf6 h l false (some (.exit id)) fun h'=>some (.ret (.lit (.bool false)),h')
 | _=>none
def zqs(r:RecY)(B l:Nat)(vs:List V)(H:HY):Option (CR×HY):=
 match H.t.get l with
 | some (.loop true none env ps asg body)=>bif Nat.ble B l then(zko env ps vs fun env'=>zdg env'.length fun N=>zwC env' 0 .leaf fun e'=>(match r.code B (some l) asg ⟨N,e',[],H⟩with
   | some (.normal,⟨N1,env1,[],h1⟩)=>(match h1.t.get l with
    | some (.loop true none e1 p1 a1 b1)=>zkH h1 l (.loop false none e1 p1 a1 b1) fun h2=>zl9 l (r.code B (some l) body ⟨N1,env1,[],h2⟩)
    | _=>none)
   | _=>none))else none
 | _=>none
theorem zvb{l:List V}{t:Tr V}(h:∀ j,t.get j=if 0≤j∧j<0+l.length then l[j - 0]? else(Tr.leaf:Tr V).get j){ds:List Df}{H:HY}{hp:zak}(hh:zeB H hp):RY ⟨l.length,t,ds,H⟩ ⟨l,ds,hp⟩:=by
 refine⟨rfl,fun k=>?_,rfl,hh⟩;simp only[ztJ,h];by_cases hk:k<l.length
 ·rw[if_pos (by omega),qcw,qad hk]
 rw[if_neg (by omega),qa4 (by omega)];simp only[Tr.get,zfs,hk,decide_false,cond_false]
theorem zkT{l:Nat}{ex:Ex}{T:TY}{S:St}(hS:RY T S){cr:CR}{H':HY}(hc:zl9 l (some (ex,T))=some (cr,H')):∃ h',zbx l (some (ex,S))=some (cr,h')∧zeB H' h':=by
 obtain⟨N,e,ds,H⟩:=T;obtain⟨se,sd,sh⟩:=S;obtain⟨h1,h2,h3,h4⟩:=hS;simp only at h1 h2 h3 h4;subst h3;cases ds with
 | cons d ds=>cases ex<;>cases hc
 | nil=>
  cases ex with
  | normal=>
   obtain⟨h',H2,g1,g2,g3⟩:=zfG h4 hc;cases g3;exact⟨h',by simp only[zbx,g1]; rfl,g2⟩
  | ret=>
   obtain⟨h',H2,g1,g2,g3⟩:=zfG h4 hc;cases g3;exact⟨h',by simp only[zbx,g1]; rfl,g2⟩
  | exit id=>
   obtain⟨h',H2,g1,g2,g3⟩:=zfG h4 hc;cases g3;exact⟨h',by simp only[zbx,g1]; rfl,g2⟩
  | panic v e=>cases hc
theorem zqx{rY:RecY}{r:Rec}(hr:RRY rY r){B l:Nat}{vs:List V}{H:HY}{h:zak}(hh:zeB H h){cr:CR}{H':HY}(hc:zqs rY B l vs H=some (cr,H')):∃ h',round r B l vs h=some (cr,h')∧zeB H' h':=by
 unfold zqs at hc;rw[hh.2]at hc;unfold round;split at hc
 ·rename_i env ps asg body hl;rw[hl];cases hB:Nat.ble B l with
  | false=>rw[hB,cond_false]at hc; cases hc
  | true=>
   rw[hB,cond_true,ziU]at hc;simp only[cond_true];split at hc
   ·rename_i env' hs;rw[hs];simp only[zcj]at hc ⊢;obtain⟨e',g1,g2⟩:=zjs _ _ _ _ hc;split at g1
    ·rename_i N1 env1 h1 hcode;obtain⟨S1,k1,k2⟩:=hr.code _ _ _ _ _ _ _ (zvb g2 hh) hcode;rw[k1];obtain⟨se1,sd1,sh1⟩:=S1;obtain⟨m1,m2,m3,m4⟩:=k2;simp only at m1 m2 m3 m4;subst m3;simp only[];rw[m4.2]at g1;split at g1
     ·rename_i e1 p1 a1 b1 hl1;rw[hl1];obtain⟨H2,n1,n2⟩:=zel m4 g1;cases hbody:rY.code B (some l) body ⟨N1,env1,[],H2⟩with
      | none=>rw[hbody]at n2; cases n2
      | some res=>
       obtain⟨ex2,T2⟩:=res;rw[hbody]at n2;obtain⟨S2,p1',p2'⟩:=hr.code _ _ _ ⟨N1,env1,[],H2⟩ ⟨se1,[],sh1.set l (.loop false none e1 p1 a1 b1)⟩ _ _ ⟨m1,m2,rfl,n1⟩ hbody;simp only[p1'];exact zkT p2' n2
     cases g1
    cases g1
   cases hc
 cases hc
def zrA(r:RecY)(B:Nat)(v:V)(vs:List V)(H:HY):Option (CR×HY):=
 match v with
 | .clo f first cap=>zcX (first ++ vs ++ cap) fun l=>r.call B f l H
 | .yld l=>zqs r B l vs H
 | _=>none
theorem zqe{rY:RecY}{r:Rec}(hr:RRY rY r){B:Nat}{v:V}{vs:List V}{H:HY}{h:zak}(hh:zeB H h){cr:CR}{H':HY}(hc:zrA rY B v vs H=some (cr,H')):∃ h',zmf r B v vs h=some (cr,h')∧zeB H' h':=by
 unfold zrA at hc;unfold zmf;split at hc
 ·rw[zcu]at hc; exact hr.call _ _ _ _ _ _ _ hh hc
 ·exact zqx hr hh hc
 cases hc
end Go.Mx
