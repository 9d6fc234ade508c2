/-
 The machine with tries: operations, code, calls. Conditions: none.
-/
import Derived.Test.YtnfgibomhkbcpaaNfMx19
set_option linter.unusedSimpArgs false
set_option linter.unusedVariables false
namespace Go.Mx
open Go
abbrev KY:=TY→Option (Ex×TY)
structure RecY where
 code:Nat→Option Nat→C→TY→Option (Ex×TY)
 call:Nat→Nat→List V→HY→Option (CR×HY)
 dcall:Nat→Nat→List V→Option V→HY→Option (Option V×HY)
structure RRY (rY:RecY) (r:Rec):Prop where
 code:∀ B rd c T S ex T',RY T S→rY.code B rd c T=some (ex,T')→∃ S',r.code B rd c S=some (ex,S')∧RY T' S'
 call:∀ B f args H h cr H',zeK H h→rY.call B f args H=some (cr,H')→∃ h',r.call B f args h=some (cr,h')∧zeK H' h'
 dcall:∀ B f args pv H h pv' H',zeK H h→rY.dcall B f args pv H=some (pv',H')→∃ h',r.dcall B f args pv h=some (pv',h')∧zeK H' h'
def zwH(T:TY)(n:Nat)(v:V)(k:KY):Option (Ex×TY):=
 match T with
 | ⟨N,env,dfs,hp⟩=>bif Nat.blt n N then fcX v fun v'=>Tr.put v' 40 env n fun env'=>k ⟨N,env',dfs,hp⟩else none
theorem zsm(T:TY)(n:Nat)(v:V)(k:KY):zwH T n v k=bif Nat.blt n T.N then fcX v fun v'=>Tr.put v' 40 T.env n fun env'=>k ⟨T.N,env',T.dfs,T.hp⟩else none:=rfl
def zsM(T:TY)(d:Option Nat)(v:V)(k:KY):Option (Ex×TY):=
 match d with
 | none=>k T
 | some n=>zwH T n v k
theorem zr8{T:TY}{S:St}(h:RY T S){d:Option Nat}{v:V}{k:KY}{x:Ex×TY}(hc:zsM T d v k=some x):∃ T',RY T' (S.put d v)∧k T'=some x:=by
 cases d with
 | none=>exact⟨T,h,hc⟩
 | some n=>
  simp only[zsM,zsm,zug]at hc;cases hb:Nat.blt n T.N with
  | false=>rw[hb,cond_false]at hc; cases hc
  | true=>
   rw[hb,cond_true]at hc;have hn:=qbt.mp hb;obtain⟨t',g1,g2⟩:=Tr.zjg _ _ _ _ hc;refine⟨⟨T.N,t',T.dfs,T.hp⟩,⟨?_,fun j=>?_,h.2.2.1,h.2.2.2⟩,g1⟩
   ·simp only[St.put,qat]; exact h.1
   have hj:=h.2.1 j;simp only[ztJ,St.put,qcU]at hj ⊢;rw[g2];by_cases he:j=n
   ·subst he;rw[if_pos rfl,if_pos rfl,if_pos (by rw[h.1]; exact hn)]
   rw[if_neg he,if_neg (fun h0=>he h0.symm)];exact hj
def zjm{α:Type}(H:HY)(o:Ob)(c:Nat→HY→Option α):Option α:=zdB H.n fun n=>zxy o fun o'=>Tr.put o' 40 H.t n fun t'=>zdB (Nat.succ n) fun n'=>c n ⟨n',t'⟩
theorem zgj{α:Type}{H:HY}{h:zap}(hh:zeK H h){o:Ob}{c:Nat→HY→Option α}{x:α}(hc:zjm H o c=some x):∃ H',zeK H' (h ++ [o])∧c h.length H'=some x:=by
 simp only[zjm,zct,zmr]at hc;obtain⟨t',g1,g2⟩:=Tr.zjg _ _ _ _ hc;rw[hh.1]at g1 g2;refine⟨⟨_,t'⟩,⟨by simp,fun k=>?_⟩,g1⟩;simp only[g2,hh.2];by_cases hk:k=h.length
 ·subst hk; simp
 rw[if_neg hk];rcases qbf k h.length with h1 | h1
 ·rw[qak h1]
 rw[qbd (by omega),qbd (by simp; omega)]
def zjj{α:Type}(H:HY)(β:Nat)(o:Ob)(c:HY→Option α):Option α:=
 match H with
 | ⟨n,t⟩=>bif Nat.blt β n then zxy o fun o'=>Tr.put o' 40 t β fun t'=>c ⟨n,t'⟩else none
theorem zqE{α:Type}(H:HY)(β:Nat)(o:Ob)(c:HY→Option α):zjj H β o c=bif Nat.blt β H.n then zxy o fun o'=>Tr.put o' 40 H.t β fun t'=>c ⟨H.n,t'⟩else none:=rfl
theorem zez{α:Type}{H:HY}{h:zap}(hh:zeK H h){β:Nat}{o:Ob}{c:HY→Option α}{x:α}(hc:zjj H β o c=some x):∃ H',zeK H' (h.set β o)∧c H'=some x:=by
 simp only[zqE,zmr]at hc;cases hb:Nat.blt β H.n with
 | false=>rw[hb,cond_false]at hc; cases hc
 | true=>
  rw[hb,cond_true]at hc;have hn:=qbt.mp hb;obtain⟨t',g1,g2⟩:=Tr.zjg _ _ _ _ hc;refine⟨⟨H.n,t'⟩,⟨by simp only[qat]; exact hh.1,fun k=>?_⟩,g1⟩;simp only[g2,hh.2,qcU];by_cases hk:k=β
  ·subst hk; rw[if_pos rfl,if_pos rfl,if_pos (by rw[← hh.1]; exact hn)]
  rw[if_neg hk,if_neg (fun h0=>hk h0.symm)]
def apY{α:Type}(H:HY)(e:EffR)(c:V→HY→Option α):Option α:=
 match e with
 | .zeN v=>c v H
 | .snoc f o=>zjm H o fun n H'=>c (f n) H'
 | .set v β o=>zjj H β o fun H'=>c v H'
 | .setSnoc β o f o'=>zjj H β o fun H1=>zjm H1 o' fun n H'=>c (f n) H'
theorem zxK{α:Type}{H:HY}{h:zap}(hh:zeK H h){e:EffR}{c:V→HY→Option α}{x:α}(hc:apY H e c=some x):∃ H',zeK H' (e.ap h).2∧c (e.ap h).1 H'=some x:=by
 cases e with
 | zeN v=>exact⟨H,hh,hc⟩
 | snoc f o=>exact zgj hh hc
 | set v β o=>exact zez hh hc
 | setSnoc β o f o'=>
  simp only[apY]at hc;obtain⟨H1,g1,g2⟩:=zez hh hc;obtain⟨H2,g3,g4⟩:=zgj g1 g2;rw[qat]at g4;exact⟨H2,g3,g4⟩
def zr4(T:TY)(H:HY):TY:=match T with | ⟨N,env,dfs,_⟩=>⟨N,env,dfs,H⟩
def zyQ{α:Type}(T:TY)(k:HY→α):α:=match T with | ⟨_,_,_,⟨n,t⟩⟩=>k ⟨n,t⟩
theorem zq8{α:Type}(T:TY)(k:HY→α):zyQ T k=k T.hp:=rfl
theorem RY.heap{T:TY}{S:St}(h:RY T S){H:HY}{hp:zap}(hh:zeK H hp):RY (zr4 T H) { S with heap:=hp }:=⟨h.1,h.2.1,h.2.2.1,hh⟩
def zmd(T:TY):Option (Nat×Bool)→Bool
 | none=>true
 | some (k,want)=>match ztJ T k with
  | some (.lit (.bool b))=>b == want
  | _=>false
theorem zpi{T:TY}{S:St}(h:RY T S)(g:Option (Nat×Bool)):zmd T g=wanted S.env g:=by
 cases g with
 | none=>rfl
 | some kw=>simp only[zmd,wanted,h.2.1]; rfl
def zgx{α:Type}(H:HY)(l:Nat)(st:Bool)(pend:Option Jump)(k:HY→Option α):Option α:=
 match H.t.get l with
 | some (.loop _ _ env ps asg body)=>zjj H l (.loop st pend env ps asg body) k
 | _=>none
theorem zfU{α:Type}{H:HY}{h:zap}(hh:zeK H h){l:Nat}{st:Bool}{pend:Option Jump}{k:HY→Option α}{x:α}(hc:zgx H l st pend k=some x):∃ h' H',zdj h l st pend=some h'∧zeK H' h'∧k H'=some x:=by
 unfold zgx at hc;rw[hh.2]at hc;split at hc
 ·rename_i env ps asg body hl;obtain⟨H',g1,g2⟩:=zez hh hc;exact⟨_,H',by unfold zdj; rw[hl],g1,g2⟩
 cases hc
def zlq(l:Nat):Option (Ex×TY)→Option (CR×HY)
 | some (.normal,⟨_,_,[],h⟩)=>zgx h l true none fun h'=>some (.ret (.lit (.bool true)),h')
 | some (.ret,⟨_,_,[],h⟩)=>zgx h l false (some .ret) fun h'=>some (.ret (.lit (.bool false)),h')
 | some (.exit id,⟨_,_,[],h⟩)=>zgx h l false (some (.exit id)) fun h'=>some (.ret (.lit (.bool false)),h')
 | _=>none
def zqf(r:RecY)(B l:Nat)(vs:List V)(H:HY):Option (CR×HY):=
 match H.t.get l with
 | some (.loop true none env ps asg body)=>bif Nat.ble B l then(zjF env ps vs fun env'=>zdB env'.length fun N=>zwa env' 0 .leaf fun e'=>(match r.code B (some l) asg ⟨N,e',[],H⟩with
   | some (.normal,⟨N1,env1,[],h1⟩)=>(match h1.t.get l with
    | some (.loop true none e1 p1 a1 b1)=>zjj h1 l (.loop false none e1 p1 a1 b1) fun h2=>zlq l (r.code B (some l) body ⟨N1,env1,[],h2⟩)
    | _=>none)
   | _=>none))else none
 | _=>none
theorem zvI{l:List V}{t:Tr V}(h:∀ j,t.get j=if 0≤j∧j<0+l.length then l[j - 0]? else(Tr.leaf:Tr V).get j){ds:List Df}{H:HY}{hp:zap}(hh:zeK H hp):RY ⟨l.length,t,ds,H⟩ ⟨l,ds,hp⟩:=by
 refine⟨rfl,fun k=>?_,rfl,hh⟩;simp only[ztJ,h];by_cases hk:k<l.length
 ·rw[if_pos (by omega),qcZ,qad hk]
 rw[if_neg (by omega),qbd (by omega)];simp only[Tr.get,zfw,hk,decide_false,cond_false]
theorem zkM{l:Nat}{ex:Ex}{T:TY}{S:St}(hS:RY T S){cr:CR}{H':HY}(hc:zlq l (some (ex,T))=some (cr,H')):∃ h',zbB l (some (ex,S))=some (cr,h')∧zeK H' h':=by
 obtain⟨N,e,ds,H⟩:=T;obtain⟨se,sd,sh⟩:=S;obtain⟨h1,h2,h3,h4⟩:=hS;simp only at h1 h2 h3 h4;subst h3;cases ds with
 | cons d ds=>cases ex<;>cases hc
 | nil=>
  cases ex with
  | normal=>
   obtain⟨h',H2,g1,g2,g3⟩:=zfU h4 hc;cases g3;exact⟨h',by simp only[zbB,g1]; rfl,g2⟩
  | ret=>
   obtain⟨h',H2,g1,g2,g3⟩:=zfU h4 hc;cases g3;exact⟨h',by simp only[zbB,g1]; rfl,g2⟩
  | exit id=>
   obtain⟨h',H2,g1,g2,g3⟩:=zfU h4 hc;cases g3;exact⟨h',by simp only[zbB,g1]; rfl,g2⟩
  | panic v e=>cases hc
theorem zq2{rY:RecY}{r:Rec}(hr:RRY rY r){B l:Nat}{vs:List V}{H:HY}{h:zap}(hh:zeK H h){cr:CR}{H':HY}(hc:zqf rY B l vs H=some (cr,H')):∃ h',round r B l vs h=some (cr,h')∧zeK H' h':=by
 unfold zqf at hc;rw[hh.2]at hc;unfold round;split at hc
 ·rename_i env ps asg body hl;rw[hl];cases hB:Nat.ble B l with
  | false=>rw[hB,cond_false]at hc; cases hc
  | true=>
   rw[hB,cond_true,zjd]at hc;simp only[cond_true];split at hc
   ·rename_i env' hs;rw[hs];simp only[zct]at hc ⊢;obtain⟨e',g1,g2⟩:=zjx _ _ _ _ hc;split at g1
    ·rename_i N1 env1 h1 hcode;obtain⟨S1,k1,k2⟩:=hr.code _ _ _ _ _ _ _ (zvI g2 hh) hcode;rw[k1];obtain⟨se1,sd1,sh1⟩:=S1;obtain⟨m1,m2,m3,m4⟩:=k2;simp only at m1 m2 m3 m4;subst m3;simp only[];rw[m4.2]at g1;split at g1
     ·rename_i e1 p1 a1 b1 hl1;rw[hl1];obtain⟨H2,n1,n2⟩:=zez m4 g1;cases hbody:rY.code B (some l) body ⟨N1,env1,[],H2⟩with
      | none=>rw[hbody]at n2; cases n2
      | some res=>
       obtain⟨ex2,T2⟩:=res;rw[hbody]at n2;obtain⟨S2,p1',p2'⟩:=hr.code _ _ _ ⟨N1,env1,[],H2⟩ ⟨se1,[],sh1.set l (.loop false none e1 p1 a1 b1)⟩ _ _ ⟨m1,m2,rfl,n1⟩ hbody;simp only[p1'];exact zkM p2' n2
     cases g1
    cases g1
   cases hc
 cases hc
def zqG(r:RecY)(B:Nat)(v:V)(vs:List V)(H:HY):Option (CR×HY):=
 match v with
 | .clo f first cap=>zc1 (first ++ vs ++ cap) fun l=>r.call B f l H
 | .yld l=>zqf r B l vs H
 | _=>none
theorem zpS{rY:RecY}{r:Rec}(hr:RRY rY r){B:Nat}{v:V}{vs:List V}{H:HY}{h:zap}(hh:zeK H h){cr:CR}{H':HY}(hc:zqG rY B v vs H=some (cr,H')):∃ h',zpq r B v vs h=some (cr,h')∧zeK H' h':=by
 unfold zqG at hc;unfold zpq;split at hc
 ·rw[zcC]at hc; exact hr.call _ _ _ _ _ _ _ hh hc
 ·exact zq2 hr hh hc
 cases hc
end Go.Mx
