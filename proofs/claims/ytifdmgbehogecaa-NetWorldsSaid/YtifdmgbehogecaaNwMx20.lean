/-
 The machine with tries: operations, code, calls. Conditions: none.
-/
import Derived.Test.YtifdmgbehogecaaNwMx19
set_option linter.unusedSimpArgs false
set_option linter.unusedVariables false
namespace Go.Mx
open Go
abbrev KY:=TY→Option (Ex×TY)
structure RecY where
 code:Nat→Option Nat→C→TY→Option (Ex×TY)
 call:Nat→Nat→List V→HY→Option (CR×HY)
 dcall:Nat→Nat→List V→Option V→HY→Option (Option V×HY)
structure RRY (rY:RecY) (r:Rec):Prop where
 code:∀ B rd c T S ex T',RY T S→rY.code B rd c T=some (ex,T')→∃ S',r.code B rd c S=some (ex,S')∧RY T' S'
 call:∀ B f args H h cr H',zez H h→rY.call B f args H=some (cr,H')→∃ h',r.call B f args h=some (cr,h')∧zez H' h'
 dcall:∀ B f args pv H h pv' H',zez H h→rY.dcall B f args pv H=some (pv',H')→∃ h',r.dcall B f args pv h=some (pv',h')∧zez H' h'
def zv5(T:TY)(n:Nat)(v:V)(k:KY):Option (Ex×TY):=
 match T with
 | ⟨N,env,dfs,hp⟩=>bif Nat.blt n N then fcX v fun v'=>Tr.put v' 40 env n fun env'=>k ⟨N,env',dfs,hp⟩else none
theorem zpO(T:TY)(n:Nat)(v:V)(k:KY):zv5 T n v k=bif Nat.blt n T.N then fcX v fun v'=>Tr.put v' 40 T.env n fun env'=>k ⟨T.N,env',T.dfs,T.hp⟩else none:=rfl
def zsa(T:TY)(d:Option Nat)(v:V)(k:KY):Option (Ex×TY):=
 match d with
 | none=>k T
 | some n=>zv5 T n v k
theorem zpr{T:TY}{S:St}(h:RY T S){d:Option Nat}{v:V}{k:KY}{x:Ex×TY}(hc:zsa T d v k=some x):∃ T',RY T' (S.put d v)∧k T'=some x:=by
 cases d with
 | none=>exact⟨T,h,hc⟩
 | some n=>
  simp only[zsa,zpO,zsT]at hc;cases hb:Nat.blt n T.N with
  | false=>rw[hb,cond_false]at hc; cases hc
  | true=>
   rw[hb,cond_true]at hc;have hn:=qbe.mp hb;obtain⟨t',g1,g2⟩:=Tr.zio _ _ _ _ hc;refine⟨⟨T.N,t',T.dfs,T.hp⟩,⟨?_,fun j=>?_,h.2.2.1,h.2.2.2⟩,g1⟩
   ·simp only[St.put,qaq]; exact h.1
   have hj:=h.2.1 j;simp only[zrZ,St.put,qcy]at hj ⊢;rw[g2];by_cases he:j=n
   ·subst he;rw[if_pos rfl,if_pos rfl,if_pos (by rw[h.1]; exact hn)]
   rw[if_neg he,if_neg (fun h0=>he h0.symm)];exact hj
def zj4{α:Type}(H:HY)(o:Ob)(c:Nat→HY→Option α):Option α:=zdk H.n fun n=>zu1 o fun o'=>Tr.put o' 40 H.t n fun t'=>zdk (Nat.succ n) fun n'=>c n ⟨n',t'⟩
theorem zf2{α:Type}{H:HY}{h:zap}(hh:zez H h){o:Ob}{c:Nat→HY→Option α}{x:α}(hc:zj4 H o c=some x):∃ H',zez H' (h ++ [o])∧c h.length H'=some x:=by
 simp only[zj4,zcj,zmI]at hc;obtain⟨t',g1,g2⟩:=Tr.zio _ _ _ _ hc;rw[hh.1]at g1 g2;refine⟨⟨_,t'⟩,⟨by simp,fun k=>?_⟩,g1⟩;simp only[g2,hh.2];by_cases hk:k=h.length
 ·subst hk; simp
 rw[if_neg hk];rcases qbl k h.length with h1 | h1
 ·rw[qaj h1]
 rw[qa7 (by omega),qa7 (by simp; omega)]
def zjb{α:Type}(H:HY)(β:Nat)(o:Ob)(c:HY→Option α):Option α:=
 match H with
 | ⟨n,t⟩=>bif Nat.blt β n then zu1 o fun o'=>Tr.put o' 40 t β fun t'=>c ⟨n,t'⟩else none
theorem zpX{α:Type}(H:HY)(β:Nat)(o:Ob)(c:HY→Option α):zjb H β o c=bif Nat.blt β H.n then zu1 o fun o'=>Tr.put o' 40 H.t β fun t'=>c ⟨H.n,t'⟩else none:=rfl
theorem zeA{α:Type}{H:HY}{h:zap}(hh:zez H h){β:Nat}{o:Ob}{c:HY→Option α}{x:α}(hc:zjb H β o c=some x):∃ H',zez H' (h.set β o)∧c H'=some x:=by
 simp only[zpX,zmI]at hc;cases hb:Nat.blt β H.n with
 | false=>rw[hb,cond_false]at hc; cases hc
 | true=>
  rw[hb,cond_true]at hc;have hn:=qbe.mp hb;obtain⟨t',g1,g2⟩:=Tr.zio _ _ _ _ hc;refine⟨⟨H.n,t'⟩,⟨by simp only[qaq]; exact hh.1,fun k=>?_⟩,g1⟩;simp only[g2,hh.2,qcy];by_cases hk:k=β
  ·subst hk; rw[if_pos rfl,if_pos rfl,if_pos (by rw[← hh.1]; exact hn)]
  rw[if_neg hk,if_neg (fun h0=>hk h0.symm)]
def apY{α:Type}(H:HY)(e:EffR)(c:V→HY→Option α):Option α:=
 match e with
 | .zeC v=>c v H
 | .snoc f o=>zj4 H o fun n H'=>c (f n) H'
 | .set v β o=>zjb H β o fun H'=>c v H'
 | .setSnoc β o f o'=>zjb H β o fun H1=>zj4 H1 o' fun n H'=>c (f n) H'
theorem zvg{α:Type}{H:HY}{h:zap}(hh:zez H h){e:EffR}{c:V→HY→Option α}{x:α}(hc:apY H e c=some x):∃ H',zez H' (e.ap h).2∧c (e.ap h).1 H'=some x:=by
 cases e with
 | zeC v=>exact⟨H,hh,hc⟩
 | snoc f o=>exact zf2 hh hc
 | set v β o=>exact zeA hh hc
 | setSnoc β o f o'=>
  simp only[apY]at hc;obtain⟨H1,g1,g2⟩:=zeA hh hc;obtain⟨H2,g3,g4⟩:=zf2 g1 g2;rw[qaq]at g4;exact⟨H2,g3,g4⟩
def zpG(T:TY)(H:HY):TY:=match T with | ⟨N,env,dfs,_⟩=>⟨N,env,dfs,H⟩
def zwQ{α:Type}(T:TY)(k:HY→α):α:=match T with | ⟨_,_,_,⟨n,t⟩⟩=>k ⟨n,t⟩
theorem zpz{α:Type}(T:TY)(k:HY→α):zwQ T k=k T.hp:=rfl
theorem RY.heap{T:TY}{S:St}(h:RY T S){H:HY}{hp:zap}(hh:zez H hp):RY (zpG T H) { S with heap:=hp }:=⟨h.1,h.2.1,h.2.2.1,hh⟩
def zmH(T:TY):Option (Nat×Bool)→Bool
 | none=>true
 | some (k,want)=>match zrZ T k with
  | some (.lit (.bool b))=>b == want
  | _=>false
theorem zn8{T:TY}{S:St}(h:RY T S)(g:Option (Nat×Bool)):zmH T g=wanted S.env g:=by
 cases g with
 | none=>rfl
 | some kw=>simp only[zmH,wanted,h.2.1]; rfl
def zgp{α:Type}(H:HY)(l:Nat)(st:Bool)(pend:Option Jump)(k:HY→Option α):Option α:=
 match H.t.get l with
 | some (.loop _ _ env ps asg body)=>zjb H l (.loop st pend env ps asg body) k
 | _=>none
theorem zfC{α:Type}{H:HY}{h:zap}(hh:zez H h){l:Nat}{st:Bool}{pend:Option Jump}{k:HY→Option α}{x:α}(hc:zgp H l st pend k=some x):∃ h' H',zc6 h l st pend=some h'∧zez H' h'∧k H'=some x:=by
 unfold zgp at hc;rw[hh.2]at hc;split at hc
 ·rename_i env ps asg body hl;obtain⟨H',g1,g2⟩:=zeA hh hc;exact⟨_,H',by unfold zc6; rw[hl],g1,g2⟩
 cases hc
def zlh(l:Nat):Option (Ex×TY)→Option (CR×HY)
 | some (.normal,⟨_,_,[],h⟩)=>zgp h l true none fun h'=>some (.ret (.lit (.bool true)),h')
 | some (.ret,⟨_,_,[],h⟩)=>zgp h l false (some .ret) fun h'=>some (.ret (.lit (.bool false)),h')
 | some (.exit id,⟨_,_,[],h⟩)=>zgp h l false (some (.exit id)) fun h'=>some (.ret (.lit (.bool false)),h')
 | _=>none
def zqK(r:RecY)(B l:Nat)(vs:List V)(H:HY):Option (CR×HY):=
 match H.t.get l with
 | some (.loop true none env ps asg body)=>bif Nat.ble B l then(zjj env ps vs fun env'=>zdk env'.length fun N=>zuv env' 0 .leaf fun e'=>(match r.code B (some l) asg ⟨N,e',[],H⟩with
   | some (.normal,⟨N1,env1,[],h1⟩)=>(match h1.t.get l with
    | some (.loop true none e1 p1 a1 b1)=>zjb h1 l (.loop false none e1 p1 a1 b1) fun h2=>zlh l (r.code B (some l) body ⟨N1,env1,[],h2⟩)
    | _=>none)
   | _=>none))else none
 | _=>none
theorem ztM{l:List V}{t:Tr V}(h:∀ j,t.get j=if 0≤j∧j<0+l.length then l[j - 0]? else(Tr.leaf:Tr V).get j){ds:List Df}{H:HY}{hp:zap}(hh:zez H hp):RY ⟨l.length,t,ds,H⟩ ⟨l,ds,hp⟩:=by
 refine⟨rfl,fun k=>?_,rfl,hh⟩;simp only[zrZ,h];by_cases hk:k<l.length
 ·rw[if_pos (by omega),qcJ,qae hk]
 rw[if_neg (by omega),qa7 (by omega)];simp only[Tr.get,zfp,hk,decide_false,cond_false]
theorem zkK{l:Nat}{ex:Ex}{T:TY}{S:St}(hS:RY T S){cr:CR}{H':HY}(hc:zlh l (some (ex,T))=some (cr,H')):∃ h',zbq l (some (ex,S))=some (cr,h')∧zez H' h':=by
 obtain⟨N,e,ds,H⟩:=T;obtain⟨se,sd,sh⟩:=S;obtain⟨h1,h2,h3,h4⟩:=hS;simp only at h1 h2 h3 h4;subst h3;cases ds with
 | cons d ds=>cases ex<;>cases hc
 | nil=>
  cases ex with
  | normal=>
   obtain⟨h',H2,g1,g2,g3⟩:=zfC h4 hc;cases g3;exact⟨h',by simp only[zbq,g1]; rfl,g2⟩
  | ret=>
   obtain⟨h',H2,g1,g2,g3⟩:=zfC h4 hc;cases g3;exact⟨h',by simp only[zbq,g1]; rfl,g2⟩
  | exit id=>
   obtain⟨h',H2,g1,g2,g3⟩:=zfC h4 hc;cases g3;exact⟨h',by simp only[zbq,g1]; rfl,g2⟩
  | panic v e=>cases hc
theorem zqM{rY:RecY}{r:Rec}(hr:RRY rY r){B l:Nat}{vs:List V}{H:HY}{h:zap}(hh:zez H h){cr:CR}{H':HY}(hc:zqK rY B l vs H=some (cr,H')):∃ h',round r B l vs h=some (cr,h')∧zez H' h':=by
 unfold zqK at hc;rw[hh.2]at hc;unfold round;split at hc
 ·rename_i env ps asg body hl;rw[hl];cases hB:Nat.ble B l with
  | false=>rw[hB,cond_false]at hc; cases hc
  | true=>
   rw[hB,cond_true,ziI]at hc;simp only[cond_true];split at hc
   ·rename_i env' hs;rw[hs];simp only[zcj]at hc ⊢;obtain⟨e',g1,g2⟩:=ziY _ _ _ _ hc;split at g1
    ·rename_i N1 env1 h1 hcode;obtain⟨S1,k1,k2⟩:=hr.code _ _ _ _ _ _ _ (ztM g2 hh) hcode;rw[k1];obtain⟨se1,sd1,sh1⟩:=S1;obtain⟨m1,m2,m3,m4⟩:=k2;simp only at m1 m2 m3 m4;subst m3;simp only[];rw[m4.2]at g1;split at g1
     ·rename_i e1 p1 a1 b1 hl1;rw[hl1];obtain⟨H2,n1,n2⟩:=zeA m4 g1;cases hbody:rY.code B (some l) body ⟨N1,env1,[],H2⟩with
      | none=>rw[hbody]at n2; cases n2
      | some res=>
       obtain⟨ex2,T2⟩:=res;rw[hbody]at n2;obtain⟨S2,p1',p2'⟩:=hr.code _ _ _ ⟨N1,env1,[],H2⟩ ⟨se1,[],sh1.set l (.loop false none e1 p1 a1 b1)⟩ _ _ ⟨m1,m2,rfl,n1⟩ hbody;simp only[p1'];exact zkK p2' n2
     cases g1
    cases g1
   cases hc
 cases hc
def zqE(r:RecY)(B:Nat)(v:V)(vs:List V)(H:HY):Option (CR×HY):=
 match v with
 | .clo f first cap=>zcP (first ++ vs ++ cap) fun l=>r.call B f l H
 | .yld l=>zqK r B l vs H
 | _=>none
theorem zqP{rY:RecY}{r:Rec}(hr:RRY rY r){B:Nat}{v:V}{vs:List V}{H:HY}{h:zap}(hh:zez H h){cr:CR}{H':HY}(hc:zqE rY B v vs H=some (cr,H')):∃ h',zon r B v vs h=some (cr,h')∧zez H' h':=by
 unfold zqE at hc;unfold zon;split at hc
 ·rw[zct]at hc; exact hr.call _ _ _ _ _ _ _ hh hc
 ·exact zqM hr hh hc
 cases hc
end Go.Mx
