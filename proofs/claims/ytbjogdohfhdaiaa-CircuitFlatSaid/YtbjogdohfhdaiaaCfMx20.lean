/-
 The machine with tries: operations, code, calls. Conditions: none.
-/
import Derived.Test.YtbjogdohfhdaiaaCfMx19
set_option linter.unusedSimpArgs false
set_option linter.unusedVariables false
namespace Go.Mx
open Go
abbrev KY:=TY->Option (Ex×TY)
structure RecY where
 code:Nat->Option Nat->C->TY->Option (Ex×TY)
 call:Nat->Nat->List V->HY->Option (CR×HY)
 dcall:Nat->Nat->List V->Option V->HY->Option (Option V×HY)
structure RRY (rY:RecY) (r:Rec):Prop where
 code:∀ B rd c T S ex T',RY T S->rY.code B rd c T=some (ex,T')->∃ S',r.code B rd c S=some (ex,S')/\RY T' S'
 call:∀ B f args H h cr H',zez H h->rY.call B f args H=some (cr,H')->∃ h',r.call B f args h=some (cr,h')/\zez H' h'
 dcall:∀ B f args pv H h pv' H',zez H h->rY.dcall B f args pv H=some (pv',H')->∃ h',r.dcall B f args pv h=some (pv',h')/\zez H' h'
def zAa(T:TY)(n:Nat)(v:V)(k:KY):Option (Ex×TY):=
 match T with
 | ⟨N,env,dfs,hp⟩=>bif Nat.blt n N then fcX v λv'=>Tr.put v' 40 env n λenv'=>k ⟨N,env',dfs,hp⟩else none
theorem zsT(T:TY)(n:Nat)(v:V)(k:KY):zAa T n v k=bif Nat.blt n T.N then fcX v λv'=>Tr.put v' 40 T.env n λenv'=>k ⟨T.N,env',T.dfs,T.hp⟩else none:=rfl
def zwG(T:TY)(d:Option Nat)(v:V)(k:KY):Option (Ex×TY):=
 match d with
 | none=>k T
 | some n=>zAa T n v k
variable{T:TY}{S:St}
theorem zsO(h:RY T S){d:Option Nat}{v:V}{k:KY}{x:Ex×TY}(hc:zwG T d v k=some x):∃ T',RY T' (S.put d v)/\k T'=some x:=by
 cases d with
 | none=>exact⟨T,h,hc⟩
 | some n=>
  simp only[zwG,zsT,zxg]at hc;cases hb:Nat.blt n T.N with
  | false=>rw[hb,qdm]at hc; cases hc
  | true=>
   rw[hb,qdl]at hc;have hn:=qbA.mp hb;obtain⟨t',g1,g2⟩:=Tr.zjS _ _ _ _ hc;refine⟨⟨T.N,t',T.dfs,T.hp⟩,⟨?_,λj=>?_,h.2.2.1,h.2.2.2⟩,g1⟩
   .simp only[St.put,qaG]; exact h.1
   have hj:=h.2.1 j;simp only[zvc,St.put,qc8]at hj ⊢;rw[g2];by_cases he:j=n
   .subst he;rw[if_pos rfl,if_pos rfl,if_pos (by rw[h.1]; exact hn)]
   rw[if_neg he,if_neg (λh0=>he h0.symm)];exact hj
def zkJ{α:Type}(H:HY)(o:Ob)(c:Nat->HY->Option α):Option α:=zdt H.n λn=>zAr o λo'=>Tr.put o' 40 H.t n λt'=>zdt (Nat.succ n) λn'=>c n ⟨n',t'⟩
variable{α:Type}{H:HY}{h:zaj}{x:α}
theorem zgO(hh:zez H h){o:Ob}{c:Nat->HY->Option α}(hc:zkJ H o c=some x):∃ H',zez H' (h ++ [o])/\c h.length H'=some x:=by
 simp only[zkJ,zcg,zn0]at hc;obtain⟨t',g1,g2⟩:=Tr.zjS _ _ _ _ hc;rw[hh.1]at g1 g2;refine⟨⟨_,t'⟩,⟨by simp,λk=>?_⟩,g1⟩;simp only[g2,hh.2];by_cases hk:k=h.length
 .subst hk; simp
 rw[if_neg hk];rcases qbs k h.length with h1 | h1
 .rw[qaf h1]
 rw[qaP (by omega),qaP (by simp; omega)]
def zko{α:Type}(H:HY)(β:Nat)(o:Ob)(c:HY->Option α):Option α:=
 match H with
 | ⟨n,t⟩=>bif Nat.blt β n then zAr o λo'=>Tr.put o' 40 t β λt'=>c ⟨n,t'⟩else none
theorem zrD(H:HY)(β:Nat)(o:Ob)(c:HY->Option α):zko H β o c=bif Nat.blt β H.n then zAr o λo'=>Tr.put o' 40 H.t β λt'=>c ⟨H.n,t'⟩else none:=rfl
theorem zey(hh:zez H h){β:Nat}{o:Ob}{c:HY->Option α}(hc:zko H β o c=some x):∃ H',zez H' (h.set β o)/\c H'=some x:=by
 simp only[zrD,zn0]at hc;cases hb:Nat.blt β H.n with
 | false=>rw[hb,qdm]at hc; cases hc
 | true=>
  rw[hb,qdl]at hc;have hn:=qbA.mp hb;obtain⟨t',g1,g2⟩:=Tr.zjS _ _ _ _ hc;refine⟨⟨H.n,t'⟩,⟨by simp only[qaG]; exact hh.1,λk=>?_⟩,g1⟩;simp only[g2,hh.2,qc8];by_cases hk:k=β
  .subst hk; rw[if_pos rfl,if_pos rfl,if_pos (by rw[<- hh.1]; exact hn)]
  rw[if_neg hk,if_neg (λh0=>hk h0.symm)]
def apY{α:Type}(H:HY)(e:EffR)(c:V->HY->Option α):Option α:=
 match e with
 | .zev v=>c v H
 | .snoc f o=>zkJ H o λn H'=>c (f n) H'
 | .set v β o=>zko H β o λH'=>c v H'
 | .setSnoc β o f o'=>zko H β o λH1=>zkJ H1 o' λn H'=>c (f n) H'
theorem zAg(hh:zez H h){e:EffR}{c:V->HY->Option α}(hc:apY H e c=some x):∃ H',zez H' (e.ap h).2/\c (e.ap h).1 H'=some x:=by
 cases e with
 | zev v=>exact⟨H,hh,hc⟩
 | snoc f o=>exact zgO hh hc
 | set v β o=>exact zey hh hc
 | setSnoc β o f o'=>
  simp only[apY]at hc;obtain⟨H1,g1,g2⟩:=zey hh hc;obtain⟨H2,g3,g4⟩:=zgO g1 g2;rw[qaG]at g4;exact⟨H2,g3,g4⟩
def zsn(T:TY)(H:HY):TY:=match T with | ⟨N,env,dfs,_⟩=>⟨N,env,dfs,H⟩
def zCF{α:Type}(T:TY)(k:HY->α):α:=match T with | ⟨_,_,_,⟨n,t⟩⟩=>k ⟨n,t⟩
theorem zui(T:TY)(k:HY->α):zCF T k=k T.hp:=rfl
theorem RY.heap(h:RY T S){hp:zaj}(hh:zez H hp):RY (zsn T H) { S with heap:=hp }:=⟨h.1,h.2.1,h.2.2.1,hh⟩
def zoc(T:TY):Option (Nat×Bool)->Bool
 | none=>true
 | some (k,want)=>match zvc T k with
  | some (.lit (.bool b))=>b == want
  | _=>false
theorem zqB(h:RY T S)(g:Option (Nat×Bool)):zoc T g=wanted S.env g:=by
 cases g with
 | none=>rfl
 | some kw=>simp only[zoc,wanted,h.2.1]; rfl
def zg0{α:Type}(H:HY)(l:Nat)(st:Bool)(pend:Option Jump)(k:HY->Option α):Option α:=
 match H.t.get l with
 | some (.loop _ _ env ps asg body)=>zko H l (.loop st pend env ps asg body) k
 | _=>none
variable{l:Nat}
theorem zf4(hh:zez H h){st:Bool}{pend:Option Jump}{k:HY->Option α}(hc:zg0 H l st pend k=some x):∃ h' H',zdb h l st pend=some h'/\zez H' h'/\k H'=some x:=by
 unfold zg0 at hc;rw[hh.2]at hc;split at hc
 .rename_i env ps asg body hl;obtain⟨H',g1,g2⟩:=zey hh hc;exact⟨_,H',by unfold zdb; rw[hl],g1,g2⟩
 cases hc
def zmh(l:Nat):Option (Ex×TY)->Option (CR×HY)
 | some (.normal,⟨_,_,[],h⟩)=>zg0 h l true none λh'=>some (.ret (.lit (.bool true)),h')
 | some (.ret,⟨_,_,[],h⟩)=>zg0 h l false (some .ret) λh'=>some (.ret (.lit (.bool false)),h')
 | some (.exit id,⟨_,_,[],h⟩)=>zg0 h l false (some (.exit id)) λh'=>some (.ret (.lit (.bool false)),h')
 | _=>none
def zsf(r:RecY)(B l:Nat)(vs:List V)(H:HY):Option (CR×HY):=
 match H.t.get l with
 | some (.loop true none env ps asg body)=>bif Nat.ble B l then(zkE env ps vs λenv'=>zdt env'.length λN=>zzD env' 0 .leaf λe'=>(match r.code B (some l) asg ⟨N,e',[],H⟩with
   | some (.normal,⟨N1,env1,[],h1⟩)=>(match h1.t.get l with
    | some (.loop true none e1 p1 a1 b1)=>zko h1 l (.loop false none e1 p1 a1 b1) λh2=>zmh l (r.code B (some l) body ⟨N1,env1,[],h2⟩)
    | _=>none)
   | _=>none))else none
 | _=>none
theorem zzq{l:List V}{t:Tr V}(h:∀ j,t.get j=if 0<=j/\j<0+l.length then l[j - 0]? else(Tr.leaf:Tr V).get j){ds:List Df}{hp:zaj}(hh:zez H hp):RY ⟨l.length,t,ds,H⟩ ⟨l,ds,hp⟩:=by
 refine⟨rfl,λk=>?_,rfl,hh⟩;simp only[zvc,h];by_cases hk:k<l.length
 .rw[if_pos (by omega),qcI,qac hk]
 rw[if_neg (by omega),qaP (by omega)];simp only[Tr.get,zfG,hk,decide_false,qdm]
variable{cr:CR}{H':HY}
theorem zl8{ex:Ex}(hS:RY T S)(hc:zmh l (some (ex,T))=some (cr,H')):∃ h',zbl l (some (ex,S))=some (cr,h')/\zez H' h':=by
 obtain⟨N,e,ds,H⟩:=T;obtain⟨se,sd,sh⟩:=S;obtain⟨h1,h2,h3,h4⟩:=hS;simp only at h1 h2 h3 h4;subst h3;cases ds with
 | cons d ds=>cases ex<;>cases hc
 | nil=>
  cases ex with
  | normal=>
   obtain⟨h',H2,g1,g2,g3⟩:=zf4 h4 hc;cases g3;exact⟨h',by simp only[zbl,g1]; rfl,g2⟩
  | ret=>
   obtain⟨h',H2,g1,g2,g3⟩:=zf4 h4 hc;cases g3;exact⟨h',by simp only[zbl,g1]; rfl,g2⟩
  | exit id=>
   obtain⟨h',H2,g1,g2,g3⟩:=zf4 h4 hc;cases g3;exact⟨h',by simp only[zbl,g1]; rfl,g2⟩
  | panic v e=>cases hc
theorem ztR{rY:RecY}{r:Rec}(hr:RRY rY r){B:Nat}{vs:List V}(hh:zez H h)(hc:zsf rY B l vs H=some (cr,H')):∃ h',round r B l vs h=some (cr,h')/\zez H' h':=by
 unfold zsf at hc;rw[hh.2]at hc;unfold round;split at hc
 .rename_i env ps asg body hl;rw[hl];cases hB:Nat.ble B l with
  | false=>rw[hB,qdm]at hc; cases hc
  | true=>
   rw[hB,qdl,zj8]at hc;simp only[qdl];split at hc
   .rename_i env' hs;rw[hs];simp only[zcg]at hc ⊢;obtain⟨e',g1,g2⟩:=zlp _ _ _ _ hc;split at g1
    .rename_i N1 env1 h1 hcode;obtain⟨S1,k1,k2⟩:=hr.code _ _ _ _ _ _ _ (zzq g2 hh) hcode;rw[k1];obtain⟨se1,sd1,sh1⟩:=S1;obtain⟨m1,m2,m3,m4⟩:=k2;simp only at m1 m2 m3 m4;subst m3;simp only[];rw[m4.2]at g1;split at g1
     .rename_i e1 p1 a1 b1 hl1;rw[hl1];obtain⟨H2,n1,n2⟩:=zey m4 g1;cases hbody:rY.code B (some l) body ⟨N1,env1,[],H2⟩with
      | none=>rw[hbody]at n2; cases n2
      | some res=>
       obtain⟨ex2,T2⟩:=res;rw[hbody]at n2;obtain⟨S2,p1',p2'⟩:=hr.code _ _ _ ⟨N1,env1,[],H2⟩ ⟨se1,[],sh1.set l (.loop false none e1 p1 a1 b1)⟩ _ _ ⟨m1,m2,rfl,n1⟩ hbody;simp only[p1'];exact zl8 p2' n2
     cases g1
    cases g1
   cases hc
 cases hc
def zuR(r:RecY)(B:Nat)(v:V)(vs:List V)(H:HY):Option (CR×HY):=
 match v with
 | .clo f first cap=>zcQ (first ++ vs ++ cap) λl=>r.call B f l H
 | .yld l=>zsf r B l vs H
 | _=>none
theorem zsb{rY:RecY}{r:Rec}(hr:RRY rY r){B:Nat}{v:V}{vs:List V}(hh:zez H h)(hc:zuR rY B v vs H=some (cr,H')):∃ h',zjk r B v vs h=some (cr,h')/\zez H' h':=by
 unfold zuR at hc;unfold zjk;split at hc
 .rw[zb5]at hc; exact hr.call _ _ _ _ _ _ _ hh hc
 .exact ztR hr hh hc
 cases hc
end Go.Mx
