/-
 The machine with tries: operations, code, calls. Conditions: none.
-/
import Derived.Test.YtbjogdohfhdaiaaGreatENMx19
set_option linter.unusedSimpArgs false
set_option linter.unusedVariables false
namespace Go.Mx
open Go
abbrev KY:=TY->Option (Ex×TY)
structure RecY where
 code:Nat->Option Nat->C->TY->Option (Ex×TY)
 call:Nat->Nat->List V->HY->Option (CR×HY)
 dcall:Nat->Nat->List V->Option V->HY->Option (Option V×HY)
structure RRY (rY:RecY) (r:Rec):Prop where
 code:∀ B rd c T S ex T',RY T S->rY.code B rd c T=some (ex,T')->∃ S',r.code B rd c S=some (ex,S')/\RY T' S'
 call:∀ B f args H h cr H',zfn H h->rY.call B f args H=some (cr,H')->∃ h',r.call B f args h=some (cr,h')/\zfn H' h'
 dcall:∀ B f args pv H h pv' H',zfn H h->rY.dcall B f args pv H=some (pv',H')->∃ h',r.dcall B f args pv h=some (pv',h')/\zfn H' h'
def zBB(T:TY)(n:Nat)(v:V)(k:KY):Option (Ex×TY):=
 match T with
 | ⟨N,env,dfs,hp⟩=>bif Nat.blt n N then fcX v λv'=>Tr.put v' 40 env n λenv'=>k ⟨N,env',dfs,hp⟩else none
theorem ztw(T:TY)(n:Nat)(v:V)(k:KY):zBB T n v k=bif Nat.blt n T.N then fcX v λv'=>Tr.put v' 40 T.env n λenv'=>k ⟨T.N,env',T.dfs,T.hp⟩else none:=rfl
def zwH(T:TY)(d:Option Nat)(v:V)(k:KY):Option (Ex×TY):=
 match d with
 | none=>k T
 | some n=>zBB T n v k
variable{S:St}
theorem ztc{T:TY}(h:RY T S){d:Option Nat}{v:V}{k:KY}{x:Ex×TY}(hc:zwH T d v k=some x):∃ T',RY T' (S.put d v)/\k T'=some x:=by
 cases d with
 | none=>exact⟨T,h,hc⟩
 | some n=>
  simp only[zwH,ztw,zxw]at hc;cases hb:Nat.blt n T.N with
  | false=>rw[hb,qdA]at hc; cases hc
  | true=>
   rw[hb,qdz]at hc;have hn:=qbO.mp hb;obtain⟨t',g1,g2⟩:=Tr.zkn _ _ _ _ hc;refine⟨⟨T.N,t',T.dfs,T.hp⟩,⟨?_,λj=>?_,h.2.2.1,h.2.2.2⟩,g1⟩
   .simp only[St.put,qat]; exact h.1
   have hj:=h.2.1 j;simp only[zwt,St.put,qcZ]at hj ⊢;rw[g2];by_cases he:j=n
   .subst he;rw[if_pos rfl,if_pos rfl,if_pos (by rw[h.1]; exact hn)]
   rw[if_neg he,if_neg (λh0=>he h0.symm)];exact hj
def zpt{α:Type}(H:HY)(o:Ob)(c:Nat->HY->Option α):Option α:=zdo H.n λn=>zBc o λo'=>Tr.put o' 40 H.t n λt'=>zdo (Nat.succ n) λn'=>c n ⟨n',t'⟩
variable{α:Type}{H:HY}{h:zan}
theorem zix(hh:zfn H h){o:Ob}{c:Nat->HY->Option α}{x:α}(hc:zpt H o c=some x):∃ H',zfn H' (h ++ [o])/\c h.length H'=some x:=by
 simp only[zpt,zcd,zu3]at hc;obtain⟨t',g1,g2⟩:=Tr.zkn _ _ _ _ hc;rw[hh.1]at g1 g2;refine⟨⟨_,t'⟩,⟨by simp,λk=>?_⟩,g1⟩;simp only[g2,hh.2];by_cases hk:k=h.length
 .subst hk; simp
 rw[if_neg hk];rcases qbh k h.length with h1 | h1
 .rw[qan h1]
 rw[qaI (by omega),qaI (by simp; omega)]
def zlY{α:Type}(H:HY)(β:Nat)(o:Ob)(c:HY->Option α):Option α:=
 match H with
 | ⟨n,t⟩=>bif Nat.blt β n then zBc o λo'=>Tr.put o' 40 t β λt'=>c ⟨n,t'⟩else none
theorem zua(H:HY)(β:Nat)(o:Ob)(c:HY->Option α):zlY H β o c=bif Nat.blt β H.n then zBc o λo'=>Tr.put o' 40 H.t β λt'=>c ⟨H.n,t'⟩else none:=rfl
theorem zfb(hh:zfn H h){β:Nat}{o:Ob}{c:HY->Option α}{x:α}(hc:zlY H β o c=some x):∃ H',zfn H' (h.set β o)/\c H'=some x:=by
 simp only[zua,zu3]at hc;cases hb:Nat.blt β H.n with
 | false=>rw[hb,qdA]at hc; cases hc
 | true=>
  rw[hb,qdz]at hc;have hn:=qbO.mp hb;obtain⟨t',g1,g2⟩:=Tr.zkn _ _ _ _ hc;refine⟨⟨H.n,t'⟩,⟨by simp only[qat]; exact hh.1,λk=>?_⟩,g1⟩;simp only[g2,hh.2,qcZ];by_cases hk:k=β
  .subst hk; rw[if_pos rfl,if_pos rfl,if_pos (by rw[<- hh.1]; exact hn)]
  rw[if_neg hk,if_neg (λh0=>hk h0.symm)]
def apY{α:Type}(H:HY)(e:EffR)(c:V->HY->Option α):Option α:=
 match e with
 | .zeb v=>c v H
 | .snoc f o=>zpt H o λn H'=>c (f n) H'
 | .set v β o=>zlY H β o λH'=>c v H'
 | .setSnoc β o f o'=>zlY H β o λH1=>zpt H1 o' λn H'=>c (f n) H'
theorem zxk(hh:zfn H h){e:EffR}{c:V->HY->Option α}{x:α}(hc:apY H e c=some x):∃ H',zfn H' (e.ap h).2/\c (e.ap h).1 H'=some x:=by
 cases e with
 | zeb v=>exact⟨H,hh,hc⟩
 | snoc f o=>exact zix hh hc
 | set v β o=>exact zfb hh hc
 | setSnoc β o f o'=>
  simp only[apY]at hc;obtain⟨H1,g1,g2⟩:=zfb hh hc;obtain⟨H2,g3,g4⟩:=zix g1 g2;rw[qat]at g4;exact⟨H2,g3,g4⟩
def zuS(T:TY)(H:HY):TY:=match T with | ⟨N,env,dfs,_⟩=>⟨N,env,dfs,H⟩
def zDW{α:Type}(T:TY)(k:HY->α):α:=match T with | ⟨_,_,_,⟨n,t⟩⟩=>k ⟨n,t⟩
theorem ztZ(T:TY)(k:HY->α):zDW T k=k T.hp:=rfl
theorem RY.heap{T:TY}(h:RY T S){hp:zan}(hh:zfn H hp):RY (zuS T H) { S with heap:=hp }:=⟨h.1,h.2.1,h.2.2.1,hh⟩
def zo6(T:TY):Option (Nat×Bool)->Bool
 | none=>true
 | some (k,want)=>match zwt T k with
  | some (.lit (.bool b))=>b == want
  | _=>false
theorem zrQ{T:TY}(h:RY T S)(g:Option (Nat×Bool)):zo6 T g=wanted S.env g:=by
 cases g with
 | none=>rfl
 | some kw=>simp only[zo6,wanted,h.2.1]; rfl
def zgU{α:Type}(H:HY)(l:Nat)(st:Bool)(pend:Option Jump)(k:HY->Option α):Option α:=
 match H.t.get l with
 | some (.loop _ _ env ps asg body)=>zlY H l (.loop st pend env ps asg body) k
 | _=>none
variable{l:Nat}
theorem zgs(hh:zfn H h){st:Bool}{pend:Option Jump}{k:HY->Option α}{x:α}(hc:zgU H l st pend k=some x):∃ h' H',zdC h l st pend=some h'/\zfn H' h'/\k H'=some x:=by
 unfold zgU at hc;rw[hh.2]at hc;split at hc
 .rename_i env ps asg body hl;obtain⟨H',g1,g2⟩:=zfb hh hc;exact⟨_,H',by unfold zdC; rw[hl],g1,g2⟩
 cases hc
def zmO(l:Nat):Option (Ex×TY)->Option (CR×HY)
 | some (.normal,⟨_,_,[],h⟩)=>zgU h l true none λh'=>some (.ret (.lit (.bool true)),h')
 | some (.ret,⟨_,_,[],h⟩)=>zgU h l false (some .ret) λh'=>some (.ret (.lit (.bool false)),h')
 | some (.exit id,⟨_,_,[],h⟩)=>zgU h l false (some (.exit id)) λh'=>some (.ret (.lit (.bool false)),h')
 | _=>none
def zuX(r:RecY)(B l:Nat)(vs:List V)(H:HY):Option (CR×HY):=
 match H.t.get l with
 | some (.loop true none env ps asg body)=>bif Nat.ble B l then(zmc env ps vs λenv'=>zdo env'.length λN=>zxy env' 0 .leaf λe'=>(match r.code B (some l) asg ⟨N,e',[],H⟩with
   | some (.normal,⟨N1,env1,[],h1⟩)=>(match h1.t.get l with
    | some (.loop true none e1 p1 a1 b1)=>zlY h1 l (.loop false none e1 p1 a1 b1) λh2=>zmO l (r.code B (some l) body ⟨N1,env1,[],h2⟩)
    | _=>none)
   | _=>none))else none
 | _=>none
theorem zzf{l:List V}{t:Tr V}(h:∀ j,t.get j=if 0<=j/\j<0+l.length then l[j - 0]? else(Tr.leaf:Tr V).get j){ds:List Df}{hp:zan}(hh:zfn H hp):RY ⟨l.length,t,ds,H⟩ ⟨l,ds,hp⟩:=by
 refine⟨rfl,λk=>?_,rfl,hh⟩;simp only[zwt,h];by_cases hk:k<l.length
 .rw[if_pos (by omega),qdg,qac hk]
 rw[if_neg (by omega),qaI (by omega)];simp only[Tr.get,zf9,hk,decide_false,qdA]
variable{cr:CR}{H':HY}
theorem zmU{ex:Ex}{T:TY}(hS:RY T S)(hc:zmO l (some (ex,T))=some (cr,H')):∃ h',zbE l (some (ex,S))=some (cr,h')/\zfn H' h':=by
 obtain⟨N,e,ds,H⟩:=T;obtain⟨se,sd,sh⟩:=S;obtain⟨h1,h2,h3,h4⟩:=hS;simp only at h1 h2 h3 h4;subst h3;cases ds with
 | cons d ds=>cases ex<;>cases hc
 | nil=>
  cases ex with
  | normal=>
   obtain⟨h',H2,g1,g2,g3⟩:=zgs h4 hc;cases g3;exact⟨h',by simp only[zbE,g1]; rfl,g2⟩
  | ret=>
   obtain⟨h',H2,g1,g2,g3⟩:=zgs h4 hc;cases g3;exact⟨h',by simp only[zbE,g1]; rfl,g2⟩
  | exit id=>
   obtain⟨h',H2,g1,g2,g3⟩:=zgs h4 hc;cases g3;exact⟨h',by simp only[zbE,g1]; rfl,g2⟩
  | panic v e=>cases hc
theorem zut{rY:RecY}{r:Rec}(hr:RRY rY r){B:Nat}{vs:List V}(hh:zfn H h)(hc:zuX rY B l vs H=some (cr,H')):∃ h',round r B l vs h=some (cr,h')/\zfn H' h':=by
 unfold zuX at hc;rw[hh.2]at hc;unfold round;split at hc
 .rename_i env ps asg body hl;rw[hl];cases hB:Nat.ble B l with
  | false=>rw[hB,qdA]at hc; cases hc
  | true=>
   rw[hB,qdz,zka]at hc;simp only[qdz];split at hc
   .rename_i env' hs;rw[hs];simp only[zcd]at hc ⊢;obtain⟨e',g1,g2⟩:=zhR _ _ _ _ hc;split at g1
    .rename_i N1 env1 h1 hcode;obtain⟨S1,k1,k2⟩:=hr.code _ _ _ _ _ _ _ (zzf g2 hh) hcode;rw[k1];obtain⟨se1,sd1,sh1⟩:=S1;obtain⟨m1,m2,m3,m4⟩:=k2;simp only at m1 m2 m3 m4;subst m3;simp only[];rw[m4.2]at g1;split at g1
     .rename_i e1 p1 a1 b1 hl1;rw[hl1];obtain⟨H2,n1,n2⟩:=zfb m4 g1;cases hbody:rY.code B (some l) body ⟨N1,env1,[],H2⟩with
      | none=>rw[hbody]at n2; cases n2
      | some res=>
       obtain⟨ex2,T2⟩:=res;rw[hbody]at n2;obtain⟨S2,p1',p2'⟩:=hr.code _ _ _ ⟨N1,env1,[],H2⟩ ⟨se1,[],sh1.set l (.loop false none e1 p1 a1 b1)⟩ _ _ ⟨m1,m2,rfl,n1⟩ hbody;simp only[p1'];exact zmU p2' n2
     cases g1
    cases g1
   cases hc
 cases hc
def zsQ(r:RecY)(B:Nat)(v:V)(vs:List V)(H:HY):Option (CR×HY):=
 match v with
 | .clo f first cap=>zdi (first ++ vs ++ cap) λl=>r.call B f l H
 | .yld l=>zuX r B l vs H
 | _=>none
theorem zuB{rY:RecY}{r:Rec}(hr:RRY rY r){B:Nat}{v:V}{vs:List V}(hh:zfn H h)(hc:zsQ rY B v vs H=some (cr,H')):∃ h',zra r B v vs h=some (cr,h')/\zfn H' h':=by
 unfold zsQ at hc;unfold zra;split at hc
 .rw[zcB]at hc; exact hr.call _ _ _ _ _ _ _ hh hc
 .exact zut hr hh hc
 cases hc
end Go.Mx
