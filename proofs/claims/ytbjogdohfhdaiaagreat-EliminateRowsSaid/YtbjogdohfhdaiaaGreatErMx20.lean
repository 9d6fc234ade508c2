/-
 The machine with tries: operations, code, calls. Conditions: none.
-/
import Derived.Test.YtbjogdohfhdaiaaGreatErMx19
set_option linter.unusedSimpArgs false
set_option linter.unusedVariables false
namespace Go.Mx
open Go
abbrev KY:=TY->Option (Ex×TY)
structure RecY where
 code:Nat->Option Nat->C->TY->Option (Ex×TY)
 call:Nat->Nat->List V->HY->Option (CR×HY)
 dcall:Nat->Nat->List V->Option V->HY->Option (Option V×HY)
structure RRY (rY:RecY) (r:Rec):Prop where
 code:∀ B rd c T S ex T',RY T S->rY.code B rd c T=some (ex,T')->∃ S',r.code B rd c S=some (ex,S')/\RY T' S'
 call:∀ B f args H h cr H',zfy H h->rY.call B f args H=some (cr,H')->∃ h',r.call B f args h=some (cr,h')/\zfy H' h'
 dcall:∀ B f args pv H h pv' H',zfy H h->rY.dcall B f args pv H=some (pv',H')->∃ h',r.dcall B f args pv h=some (pv',h')/\zfy H' h'
def zET(T:TY)(n:Nat)(v:V)(k:KY):Option (Ex×TY):=
 match T with
 | ⟨N,env,dfs,hp⟩=>bif Nat.blt n N then fcX v λv'=>Tr.put v' 40 env n λenv'=>k ⟨N,env',dfs,hp⟩else none
theorem zvk(T:TY)(n:Nat)(v:V)(k:KY):zET T n v k=bif Nat.blt n T.N then fcX v λv'=>Tr.put v' 40 T.env n λenv'=>k ⟨T.N,env',T.dfs,T.hp⟩else none:=rfl
def zzz(T:TY)(d:Option Nat)(v:V)(k:KY):Option (Ex×TY):=
 match d with
 | none=>k T
 | some n=>zET T n v k
variable{S:St}
theorem zvt{T:TY}(h:RY T S){d:Option Nat}{v:V}{k:KY}{x:Ex×TY}(hc:zzz T d v k=some x):∃ T',RY T' (S.put d v)/\k T'=some x:=by
 cases d with
 | none=>exact⟨T,h,hc⟩
 | some n=>
  simp only[zzz,zvk,zAN]at hc;cases hb:Nat.blt n T.N with
  | false=>simp_all
  | true=>
   rw[hb,qdt]at hc;have hn:=qbU.mp hb;obtain⟨t',g1,g2⟩:=Tr.zlA _ _ _ _ hc
   grind [St.put,zyt,Go.Mx.RY]
def zro{α:Type}(H:HY)(o:Ob)(c:Nat->HY->Option α):Option α:=zd9 H.n λn=>zF2 o λo'=>Tr.put o' 40 H.t n λt'=>zd9 (Nat.succ n) λn'=>c n ⟨n',t'⟩
variable{α:Type}{H:HY}{h:zam}
theorem zjV(hh:zfy H h){o:Ob}{c:Nat->HY->Option α}{x:α}(hc:zro H o c=some x):∃ H',zfy H' (h ++ [o])/\c h.length H'=some x:=by
 simp only[zro,zcC,zvb]at hc;obtain⟨t',g1,g2⟩:=Tr.zlA _ _ _ _ hc
 grind [Go.Mx.zfy]
def znY{α:Type}(H:HY)(β:Nat)(o:Ob)(c:HY->Option α):Option α:=
 match H with
 | ⟨n,t⟩=>bif Nat.blt β n then zF2 o λo'=>Tr.put o' 40 t β λt'=>c ⟨n,t'⟩else none
theorem zwd(H:HY)(β:Nat)(o:Ob)(c:HY->Option α):znY H β o c=bif Nat.blt β H.n then zF2 o λo'=>Tr.put o' 40 H.t β λt'=>c ⟨H.n,t'⟩else none:=rfl
theorem zf4(hh:zfy H h){β:Nat}{o:Ob}{c:HY->Option α}{x:α}(hc:znY H β o c=some x):∃ H',zfy H' (h.set β o)/\c H'=some x:=by
 simp only[zwd,zvb]at hc;cases hb:Nat.blt β H.n with
 | false=>simp_all
 | true=>
  rw[hb,qdt]at hc;have hn:=qbU.mp hb;obtain⟨t',g1,g2⟩:=Tr.zlA _ _ _ _ hc
  grind [Go.Mx.zfy]
def apY{α:Type}(H:HY)(e:EffR)(c:V->HY->Option α):Option α:=
 match e with
 | .zgl v=>c v H
 | .snoc f o=>zro H o λn H'=>c (f n) H'
 | .set v β o=>znY H β o λH'=>c v H'
 | .setSnoc β o f o'=>znY H β o λH1=>zro H1 o' λn H'=>c (f n) H'
theorem zz0(hh:zfy H h){e:EffR}{c:V->HY->Option α}{x:α}(hc:apY H e c=some x):∃ H',zfy H' (e.ap h).2/\c (e.ap h).1 H'=some x:=by
 cases e with
 | zgl v=>exact⟨H,hh,hc⟩
 | snoc f o=>exact zjV hh hc
 | set v β o=>exact zf4 hh hc
 | setSnoc β o f o'=>
  grind [apY,zf4,zjV,Go.Mx.EffR.ap]
def zu3(T:TY)(H:HY):TY:=match T with | ⟨N,env,dfs,_⟩=>⟨N,env,dfs,H⟩
def zGY{α:Type}(T:TY)(k:HY->α):α:=match T with | ⟨_,_,_,⟨n,t⟩⟩=>k ⟨n,t⟩
theorem zvm(T:TY)(k:HY->α):zGY T k=k T.hp:=rfl
theorem RY.heap{T:TY}(h:RY T S){hp:zam}(hh:zfy H hp):RY (zu3 T H) { S with heap:=hp }:=⟨h.1,h.2.1,h.2.2.1,hh⟩
def zqm(T:TY):Option (Nat×Bool)->Bool
 | none=>true
 | some (k,want)=>match zyt T k with
  | some (.lit (.bool b))=>b == want
  | _=>false
theorem zt0{T:TY}(h:RY T S)(g:Option (Nat×Bool)):zqm T g=wanted S.env g:=by
 cases g with
 | none=>rfl
 | some kw=>simp only[zqm,wanted,h.2.1]; rfl
def zhN{α:Type}(H:HY)(l:Nat)(st:Bool)(pend:Option Jump)(k:HY->Option α):Option α:=
 match H.t.get l with
 | some (.loop _ _ env ps asg body)=>znY H l (.loop st pend env ps asg body) k
 | _=>none
variable{l:Nat}
theorem zrt(hh:zfy H h){st:Bool}{pend:Option Jump}{k:HY->Option α}{x:α}(hc:zhN H l st pend k=some x):∃ h' H',zeQ h l st pend=some h'/\zfy H' h'/\k H'=some x:=by
 grind [zhN,zf4,zeQ,Go.Mx.zfy]
def zkd(l:Nat):Option (Ex×TY)->Option (CR×HY)
 | some (.normal,⟨_,_,[],h⟩)=>zhN h l true none λh'=>some (.ret (.lit (.bool true)),h')
 | some (.ret,⟨_,_,[],h⟩)=>zhN h l false (some .ret) λh'=>some (.ret (.lit (.bool false)),h')
 | some (.exit id,⟨_,_,[],h⟩)=>zhN h l false (some (.exit id)) λh'=>some (.ret (.lit (.bool false)),h')
 | _=>none
def zvu(r:RecY)(B l:Nat)(vs:List V)(H:HY):Option (CR×HY):=
 match H.t.get l with
 | some (.loop true none env ps asg body)=>bif Nat.ble B l then(zmV env ps vs λenv'=>zd9 env'.length λN=>zAi env' 0 .leaf λe'=>(match r.code B (some l) asg ⟨N,e',[],H⟩with
   | some (.normal,⟨N1,env1,[],h1⟩)=>(match h1.t.get l with
    | some (.loop true none e1 p1 a1 b1)=>znY h1 l (.loop false none e1 p1 a1 b1) λh2=>zkd l (r.code B (some l) body ⟨N1,env1,[],h2⟩)
    | _=>none)
   | _=>none))else none
 | _=>none
theorem zDo{l:List V}{t:Tr V}(h:∀ j,t.get j=if 0<=j/\j<0+l.length then l[j - 0]? else(Tr.leaf:Tr V).get j){ds:List Df}{hp:zam}(hh:zfy H hp):RY ⟨l.length,t,ds,H⟩ ⟨l,ds,hp⟩:=by
 grind [zyt,Tr.get,zhf,Go.Mx.RY]
variable{cr:CR}{H':HY}
theorem zoi{ex:Ex}{T:TY}(hS:RY T S)(hc:zkd l (some (ex,T))=some (cr,H')):∃ h',zco l (some (ex,S))=some (cr,h')/\zfy H' h':=by
 obtain⟨N,e,ds,H⟩:=T;obtain⟨se,sd,sh⟩:=S;obtain⟨h1,h2,h3,h4⟩:=hS;simp only at h1 h2 h3 h4;subst h3;cases ds with
 | cons d ds=>cases ex<;>cases hc
 | nil=>
  cases ex<;>grind [zrt,zco,zkd]
theorem zvI{rY:RecY}{r:Rec}(hr:RRY rY r){B:Nat}{vs:List V}(hh:zfy H h)(hc:zvu rY B l vs H=some (cr,H')):∃ h',round r B l vs h=some (cr,h')/\zfy H' h':=by
 unfold zvu at hc;rw[hh.2]at hc;unfold round;split at hc
 .rename_i env ps asg body hl;rw[hl];cases hB:Nat.ble B l with
  | false=>simp_all
  | true=>
   rw[hB,qdt,zma]at hc;simp only[qdt];split at hc
   .rename_i env' hs;rw[hs];simp only[zcC]at hc ⊢;obtain⟨e',g1,g2⟩:=ziX _ _ _ _ hc;split at g1
    .rename_i N1 env1 h1 hcode;obtain⟨S1,k1,k2⟩:=hr.code _ _ _ _ _ _ _ (zDo g2 hh) hcode;rw[k1];obtain⟨se1,sd1,sh1⟩:=S1;obtain⟨m1,m2,m3,m4⟩:=k2;simp only at m1 m2 m3 m4;subst m3;simp only[];rw[m4.2]at g1;split at g1
     .rename_i e1 p1 a1 b1 hl1;rw[hl1];obtain⟨H2,n1,n2⟩:=zf4 m4 g1;cases hbody:rY.code B (some l) body ⟨N1,env1,[],H2⟩with
      | none=>rw[hbody]at n2; cases n2
      | some res=>
       obtain⟨ex2,T2⟩:=res;rw[hbody]at n2;obtain⟨S2,p1',p2'⟩:=hr.code _ _ _ ⟨N1,env1,[],H2⟩ ⟨se1,[],sh1.set l (.loop false none e1 p1 a1 b1)⟩ _ _ ⟨m1,m2,rfl,n1⟩ hbody
       grind [zoi]
     cases g1
    cases g1
   cases hc
 cases hc
def zxY(r:RecY)(B:Nat)(v:V)(vs:List V)(H:HY):Option (CR×HY):=
 match v with
 | .clo f first cap=>zd3 (first ++ vs ++ cap) λl=>r.call B f l H
 | .yld l=>zvu r B l vs H
 | _=>none
theorem zwa{rY:RecY}{r:Rec}(hr:RRY rY r){B:Nat}{v:V}{vs:List V}(hh:zfy H h)(hc:zxY rY B v vs H=some (cr,H')):∃ h',zno r B v vs h=some (cr,h')/\zfy H' h':=by
 unfold zxY at hc
 grind [zno,zdc,zvI,RRY]
end Go.Mx
