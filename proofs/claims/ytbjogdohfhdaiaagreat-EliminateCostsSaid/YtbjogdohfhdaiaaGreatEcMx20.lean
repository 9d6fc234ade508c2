/-
 The machine with tries: operations, code, calls. Conditions: none.
-/
import Derived.Test.YtbjogdohfhdaiaaGreatEcMx19
set_option linter.unusedSimpArgs false
set_option linter.unusedVariables false
namespace Go.Mx
open Go
abbrev KY:=TY->Option (Ex×TY)
structure RecY where
 code:Nat->Option Nat->C->TY->Option (Ex×TY)
 call:Nat->Nat->List V->HY->Option (CR×HY)
 dcall:Nat->Nat->List V->Option V->HY->Option (Option V×HY)
structure RRY (rY:RecY) (r:Rec):Prop where
 code:∀ B rd c T S ex T',RY T S->rY.code B rd c T=some (ex,T')->∃ S',r.code B rd c S=some (ex,S')/\RY T' S'
 call:∀ B f args H h cr H',zfD H h->rY.call B f args H=some (cr,H')->∃ h',r.call B f args h=some (cr,h')/\zfD H' h'
 dcall:∀ B f args pv H h pv' H',zfD H h->rY.dcall B f args pv H=some (pv',H')->∃ h',r.dcall B f args pv h=some (pv',h')/\zfD H' h'
def zDE(T:TY)(n:Nat)(v:V)(k:KY):Option (Ex×TY):=
 match T with
 | ⟨N,env,dfs,hp⟩=>bif Nat.blt n N then fcX v λv'=>Tr.put v' 40 env n λenv'=>k ⟨N,env',dfs,hp⟩else none
theorem zuy(T:TY)(n:Nat)(v:V)(k:KY):zDE T n v k=bif Nat.blt n T.N then fcX v λv'=>Tr.put v' 40 T.env n λenv'=>k ⟨T.N,env',T.dfs,T.hp⟩else none:=rfl
def zyD(T:TY)(d:Option Nat)(v:V)(k:KY):Option (Ex×TY):=
 match d with
 | none=>k T
 | some n=>zDE T n v k
variable{S:St}
theorem zvj{T:TY}(h:RY T S){d:Option Nat}{v:V}{k:KY}{x:Ex×TY}(hc:zyD T d v k=some x):∃ T',RY T' (S.put d v)/\k T'=some x:=by
 cases d with
 | none=>exact⟨T,h,hc⟩
 | some n=>
  simp only[zyD,zuy,zz1]at hc;cases hb:Nat.blt n T.N with
  | false=>simp_all
  | true=>
   rw[hb,qdt]at hc;have hn:=qbO.mp hb;obtain⟨t',g1,g2⟩:=Tr.zlr _ _ _ _ hc
   grind [St.put,zyE,Go.Mx.RY]
def zqC{α:Type}(H:HY)(o:Ob)(c:Nat->HY->Option α):Option α:=zeb H.n λn=>zEm o λo'=>Tr.put o' 40 H.t n λt'=>zeb (Nat.succ n) λn'=>c n ⟨n',t'⟩
variable{α:Type}{H:HY}{h:zam}{x:α}
theorem zjq(hh:zfD H h){o:Ob}{c:Nat->HY->Option α}(hc:zqC H o c=some x):∃ H',zfD H' (h ++ [o])/\c h.length H'=some x:=by
 simp only[zqC,zcH,zt9]at hc;obtain⟨t',g1,g2⟩:=Tr.zlr _ _ _ _ hc
 grind [Go.Mx.zfD]
def znk{α:Type}(H:HY)(β:Nat)(o:Ob)(c:HY->Option α):Option α:=
 match H with
 | ⟨n,t⟩=>bif Nat.blt β n then zEm o λo'=>Tr.put o' 40 t β λt'=>c ⟨n,t'⟩else none
theorem zw0(H:HY)(β:Nat)(o:Ob)(c:HY->Option α):znk H β o c=bif Nat.blt β H.n then zEm o λo'=>Tr.put o' 40 H.t β λt'=>c ⟨H.n,t'⟩else none:=rfl
theorem zf9(hh:zfD H h){β:Nat}{o:Ob}{c:HY->Option α}(hc:znk H β o c=some x):∃ H',zfD H' (h.set β o)/\c H'=some x:=by
 simp only[zw0,zt9]at hc;cases hb:Nat.blt β H.n with
 | false=>simp_all
 | true=>
  rw[hb,qdt]at hc;have hn:=qbO.mp hb;obtain⟨t',g1,g2⟩:=Tr.zlr _ _ _ _ hc
  grind [Go.Mx.zfD]
def apY{α:Type}(H:HY)(e:EffR)(c:V->HY->Option α):Option α:=
 match e with
 | .zgk v=>c v H
 | .snoc f o=>zqC H o λn H'=>c (f n) H'
 | .set v β o=>znk H β o λH'=>c v H'
 | .setSnoc β o f o'=>znk H β o λH1=>zqC H1 o' λn H'=>c (f n) H'
theorem zzz(hh:zfD H h){e:EffR}{c:V->HY->Option α}(hc:apY H e c=some x):∃ H',zfD H' (e.ap h).2/\c (e.ap h).1 H'=some x:=by
 cases e with
 | zgk v=>exact⟨H,hh,hc⟩
 | snoc f o=>exact zjq hh hc
 | set v β o=>exact zf9 hh hc
 | setSnoc β o f o'=>
  grind [apY,zf9,zjq,Go.Mx.EffR.ap]
def zvv(T:TY)(H:HY):TY:=match T with | ⟨N,env,dfs,_⟩=>⟨N,env,dfs,H⟩
def zFS{α:Type}(T:TY)(k:HY->α):α:=match T with | ⟨_,_,_,⟨n,t⟩⟩=>k ⟨n,t⟩
theorem zv6(T:TY)(k:HY->α):zFS T k=k T.hp:=rfl
theorem RY.heap{T:TY}(h:RY T S){hp:zam}(hh:zfD H hp):RY (zvv T H) { S with heap:=hp }:=⟨h.1,h.2.1,h.2.2.1,hh⟩
def zqt(T:TY):Option (Nat×Bool)->Bool
 | none=>true
 | some (k,want)=>match zyE T k with
  | some (.lit (.bool b))=>b == want
  | _=>false
theorem zs7{T:TY}(h:RY T S)(g:Option (Nat×Bool)):zqt T g=wanted S.env g:=by
 cases g with
 | none=>rfl
 | some kw=>simp only[zqt,wanted,h.2.1]; rfl
def zh7{α:Type}(H:HY)(l:Nat)(st:Bool)(pend:Option Jump)(k:HY->Option α):Option α:=
 match H.t.get l with
 | some (.loop _ _ env ps asg body)=>znk H l (.loop st pend env ps asg body) k
 | _=>none
variable{l:Nat}
theorem zqk(hh:zfD H h){st:Bool}{pend:Option Jump}{k:HY->Option α}(hc:zh7 H l st pend k=some x):∃ h' H',zeN h l st pend=some h'/\zfD H' h'/\k H'=some x:=by
 grind [zh7,zf9,zeN,Go.Mx.zfD]
def zkc(l:Nat):Option (Ex×TY)->Option (CR×HY)
 | some (.normal,⟨_,_,[],h⟩)=>zh7 h l true none λh'=>some (.ret (.lit (.bool true)),h')
 | some (.ret,⟨_,_,[],h⟩)=>zh7 h l false (some .ret) λh'=>some (.ret (.lit (.bool false)),h')
 | some (.exit id,⟨_,_,[],h⟩)=>zh7 h l false (some (.exit id)) λh'=>some (.ret (.lit (.bool false)),h')
 | _=>none
def zun(r:RecY)(B l:Nat)(vs:List V)(H:HY):Option (CR×HY):=
 match H.t.get l with
 | some (.loop true none env ps asg body)=>bif Nat.ble B l then(zmY env ps vs λenv'=>zeb env'.length λN=>zAF env' 0 .leaf λe'=>(match r.code B (some l) asg ⟨N,e',[],H⟩with
   | some (.normal,⟨N1,env1,[],h1⟩)=>(match h1.t.get l with
    | some (.loop true none e1 p1 a1 b1)=>znk h1 l (.loop false none e1 p1 a1 b1) λh2=>zkc l (r.code B (some l) body ⟨N1,env1,[],h2⟩)
    | _=>none)
   | _=>none))else none
 | _=>none
theorem zBI{l:List V}{t:Tr V}(h:∀ j,t.get j=if 0<=j/\j<0+l.length then l[j - 0]? else(Tr.leaf:Tr V).get j){ds:List Df}{hp:zam}(hh:zfD H hp):RY ⟨l.length,t,ds,H⟩ ⟨l,ds,hp⟩:=by
 grind [zyE,Tr.get,zg3,Go.Mx.RY]
variable{cr:CR}{H':HY}
theorem zpf{ex:Ex}{T:TY}(hS:RY T S)(hc:zkc l (some (ex,T))=some (cr,H')):∃ h',zco l (some (ex,S))=some (cr,h')/\zfD H' h':=by
 obtain⟨N,e,ds,H⟩:=T;obtain⟨se,sd,sh⟩:=S;obtain⟨h1,h2,h3,h4⟩:=hS;simp only at h1 h2 h3 h4;subst h3;cases ds with
 | cons d ds=>cases ex<;>cases hc
 | nil=>
  cases ex<;>grind [zqk,zco,zkc]
theorem zxD{rY:RecY}{r:Rec}(hr:RRY rY r){B:Nat}{vs:List V}(hh:zfD H h)(hc:zun rY B l vs H=some (cr,H')):∃ h',round r B l vs h=some (cr,h')/\zfD H' h':=by
 unfold zun at hc;rw[hh.2]at hc;unfold round;split at hc
 .rename_i env ps asg body hl;rw[hl];cases hB:Nat.ble B l with
  | false=>simp_all
  | true=>
   rw[hB,qdt,zlH]at hc;simp only[qdt];split at hc
   .rename_i env' hs;rw[hs];simp only[zcH]at hc ⊢;obtain⟨e',g1,g2⟩:=ziD _ _ _ _ hc;split at g1
    .rename_i N1 env1 h1 hcode;obtain⟨S1,k1,k2⟩:=hr.code _ _ _ _ _ _ _ (zBI g2 hh) hcode;rw[k1];obtain⟨se1,sd1,sh1⟩:=S1;obtain⟨m1,m2,m3,m4⟩:=k2;simp only at m1 m2 m3 m4;subst m3;simp only[];rw[m4.2]at g1;split at g1
     .rename_i e1 p1 a1 b1 hl1;rw[hl1];obtain⟨H2,n1,n2⟩:=zf9 m4 g1;cases hbody:rY.code B (some l) body ⟨N1,env1,[],H2⟩with
      | none=>rw[hbody]at n2; cases n2
      | some res=>
       obtain⟨ex2,T2⟩:=res;rw[hbody]at n2;obtain⟨S2,p1',p2'⟩:=hr.code _ _ _ ⟨N1,env1,[],H2⟩ ⟨se1,[],sh1.set l (.loop false none e1 p1 a1 b1)⟩ _ _ ⟨m1,m2,rfl,n1⟩ hbody
       grind [zpf]
     cases g1
    cases g1
   cases hc
 cases hc
def zvr(r:RecY)(B:Nat)(v:V)(vs:List V)(H:HY):Option (CR×HY):=
 match v with
 | .clo f first cap=>zdZ (first ++ vs ++ cap) λl=>r.call B f l H
 | .yld l=>zun r B l vs H
 | _=>none
theorem zuI{rY:RecY}{r:Rec}(hr:RRY rY r){B:Nat}{v:V}{vs:List V}(hh:zfD H h)(hc:zvr rY B v vs H=some (cr,H')):∃ h',zn4 r B v vs h=some (cr,h')/\zfD H' h':=by
 unfold zvr at hc
 grind [zn4,zdo,zxD,RRY]
end Go.Mx
