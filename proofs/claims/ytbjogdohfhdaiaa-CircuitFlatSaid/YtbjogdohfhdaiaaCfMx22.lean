/-
 The machine with tries: code, calls, runs. Conditions: none.
-/
import Derived.Test.YtbjogdohfhdaiaaCfMx21
set_option linter.unusedSimpArgs false
set_option linter.unusedVariables false
namespace Go.Mx
open Go
def zBU(x:Option (Ex×TY))(k:KY):Option (Ex×TY):=
 match x with
 | some (.normal,T')=>k T'
 | x=>x
def zBl(b:Option Bool)(x y:KY)(T:TY):Option (Ex×TY):=
 match b with
 | some true=>x T
 | some false=>y T
 | none=>none
def zxO(id:Nat)(x:Option (Ex×TY)):Option (Ex×TY):=
 match x with
 | some (.exit id',T')=>bif Nat.beq id' id then some (.normal,T')else some (.exit id',T')
 | x=>x
def zyl(rd:Option Nat)(H:HY):Bool:=
 match rd with
 | none=>true
 | some l=>match H.t.get l with
  | some (.loop ..)=>true
  | _=>false
variable{H:HY}{h:zaj}
theorem zu9(hh:zez H h)(rd:Option Nat):zyl rd H=zsS rd h:=by
 cases rd with
 | none=>rfl
 | some l=>simp only[zyl,zsS,hh.2]; rfl
def zt5{α:Type}(rd:Option Nat)(T:TY)(k:List Df->HY->Option α):Option α:=
 match rd with
 | none=>zkJ T.hp .dfr λn H=>k (.coll n :: T.dfs) H
 | some _=>k T.dfs T.hp
variable{T:TY}{S:St}
theorem zrc{α:Type}(hS:RY T S){rd:Option Nat}{k:List Df->HY->Option α}{x:α}(hc:zt5 rd T k=some x):∃ H,zez H (zbN rd S)/\k (zhb rd S) H=some x:=by
 cases rd with
 | none=>
  obtain⟨H,g1,g2⟩:=zgO hS.2.2.2 hc;exact⟨H,g1,by rw[hS.2.2.1]at g2; exact g2⟩
 | some l=>exact⟨T.hp,hS.2.2.2,by rw[<- show T.dfs=zhb (some l) S from hS.2.2.1]; exact hc⟩
def zzj(T:TY)(ds:List Df)(n:Nat)(x:Option (CR×HY)):Option (Ex×TY):=
 match x with
 | some (.ret _,h)=>(match h.t.get n with
  | some (.loop true none _ _ _ _)=>zko h n .dead λh'=>some (.normal,⟨T.N,T.env,ds,h'⟩)
  | some (.loop false (some j) _ _ _ _)=>zko h n .dead λh'=>some (ztm j,⟨T.N,T.env,ds,h'⟩)
  | _=>none)
 | some (.pan v,h)=>some (.panic v true,⟨T.N,T.env,ds,h⟩)
 | none=>none
def zw6(r:RecY)(B:Nat)(rd:Option Nat)(v:Option V)(ps:List Nat)(asg body:C)(T:TY):Option (Ex×TY):=
 match v with
 | some (.clo gf first cap)=>bif zyl rd T.hp then zt5 rd T λds H=>zcQ (zy1 T) λenv=>zkJ H (.loop true none env ps asg body) λn H'=>
   zcQ (first ++ [.yld n]++ cap) λargs=>zzj T ds n (r.call B gf args H')else none
 | _=>none
def zei(r:RecY)(B:Nat)(rd:Option Nat):C->KY
 | .skip=>λT=>some (.normal,T)
 | .label _=>λT=>some (.normal,T)
 | .reg dr bar os=>zk5 r B bar rd.isNone (!dr) os
 | .seq a b=>λT=>zBU (zei r B rd a T) (zei r B rd b)
 | .cond x a b=>λT=>zBl (zoU (evY T x)) (zei r B rd a) (zei r B rd b) T
 | .block id c=>λT=>zxO id (zei r B rd c T)
 | .loop c=>λT=>zBU (zei r B rd c T) (r.code B rd (.loop c))
 | .scope c=>zei r B rd c
 | .exit id=>λT=>some (.exit id,T)
 | .ret=>λT=>some (.ret,T)
 | .zeG x ps asg body=>λT=>zw6 r B rd (evY T x) ps asg body T
 | .bad=>λ_=>none
theorem zuN(h:RY T S)(x:X):zoU (evY T x)=evB S.env x:=by simp only[zoU,evB,zit h]; rfl
theorem zcx{rY:RecY}{r:Rec}(hr:RRY rY r){B:Nat}{rd:Option Nat}:∀(c:C) (T T':TY) (S:St) (ex:Ex),RY T S->zei rY B rd c T=some (ex,T')->∃ S',exec r B rd c S=some (ex,S')/\RY T' S'
 | .skip,T,T',S,ex,hS,hc=>by simp only[zei,qad,qag]at hc; obtain⟨rfl,rfl⟩:=hc; exact⟨S,rfl,hS⟩
 | .label _,T,T',S,ex,hS,hc=>by simp only[zei,qad,qag]at hc; obtain⟨rfl,rfl⟩:=hc; exact⟨S,rfl,hS⟩
 | .exit _,T,T',S,ex,hS,hc=>by simp only[zei,qad,qag]at hc; obtain⟨rfl,rfl⟩:=hc; exact⟨S,rfl,hS⟩
 | .ret,T,T',S,ex,hS,hc=>by simp only[zei,qad,qag]at hc; obtain⟨rfl,rfl⟩:=hc; exact⟨S,rfl,hS⟩
 | .reg dr bar os,T,T',S,ex,hS,hc=>zjt hr os T S hS hc
 | .seq a b,T,T',S,ex,hS,hc=>by
  simp only[zei,zBU]at hc;simp only[exec];split at hc
  .rename_i T1 hx;obtain⟨S1,g1,g2⟩:=zcx hr a T T1 S _ hS hx;rw[g1];exact zcx hr b T1 T' S1 ex g2 hc
  .rename_i x hx;obtain⟨S1,g1,g2⟩:=zcx hr a T T' S ex hS hc;rw[g1];cases ex with
   | normal=>exact absurd hc (hx T')
   | _=>exact⟨S1,rfl,g2⟩
 | .cond x a b,T,T',S,ex,hS,hc=>by
  simp only[zei,zBl,zuN hS]at hc;simp only[exec];split at hc
  .rename_i hb;rw[hb];exact zcx hr a T T' S ex hS hc
  .rename_i hb;rw[hb];exact zcx hr b T T' S ex hS hc
  .cases hc
 | .block id c,T,T',S,ex,hS,hc=>by
  simp only[zei,zxO]at hc;simp only[exec];split at hc
  .rename_i id' T1 hx;obtain⟨S1,g1,g2⟩:=zcx hr c T T1 S _ hS hx;rw[g1];simp only[zn2]at hc ⊢;cases hid:(id' == id)<;> simp only[hid,qdl,qdm,qad,qag]at hc ⊢<;>(obtain⟨rfl,rfl⟩:=hc; exact⟨S1,⟨rfl,rfl⟩,g2⟩)
  .rename_i x hx;obtain⟨S1,g1,g2⟩:=zcx hr c T T' S ex hS hc;rw[g1];cases ex with
   | exit id'=>exact absurd hc (hx id' T')
   | _=>exact⟨S1,rfl,g2⟩
 | .loop c,T,T',S,ex,hS,hc=>by
  simp only[zei,zBU]at hc;simp only[exec];split at hc
  .rename_i T1 hx;obtain⟨S1,g1,g2⟩:=zcx hr c T T1 S _ hS hx;rw[g1];exact hr.code _ _ _ _ _ _ _ g2 hc
  .rename_i x hx;obtain⟨S1,g1,g2⟩:=zcx hr c T T' S ex hS hc;rw[g1];cases ex with
   | normal=>exact absurd hc (hx T')
   | _=>exact⟨S1,rfl,g2⟩
 | .scope c,T,T',S,ex,hS,hc=>zcx hr c T T' S ex hS hc
 | .zeG x ps asg body,T,T',S,ex,hS,hc=>by
  simp only[zei,zw6,zit hS,zu9 hS.2.2.2,zb5,zvo hS]at hc;simp only[exec];split at hc
  .rename_i gf first cap hx
   rw[hx];cases hok:zsS rd S.heap with
   | false=>rw[hok,qdm]at hc; cases hc
   | true=>
    rw[hok,qdl]at hc;simp only[qba,qdm];obtain⟨H1,g1,g2⟩:=zrc hS hc;obtain⟨H2,g3,g4⟩:=zgO g1 g2;cases hcall:rY.call B gf (first ++ [.yld (zbN rd S).length]++ cap) H2 with
    | none=>rw[hcall]at g4; cases g4
    | some res=>
     obtain⟨cr,H3⟩:=res;rw[hcall]at g4;obtain⟨h3,k1,k2⟩:=hr.call _ _ _ _ _ _ _ g3 hcall;rw[k1];cases cr with
     | ret v=>
      simp only[zzj]at g4;simp only[];rw[k2.2]at g4;split at g4
      .rename_i hh;rw[hh];obtain⟨H4,m1,m2⟩:=zey k2 g4;simp only[qad,qag]at m2;obtain⟨rfl,rfl⟩:=m2;exact⟨_,rfl,hS.1,hS.2.1,rfl,m1⟩
      .rename_i hh;rw[hh];obtain⟨H4,m1,m2⟩:=zey k2 g4;simp only[qad,qag]at m2;obtain⟨rfl,rfl⟩:=m2;exact⟨_,rfl,hS.1,hS.2.1,rfl,m1⟩
      .cases g4
     | pan v=>
      simp only[zzj,qad,qag]at g4;obtain⟨rfl,rfl⟩:=g4;exact⟨_,rfl,hS.1,hS.2.1,rfl,k2⟩
  .cases hc
 | .bad,T,T',S,ex,hS,hc=>by cases hc
def ziU(r:RecY)(B:Nat)(pv:Option V):List Df->HY->Option (Option V×HY)
 | [],h=>some (pv,h)
 | .coll d :: ds,h=>(match h.t.get d with
  | some .dfr=>bif Nat.ble B d then zko h d .dead λh'=>ziU r B pv ds h' else none
  | _=>none)
 | .fn f args :: ds,h=>(match r.dcall B f args pv h with
  | some (pv',h')=>ziU r B pv' ds h'
  | none=>none)
theorem zgk{rY:RecY}{r:Rec}(hr:RRY rY r){B:Nat}{pv':Option V}{H':HY}:∀(ds:List Df) (pv:Option V) (H:HY) (h:zaj),zez H h->ziU rY B pv ds H=some (pv',H')->∃ h',leave r B pv ds h=some (pv',h')/\zez H' h'
 | [],pv,H,h,hh,hc=>by
  simp only[ziU,qad,qag]at hc;obtain⟨rfl,rfl⟩:=hc;exact⟨h,rfl,hh⟩
 | .coll d :: ds,pv,H,h,hh,hc=>by
  simp only[ziU,hh.2]at hc;simp only[leave];split at hc
  .rename_i hd;rw[hd];simp only[];cases hB:Nat.ble B d with
   | false=>rw[hB,qdm]at hc; cases hc
   | true=>
    rw[hB,qdl]at hc;simp only[qdl];obtain⟨H1,g1,g2⟩:=zey hh hc;exact zgk hr ds pv H1 _ g1 g2
  .cases hc
 | .fn f args :: ds,pv,H,h,hh,hc=>by
  simp only[ziU]at hc;simp only[leave];split at hc
  .rename_i pv1 H1 hd;obtain⟨h1,g1,g2⟩:=hr.dcall _ _ _ _ _ _ _ _ hh hd;rw[g1];exact zgk hr ds pv1 H1 h1 g2 hc
  cases hc
def zkA(H:HY)(T:TY):RX->Option V
 | .tmp k=>zvc T k
 | .cell k n=>zpG (zvc T k) H n
def zk7{α:Type}(H:HY)(T:TY)(k:List V->Option α):List RX->Option α
 | []=>k []
 | x :: r=>match zkA H T x with
  | some v=>fcX v λv'=>zk7 H T (λvs=>k (v' :: vs)) r
  | none=>none
theorem zqz{α:Type}(hh:zez H h)(hS:RY T S):∀(l:List RX) (k:List V->Option α),zk7 H T k l=(zbC h S.env l).bind k:=by
 have one:∀ x,zkA H T x=zeN h S.env x:=by
  intro x;rw[<- zrd];cases x with
  | tmp k=>simp only[zkA,zja,hS.2.1,zgY]
  | cell k n=>
   simp only[zkA,zja,hS.2.1,zgY,zpG,znX hh,zti];rfl
 intro l;induction l with
 | nil=>intro k; rfl
 | cons x r ih=>
  intro k;simp only[zk7,zbC,one,zxg,ih];cases zeN h S.env x<;>cases zbC h S.env r<;>rfl
def zt9(r:RecY)(B:Nat)(fn:Fn)(pv:Option V)(e:Bool)(T:TY):Option (CR×HY):=
 match ziU r B pv T.dfs T.hp with
 | some (none,h)=>bif !e then none else zk7 h T (λvs=>some (.ret (zeY vs),h)) fn.rs
 | some (some v,h)=>some (.pan v,h)
 | none=>none
variable{rY:RecY}{r:Rec}{B:Nat}{pv:Option V}{cr:CR}{H':HY}
theorem zkv(hr:RRY rY r){fn:Fn}{e:Bool}(hS:RY T S)(hc:zt9 rY B fn pv e T=some (cr,H')):∃ h',fin r B fn pv e S=some (cr,h')/\zez H' h':=by
 unfold zt9 at hc;unfold fin;rw[hS.2.2.1]at hc;split at hc
 .rename_i H hl;obtain⟨h,g1,g2⟩:=zgk hr _ _ _ _ hS.2.2.2 hl;rw[g1];cases e with
  | false=>simp only[qbW,qdl]at hc; cases hc
  | true=>
   simp only[qba,qdm]at hc ⊢;rw[zqz g2 hS]at hc;cases hx:zbC h S.env fn.rs with
   | none=>rw[hx]at hc; cases hc
   | some vs=>
    rw[hx]at hc;simp only[qaa,qad,qag]at hc;obtain⟨rfl,rfl⟩:=hc;exact⟨h,rfl,g2⟩
 .rename_i v H hl;obtain⟨h,g1,g2⟩:=zgk hr _ _ _ _ hS.2.2.2 hl;rw[g1];simp only[qad,qag]at hc;obtain⟨rfl,rfl⟩:=hc;exact⟨h,rfl,g2⟩
 cases hc
def zDu(r:RecY)(B:Nat)(fn:Fn)(x:Option (Ex×TY)):Option (CR×HY):=
 match x with
 | some (.normal,S)=>zt9 r B fn none true S
 | some (.ret,S)=>zt9 r B fn none true S
 | some (.panic v e,S)=>zt9 r B fn (some v) e S
 | _=>none
def zsQ(r:RecY)(fn:Fn)(B:Nat)(args:List V)(H:HY):Option (CR×HY):=
 bif Nat.ble args.length fn.N then zdt fn.N λN=>zzD args 0 .leaf λt=>zDu r B fn (zei r B none fn.c ⟨N,t,[],H⟩)else none
variable{args:List V}
theorem zry{N:Nat}(hN:args.length<=N){t:Tr V}(h:∀ j,t.get j=if 0<=j/\j<0+args.length then args[j - 0]? else(Tr.leaf:Tr V).get j){hp:zaj}(hh:zez H hp):
  RY ⟨N,t,[],H⟩ ⟨args ++ List.replicate (N - args.length) zaG,[],hp⟩:=by
 refine⟨by simp; omega,λk=>?_,rfl,hh⟩;simp only[zvc,h,qbk,qbX];by_cases hk:k<args.length
 .rw[if_pos (by omega),qcI,if_pos hk,qac hk]
 rw[if_neg (by omega),if_neg hk];simp only[Tr.get,zfG];by_cases hk2:k<N
 .rw[if_pos (by omega)]; simp[hk2]
 rw[if_neg (by omega)]; simp[hk2]
theorem zph(hr:RRY rY r){fn:Fn}(hh:zez H h)(hc:zsQ rY fn B args H=some (cr,H')):∃ h',body r fn B args h=some (cr,h')/\zez H' h':=by
 unfold zsQ at hc;unfold body;cases hle:Nat.ble args.length fn.N with
 | false=>rw[hle,qdm]at hc; cases hc
 | true=>
  rw[hle,qdl,zcg]at hc;simp only[qdl];obtain⟨t,g1,g2⟩:=zlp _ _ _ _ hc;have hS:=zry (qah hle) g2 hh;cases hx:zei rY B none fn.c ⟨fn.N,t,[],H⟩with
  | none=>rw[hx]at g1; cases g1
  | some res=>
   obtain⟨ex,T'⟩:=res;obtain⟨S',k1,k2⟩:=zcx hr _ _ _ _ _ hS hx;rw[hx]at g1;rw[k1];cases ex with
   | normal=>exact zkv hr k2 g1
   | ret=>exact zkv hr k2 g1
   | panic v e=>exact zkv hr k2 g1
   | exit id=>cases g1
def zod(H:HY)(x:Option (CR×HY)):Option (CR×HY):=
 match x with
 | some (.ret v,_)=>bif v.plain then some (.ret v,H)else none
 | some (.pan v,_)=>bif v.plain then some (.pan v,H)else none
 | none=>none
def zAF(r:RecY)(fn:Fn)(B:Nat)(args:List V)(H:HY):Option (CR×HY):=bif Nat.ble B H.n then zod H (zsQ r fn H.n args H)else none
def zuf(r:RecY)(fns:Nat->Option Fn)(B:Nat)(f:Nat)(args:List V)(H:HY):Option (CR×HY):=
 match fns f with
 | some fn=>bif fn.p then zAF r fn B args H else zsQ r fn B args H
 | none=>none
variable{fns:Nat->Option Fn}
theorem zrL(hr:RRY rY r){f:Nat}(hh:zez H h)(hc:zuf rY fns B f args H=some (cr,H')):∃ h',zgT r fns B f args h=some (cr,h')/\zez H' h':=by
 unfold zuf at hc;unfold zgT;split at hc
 .rename_i fn hfn;rw[hfn];cases hp:fn.p with
  | false=>
   rw[hp,qdm]at hc;simp only[hp,qdm];exact zph hr hh hc
  | true=>
   rw[hp,qdl]at hc;simp only[hp,qdl];unfold zAF at hc;rw[hh.1]at hc;cases hB:Nat.ble B h.length with
   | false=>rw[hB,qdm]at hc; cases hc
   | true=>
    rw[hB,qdl]at hc;simp only[qdl];cases hb:zsQ rY fn h.length args H with
    | none=>rw[hb]at hc; cases hc
    | some y=>
     obtain⟨cr1,H1⟩:=y;rw[hb]at hc;obtain⟨h1,g1,_⟩:=zph hr hh hb;rw[g1];cases cr1 with
     | ret v=>
      simp only[zod]at hc;simp only[forget];cases hv:v.plain with
      | false=>rw[hv,qdm]at hc; cases hc
      | true=>
       rw[hv,qdl]at hc;simp only[qad,qag]at hc;obtain⟨rfl,rfl⟩:=hc;exact⟨h,rfl,hh⟩
     | pan v=>
      simp only[zod]at hc;simp only[forget];cases hv:v.plain with
      | false=>rw[hv,qdm]at hc; cases hc
      | true=>
       rw[hv,qdl]at hc;simp only[qad,qag]at hc;obtain⟨rfl,rfl⟩:=hc;exact⟨h,rfl,hh⟩
 cases hc
def ztJ(d:List V->Option V->zaj->Option (Option V×zaj))(args:List V)(pv:Option V)(H:HY):Option (Option V×HY):=
 match d args pv (zrA H)with
 | some (pv',h')=>zzD h' 0 .leaf λt=>zdt h'.length λn=>some (pv',⟨n,t⟩)
 | none=>none
theorem ztr{l:zaj}{t:Tr Ob}(h:∀ j,t.get j=if 0<=j/\j<0+l.length then l[j - 0]? else(Tr.leaf:Tr Ob).get j):zez ⟨l.length,t⟩ l:=by
 refine⟨rfl,λk=>?_⟩;simp only[h];by_cases hk:k<l.length
 .rw[if_pos (by omega),qcI]
 rw[if_neg (by omega),qaP (by omega)]; rfl
theorem zuE{d:List V->Option V->zaj->Option (Option V×zaj)}{pv':Option V}(hh:zez H h)(hc:ztJ d args pv H=some (pv',H')):∃ h',d args pv h=some (pv',h')/\zez H' h':=by
 unfold ztJ at hc;rw[zt8 hh]at hc;split at hc
 .rename_i pv1 h1 hd;obtain⟨t,g1,g2⟩:=zlp _ _ _ _ hc;simp only[zcg,qad,qag]at g1;obtain⟨rfl,rfl⟩:=g1;exact⟨h1,hd,ztr g2⟩
 cases hc
structure Ans where
 res:Nat->CR
 new:Option Ob
abbrev Dcd:=(Nat->Option (List V))->Nat->List V->Option Ans
def Ans.ap(h:zaj)(a:Ans):CR×zaj:=
 match a.new with
 | none=>(a.res h.length,h)
 | some o=>(a.res h.length,h ++ [o])
def ztq(D:Dcd):Orc:=λ_ f args h=>(D (zas h) f args).map (Ans.ap h)
def zCm(H:HY)(a:Ans):Option (CR×HY):=
 match a.new with
 | none=>some (a.res H.n,H)
 | some o=>zdt H.n λm=>Tr.put o 40 H.t m λt'=>zdt (Nat.succ m) λn'=>some (a.res m,⟨n',t'⟩)
theorem zyy(hh:zez H h){a:Ans}(hc:zCm H a=some (cr,H')):∃ h',a.ap h=(cr,h')/\zez H' h':=by
 unfold zCm at hc;unfold Ans.ap;cases hn:a.new with
 | none=>
  rw[hn]at hc;simp only[qad,qag]at hc;obtain⟨rfl,rfl⟩:=hc;exact⟨h,by rw[hh.1],hh⟩
 | some o=>
  rw[hn]at hc;simp only[zcg]at hc;have hc2:zkJ H o (λm H2=>some (a.res m,H2))=some (cr,H'):=by
   simp only[zkJ,zcg,zn0]; exact hc
  obtain⟨H2,g1,g2⟩:=zgO hh hc2;simp only[qad,qag]at g2;obtain⟨rfl,rfl⟩:=g2;exact⟨_,rfl,g1⟩
def zEc(x:Option Ans)(H:HY)(k:HY->Option (CR×HY)):Option (CR×HY):=
 match x with
 | some a=>zCm H a
 | none=>k H
def RecY.none:RecY:=⟨λ_ _ _ _=>.none,λ_ _ _ _=>.none,λ_ _ _ _ _=>.none⟩
def zzl(D:Dcd)(fns:Nat->Option Fn):Nat->RecY
 | 0=>RecY.none
 | n+1=>⟨zei (zzl D fns n),λB f args H=>zEc (D (ztp H) f args) H (zuf (zzl D fns n) fns B f args),λB f=>ztJ (zjm (zun (ztq D) fns n) fns B f)⟩
theorem zom(D:Dcd)(fns:Nat->Option Fn):∀ n,RRY (zzl D fns n) (zun (ztq D) fns n)
 | 0=>⟨λ_ _ _ _ _ _ _ _ h=>(by cases h),λ_ _ _ _ _ _ _ _ h=>(by cases h),λ_ _ _ _ _ _ _ _ _ h=>(by cases h)⟩
 | n+1=>by
  refine⟨λB rd c T S ex T' hS hc=>zcx (zom D fns n) c T T' S ex hS hc,λB f args H h cr H' hh hc=>?_,λB f args pv H h pv' H' hh hc=>zuE hh hc⟩;simp only[zzl]at hc;simp only[zun,ztq];rw[show ztp H=zas h from funext (znX hh)]at hc;cases ho:D (zas h) f args with
  | some y=>
   rw[ho]at hc;obtain⟨h',g1,g2⟩:=zyy hh hc;exact⟨h',by simp only[qaM,zrI,g1],g2⟩
  | none=>
   rw[ho]at hc;exact zrL (zom D fns n) hh hc
def znJ:Option (CR×HY)->Bool
 | some (.ret (.lit (.bool b)),_)=>b
 | _=>false
def HY.empty:HY:=⟨0,.leaf⟩
def noD:Dcd:=λ_ _ _=>none
theorem zzZ(P:Program):zgQ P (ztq noD):=λ_ _ _ _ _ _ h=>(by cases h)
theorem zkl{P:Program}(hm:P.follows .mixedOrders=true)(htab:∀ f fn,fns f=some fn->zjd P f fn){D:Dcd}(ho:zgQ P (ztq D)){n f:Nat}(h:znJ ((zzl D fns n).call 0 f [] HY.empty)=true)(w:World):
  Calls P f #[] w λe w'=>e=.returned (.bool true)/\Go.RowKit.Below w.heap.size w w':=by
 have hok:=zoD hm htab ho n;cases hc0:(zzl D fns n).call 0 f [] HY.empty with
 | none=>rw[hc0]at h; cases h
 | some res=>
  rw[hc0]at h;obtain⟨cr,H'⟩:=res;obtain⟨h',hc,_⟩:=(zom D fns n).call _ _ _ _ [] _ _ ⟨rfl,λk=>by simp[HY.empty,Tr.get]⟩ hc0;have hS:Sim P 0 w (λ_=>none) [] w:=⟨qap _,Go.RowKit.Below.refl _ _,by simp,by simp,by simp,by simp,by simp⟩;obtain⟨_,hcalls⟩:=(hok.call _ _ _ _ _ _ hc).1.1 w (λ_=>none) w #[] hS ⟨rfl,by simp⟩;have hw:CallsIn Fence.wide 0 P f #[] w (zeF P 0 w (λ_=>none) cr h'):=hcalls;refine Calls.mono (callsIn_wide.1 hw) λe w' hp=>?_
  obtain⟨ι',_,hS',hp⟩:=hp;unfold znJ at h;split at h
  .rename_i b h2 heq;cases heq;obtain⟨u,rfl,hv⟩:=hp;cases hv;subst h;exact⟨rfl,hS'.below⟩
  cases h
end Go.Mx
