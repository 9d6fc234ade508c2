/-
 The machine with tries: code, calls, runs. Conditions: none.
-/
import Derived.Test.YtbjogdohfhdaiaaGreatErMx21
set_option linter.unusedSimpArgs false
set_option linter.unusedVariables false
namespace Go.Mx
open Go
def zF9(x:Option (Ex×TY))(k:KY):Option (Ex×TY):=
 match x with
 | some (.normal,T')=>k T'
 | x=>x
def zD2(b:Option Bool)(x y:KY)(T:TY):Option (Ex×TY):=
 match b with
 | some true=>x T
 | some false=>y T
 | none=>none
def zAJ(id:Nat)(x:Option (Ex×TY)):Option (Ex×TY):=
 match x with
 | some (.exit id',T')=>bif Nat.beq id' id then some (.normal,T')else some (.exit id',T')
 | x=>x
def zCf(rd:Option Nat)(H:HY):Bool:=
 match rd with
 | none=>true
 | some l=>match H.t.get l with
  | some (.loop ..)=>true
  | _=>false
variable{H:HY}{h:zam}
theorem zzE(hh:zfy H h)(rd:Option Nat):zCf rd H=zuh rd h:=by
 cases rd with
 | none=>rfl
 | some l=>simp only[zCf,zuh,hh.2]; rfl
def zp9{α:Type}(rd:Option Nat)(T:TY)(k:List Df->HY->Option α):Option α:=
 match rd with
 | none=>zro T.hp .dfr λn H=>k (.coll n :: T.dfs) H
 | some _=>k T.dfs T.hp
variable{S:St}
theorem zuc{α:Type}{T:TY}(hS:RY T S){rd:Option Nat}{k:List Df->HY->Option α}{x:α}(hc:zp9 rd T k=some x):∃ H,zfy H (zca rd S)/\k (zfY rd S) H=some x:=by
 cases rd with
 | none=>
  grind [zjV,zp9,Go.Mx.zca,Go.Mx.zfY,Go.Mx.RY]
 | some l=>exact⟨T.hp,hS.2.2.2,by rw[<- show T.dfs=zfY (some l) S from hS.2.2.1]; exact hc⟩
def zCP(T:TY)(ds:List Df)(n:Nat)(x:Option (CR×HY)):Option (Ex×TY):=
 match x with
 | some (.ret _,h)=>(match h.t.get n with
  | some (.loop true none _ _ _ _)=>znY h n .dead λh'=>some (.normal,⟨T.N,T.env,ds,h'⟩)
  | some (.loop false (some j) _ _ _ _)=>znY h n .dead λh'=>some (zvE j,⟨T.N,T.env,ds,h'⟩)
  | _=>none)
 | some (.pan v,h)=>some (.panic v true,⟨T.N,T.env,ds,h⟩)
 | none=>none
def zAX(r:RecY)(B:Nat)(rd:Option Nat)(v:Option V)(ps:List Nat)(asg body:C)(T:TY):Option (Ex×TY):=
 match v with
 | some (.clo gf first cap)=>bif zCf rd T.hp then zp9 rd T λds H=>zd3 (zBn T) λenv=>zro H (.loop true none env ps asg body) λn H'=>
   zd3 (first ++ [.yld n]++ cap) λargs=>zCP T ds n (r.call B gf args H')else none
 | _=>none
def zfD(r:RecY)(B:Nat)(rd:Option Nat):C->KY
 | .skip=>λT=>some (.normal,T)
 | .label _=>λT=>some (.normal,T)
 | .reg dr bar os=>zn6 r B bar rd.isNone (!dr) os
 | .seq a b=>λT=>zF9 (zfD r B rd a T) (zfD r B rd b)
 | .cond x a b=>λT=>zD2 (zrN (evY T x)) (zfD r B rd a) (zfD r B rd b) T
 | .block id c=>λT=>zAJ id (zfD r B rd c T)
 | .loop c=>λT=>zF9 (zfD r B rd c T) (r.code B rd (.loop c))
 | .scope c=>zfD r B rd c
 | .exit id=>λT=>some (.exit id,T)
 | .ret=>λT=>some (.ret,T)
 | .zey x ps asg body=>λT=>zAX r B rd (evY T x) ps asg body T
 | .bad=>λ_=>none
theorem zxX{T:TY}(h:RY T S)(x:X):zrN (evY T x)=evB S.env x:=by simp only[zrN,evB,zkF h]; rfl
theorem zdz{rY:RecY}{r:Rec}(hr:RRY rY r){B:Nat}{rd:Option Nat}:∀(c:C) (T T':TY) (S:St) (ex:Ex),RY T S->zfD rY B rd c T=some (ex,T')->∃ S',exec r B rd c S=some (ex,S')/\RY T' S'
 | .skip,T,T',S,ex,hS,hc=>by simp only[zfD,qae,qan]at hc; obtain⟨rfl,rfl⟩:=hc; exact⟨S,rfl,hS⟩
 | .label _,T,T',S,ex,hS,hc=>by simp only[zfD,qae,qan]at hc; obtain⟨rfl,rfl⟩:=hc; exact⟨S,rfl,hS⟩
 | .exit _,T,T',S,ex,hS,hc=>by simp only[zfD,qae,qan]at hc; obtain⟨rfl,rfl⟩:=hc; exact⟨S,rfl,hS⟩
 | .ret,T,T',S,ex,hS,hc=>by simp only[zfD,qae,qan]at hc; obtain⟨rfl,rfl⟩:=hc; exact⟨S,rfl,hS⟩
 | .reg dr bar os,T,T',S,ex,hS,hc=>zlX hr os T S hS hc
 | .seq a b,T,T',S,ex,hS,hc=>by
  simp only[zfD,zF9]at hc;simp only[exec];split at hc
  .rename_i T1 hx;obtain⟨S1,g1,g2⟩:=zdz hr a T T1 S _ hS hx;rw[g1];exact zdz hr b T1 T' S1 ex g2 hc
  .rename_i x hx;obtain⟨S1,g1,g2⟩:=zdz hr a T T' S ex hS hc;rw[g1];cases ex with
   | normal=>exact absurd hc (hx T')
   | _=>exact⟨S1,rfl,g2⟩
 | .cond x a b,T,T',S,ex,hS,hc=>by
  simp only[zfD,zD2,zxX hS]at hc;simp only[exec];split at hc
  .rename_i hb;rw[hb];exact zdz hr a T T' S ex hS hc
  .rename_i hb;rw[hb];exact zdz hr b T T' S ex hS hc
  .cases hc
 | .block id c,T,T',S,ex,hS,hc=>by
  simp only[zfD,zAJ]at hc;simp only[exec];split at hc
  .rename_i id' T1 hx;obtain⟨S1,g1,g2⟩:=zdz hr c T T1 S _ hS hx;rw[g1];simp only[zq3]at hc ⊢;cases hid:(id' == id)<;> simp only[hid,qdt,qdu,qae,qan]at hc ⊢<;>(obtain⟨rfl,rfl⟩:=hc; exact⟨S1,⟨rfl,rfl⟩,g2⟩)
  .rename_i x hx;obtain⟨S1,g1,g2⟩:=zdz hr c T T' S ex hS hc;rw[g1];cases ex with
   | exit id'=>exact absurd hc (hx id' T')
   | _=>exact⟨S1,rfl,g2⟩
 | .loop c,T,T',S,ex,hS,hc=>by
  simp only[zfD,zF9]at hc;simp only[exec];split at hc
  .rename_i T1 hx;obtain⟨S1,g1,g2⟩:=zdz hr c T T1 S _ hS hx;rw[g1];exact hr.code _ _ _ _ _ _ _ g2 hc
  .rename_i x hx;obtain⟨S1,g1,g2⟩:=zdz hr c T T' S ex hS hc;rw[g1];cases ex with
   | normal=>exact absurd hc (hx T')
   | _=>exact⟨S1,rfl,g2⟩
 | .scope c,T,T',S,ex,hS,hc=>zdz hr c T T' S ex hS hc
 | .zey x ps asg body,T,T',S,ex,hS,hc=>by
  simp only[zfD,zAX,zkF hS,zzE hS.2.2.2,zdc,zy9 hS]at hc;simp only[exec];split at hc
  .rename_i gf first cap hx
   rw[hx];cases hok:zuh rd S.heap with
   | false=>rw[hok,qdu]at hc; cases hc
   | true=>
    rw[hok,qdt]at hc;simp only[qbs,qdu];obtain⟨H1,g1,g2⟩:=zuc hS hc;obtain⟨H2,g3,g4⟩:=zjV g1 g2;cases hcall:rY.call B gf (first ++ [.yld (zca rd S).length]++ cap) H2 with
    | none=>rw[hcall]at g4; cases g4
    | some res=>
     obtain⟨cr,H3⟩:=res;rw[hcall]at g4;obtain⟨h3,k1,k2⟩:=hr.call _ _ _ _ _ _ _ g3 hcall;rw[k1];cases cr with
     | ret v=>
      simp only[zCP]at g4;simp only[];rw[k2.2]at g4;split at g4
      .rename_i hh;rw[hh];obtain⟨H4,m1,m2⟩:=zf4 k2 g4;simp only[qae,qan]at m2;obtain⟨rfl,rfl⟩:=m2;exact⟨_,rfl,hS.1,hS.2.1,rfl,m1⟩
      .rename_i hh;rw[hh];obtain⟨H4,m1,m2⟩:=zf4 k2 g4;simp only[qae,qan]at m2;obtain⟨rfl,rfl⟩:=m2;exact⟨_,rfl,hS.1,hS.2.1,rfl,m1⟩
      .cases g4
     | pan v=>
      simp only[zCP,qae,qan]at g4;obtain⟨rfl,rfl⟩:=g4;exact⟨_,rfl,hS.1,hS.2.1,rfl,k2⟩
  .cases hc
 | .bad,T,T',S,ex,hS,hc=>by cases hc
def zkO(r:RecY)(B:Nat)(pv:Option V):List Df->HY->Option (Option V×HY)
 | [],h=>some (pv,h)
 | .coll d :: ds,h=>(match h.t.get d with
  | some .dfr=>bif Nat.ble B d then znY h d .dead λh'=>zkO r B pv ds h' else none
  | _=>none)
 | .fn f args :: ds,h=>(match r.dcall B f args pv h with
  | some (pv',h')=>zkO r B pv' ds h'
  | none=>none)
theorem zh5{rY:RecY}{r:Rec}(hr:RRY rY r){B:Nat}{pv':Option V}{H':HY}:∀(ds:List Df) (pv:Option V) (H:HY) (h:zam),zfy H h->zkO rY B pv ds H=some (pv',H')->∃ h',leave r B pv ds h=some (pv',h')/\zfy H' h'
 | [],pv,H,h,hh,hc=>by
  grind [zkO,Go.Mx.leave]
 | .coll d :: ds,pv,H,h,hh,hc=>by
  simp only[zkO,hh.2]at hc;simp only[leave];split at hc
  .rename_i hd;rw[hd];simp only[];cases hB:Nat.ble B d with
   | false=>simp_all
   | true=>
    rw[hB,qdt]at hc;simp only[qdt];obtain⟨H1,g1,g2⟩:=zf4 hh hc;exact zh5 hr ds pv H1 _ g1 g2
  .cases hc
 | .fn f args :: ds,pv,H,h,hh,hc=>by
  simp only[zkO]at hc;simp only[leave];split at hc
  .rename_i pv1 H1 hd;obtain⟨h1,g1,g2⟩:=hr.dcall _ _ _ _ _ _ _ _ hh hd;rw[g1];exact zh5 hr ds pv1 H1 h1 g2 hc
  cases hc
def znP(H:HY)(T:TY):RX->Option V
 | .tmp k=>zyt T k
 | .cell k n=>zxI (zyt T k) H n
def zmp{α:Type}(H:HY)(T:TY)(k:List V->Option α):List RX->Option α
 | []=>k []
 | x :: r=>match znP H T x with
  | some v=>fcX v λv'=>zmp H T (λvs=>k (v' :: vs)) r
  | none=>none
theorem ztI{α:Type}(hh:zfy H h){T:TY}(hS:RY T S):∀(l:List RX) (k:List V->Option α),zmp H T k l=(zcL h S.env l).bind k:=by
 have one:∀ x,znP H T x=zht h S.env x:=by
  intro x;rw[<- ztd];cases x with
  | tmp k=>simp only[znP,znl,hS.2.1,zju]
  | cell k n=>
   grind [znP,znl,zju,zxI,zrf,zwc,Go.Mx.RY]
 intro l;induction l with
 | nil=>intro k; rfl
 | cons x r ih=>
  intro k;simp only[zmp,zcL,one,zAN,ih];cases zht h S.env x<;>cases zcL h S.env r<;>rfl
def zuu(r:RecY)(B:Nat)(fn:Fn)(pv:Option V)(e:Bool)(T:TY):Option (CR×HY):=
 match zkO r B pv T.dfs T.hp with
 | some (none,h)=>bif !e then none else zmp h T (λvs=>some (.ret (zhB vs),h)) fn.rs
 | some (some v,h)=>some (.pan v,h)
 | none=>none
variable{rY:RecY}{r:Rec}{B:Nat}{pv:Option V}{cr:CR}{H':HY}
theorem zm8(hr:RRY rY r){fn:Fn}{e:Bool}{T:TY}(hS:RY T S)(hc:zuu rY B fn pv e T=some (cr,H')):∃ h',fin r B fn pv e S=some (cr,h')/\zfy H' h':=by
 unfold zuu at hc;unfold fin;rw[hS.2.2.1]at hc;split at hc
 .rename_i H hl;obtain⟨h,g1,g2⟩:=zh5 hr _ _ _ _ hS.2.2.2 hl;rw[g1];cases e with
  | false=>simp_all
  | true=>
   simp only[qbs,qdu]at hc ⊢;rw[ztI g2 hS]at hc;cases hx:zcL h S.env fn.rs<;>simp_all
 .rename_i v H hl;obtain⟨h,g1,g2⟩:=zh5 hr _ _ _ _ hS.2.2.2 hl
  simp_all
 cases hc
def zJf(r:RecY)(B:Nat)(fn:Fn)(x:Option (Ex×TY)):Option (CR×HY):=
 match x with
 | some (.normal,S)=>zuu r B fn none true S
 | some (.ret,S)=>zuu r B fn none true S
 | some (.panic v e,S)=>zuu r B fn (some v) e S
 | _=>none
def zvv(r:RecY)(fn:Fn)(B:Nat)(args:List V)(H:HY):Option (CR×HY):=
 bif Nat.ble args.length fn.N then zd9 fn.N λN=>zAi args 0 .leaf λt=>zJf r B fn (zfD r B none fn.c ⟨N,t,[],H⟩)else none
variable{args:List V}
theorem zxW{N:Nat}(hN:args.length<=N){t:Tr V}(h:∀ j,t.get j=if 0<=j/\j<0+args.length then args[j - 0]? else(Tr.leaf:Tr V).get j){hp:zam}(hh:zfy H hp):
  RY ⟨N,t,[],H⟩ ⟨args ++ List.replicate (N - args.length) zbc,[],hp⟩:=by
 grind [zyt,Tr.get,zhf,Go.Mx.RY]
theorem zrT(hr:RRY rY r){fn:Fn}(hh:zfy H h)(hc:zvv rY fn B args H=some (cr,H')):∃ h',body r fn B args h=some (cr,h')/\zfy H' h':=by
 unfold zvv at hc;unfold body;cases hle:Nat.ble args.length fn.N with
 | false=>simp_all
 | true=>
  rw[hle,qdt,zcC]at hc;simp only[qdt];obtain⟨t,g1,g2⟩:=ziX _ _ _ _ hc;have hS:=zxW (qad hle) g2 hh;cases hx:zfD rY B none fn.c ⟨fn.N,t,[],H⟩with
  | none=>rw[hx]at g1; cases g1
  | some res=>
   obtain⟨ex,T'⟩:=res;obtain⟨S',k1,k2⟩:=zdz hr _ _ _ _ _ hS hx;rw[hx]at g1;rw[k1];cases ex with
   | normal=>exact zm8 hr k2 g1
   | ret=>exact zm8 hr k2 g1
   | panic v e=>exact zm8 hr k2 g1
   | exit id=>cases g1
def zw8(H:HY)(x:Option (CR×HY)):Option (CR×HY):=
 match x with
 | some (.ret v,_)=>bif v.plain then some (.ret v,H)else none
 | some (.pan v,_)=>bif v.plain then some (.pan v,H)else none
 | none=>none
def zFv(r:RecY)(fn:Fn)(B:Nat)(args:List V)(H:HY):Option (CR×HY):=bif Nat.ble B H.n then zw8 H (zvv r fn H.n args H)else none
def zwt(r:RecY)(fns:Nat->Option Fn)(B:Nat)(f:Nat)(args:List V)(H:HY):Option (CR×HY):=
 match fns f with
 | some fn=>bif fn.p then zFv r fn B args H else zvv r fn B args H
 | none=>none
theorem zuT(hr:RRY rY r){fns:Nat->Option Fn}{f:Nat}(hh:zfy H h)(hc:zwt rY fns B f args H=some (cr,H')):∃ h',zi2 r fns B f args h=some (cr,h')/\zfy H' h':=by
 unfold zwt at hc;unfold zi2;split at hc
 .rename_i fn hfn;rw[hfn];cases hp:fn.p with
  | false=>
   grind [zrT]
  | true=>
   rw[hp,qdt]at hc;simp only[hp,qdt];unfold zFv at hc;rw[hh.1]at hc;cases hB:Nat.ble B h.length with
   | false=>simp_all
   | true=>
    rw[hB,qdt]at hc;simp only[qdt];cases hb:zvv rY fn h.length args H with
    | none=>rw[hb]at hc; cases hc
    | some y=>
     obtain⟨cr1,H1⟩:=y;rw[hb]at hc;obtain⟨h1,g1,_⟩:=zrT hr hh hb;rw[g1];cases cr1<;>grind [zw8,forget]
 cases hc
def zwk(d:List V->Option V->zam->Option (Option V×zam))(args:List V)(pv:Option V)(H:HY):Option (Option V×HY):=
 match d args pv (zu6 H)with
 | some (pv',h')=>zAi h' 0 .leaf λt=>zd9 h'.length λn=>some (pv',⟨n,t⟩)
 | none=>none
theorem zj8{l:zam}{t:Tr Ob}(h:∀ j,t.get j=if 0<=j/\j<0+l.length then l[j - 0]? else(Tr.leaf:Tr Ob).get j):zfy ⟨l.length,t⟩ l:=by
 grind [Go.Mx.zfy,Go.Mx.Tr.get]
theorem zws{d:List V->Option V->zam->Option (Option V×zam)}{pv':Option V}(hh:zfy H h)(hc:zwk d args pv H=some (pv',H')):∃ h',d args pv h=some (pv',h')/\zfy H' h':=by
 unfold zwk at hc;rw[zuW hh]at hc;split at hc
 .rename_i pv1 h1 hd;obtain⟨t,g1,g2⟩:=ziX _ _ _ _ hc
  grind [zcC,zj8]
 cases hc
def RecY.none:RecY:=⟨λ_ _ _ _=>.none,λ_ _ _ _=>.none,λ_ _ _ _ _=>.none⟩
def zql:Option (CR×HY)->Bool
 | some (.ret (.lit (.bool b)),_)=>b
 | _=>false
def HY.empty:HY:=⟨0,.leaf⟩
end Go.Mx
