/-
 The machine with tries: code, calls, runs. Conditions: none.
-/
import Derived.Test.YtbjogdohfhdaiaaGreatEcMx21
set_option linter.unusedSimpArgs false
set_option linter.unusedVariables false
namespace Go.Mx
open Go
def zFt(x:Option (Ex×TY))(k:KY):Option (Ex×TY):=
 match x with
 | some (.normal,T')=>k T'
 | x=>x
def zEU(b:Option Bool)(x y:KY)(T:TY):Option (Ex×TY):=
 match b with
 | some true=>x T
 | some false=>y T
 | none=>none
def zAJ(id:Nat)(x:Option (Ex×TY)):Option (Ex×TY):=
 match x with
 | some (.exit id',T')=>bif Nat.beq id' id then some (.normal,T')else some (.exit id',T')
 | x=>x
def zB2(rd:Option Nat)(H:HY):Bool:=
 match rd with
 | none=>true
 | some l=>match H.t.get l with
  | some (.loop ..)=>true
  | _=>false
variable{H:HY}{h:zam}
theorem zyt(hh:zfD H h)(rd:Option Nat):zB2 rd H=ztT rd h:=by
 cases rd with
 | none=>rfl
 | some l=>simp only[zB2,ztT,hh.2]; rfl
def zqA{α:Type}(rd:Option Nat)(T:TY)(k:List Df->HY->Option α):Option α:=
 match rd with
 | none=>zqC T.hp .dfr λn H=>k (.coll n :: T.dfs) H
 | some _=>k T.dfs T.hp
variable{S:St}
theorem zs5{α:Type}{T:TY}(hS:RY T S){rd:Option Nat}{k:List Df->HY->Option α}{x:α}(hc:zqA rd T k=some x):∃ H,zfD H (zb7 rd S)/\k (zga rd S) H=some x:=by
 cases rd with
 | none=>
  grind [zjq,zqA,Go.Mx.zb7,Go.Mx.zga,Go.Mx.RY]
 | some l=>exact⟨T.hp,hS.2.2.2,by rw[<- show T.dfs=zga (some l) S from hS.2.2.1]; exact hc⟩
def zBk(T:TY)(ds:List Df)(n:Nat)(x:Option (CR×HY)):Option (Ex×TY):=
 match x with
 | some (.ret _,h)=>(match h.t.get n with
  | some (.loop true none _ _ _ _)=>znk h n .dead λh'=>some (.normal,⟨T.N,T.env,ds,h'⟩)
  | some (.loop false (some j) _ _ _ _)=>znk h n .dead λh'=>some (zwV j,⟨T.N,T.env,ds,h'⟩)
  | _=>none)
 | some (.pan v,h)=>some (.panic v true,⟨T.N,T.env,ds,h⟩)
 | none=>none
def zAx(r:RecY)(B:Nat)(rd:Option Nat)(v:Option V)(ps:List Nat)(asg body:C)(T:TY):Option (Ex×TY):=
 match v with
 | some (.clo gf first cap)=>bif zB2 rd T.hp then zqA rd T λds H=>zdZ (zBN T) λenv=>zqC H (.loop true none env ps asg body) λn H'=>
   zdZ (first ++ [.yld n]++ cap) λargs=>zBk T ds n (r.call B gf args H')else none
 | _=>none
def zfI(r:RecY)(B:Nat)(rd:Option Nat):C->KY
 | .skip=>λT=>some (.normal,T)
 | .label _=>λT=>some (.normal,T)
 | .reg dr bar os=>znf r B bar rd.isNone (!dr) os
 | .seq a b=>λT=>zFt (zfI r B rd a T) (zfI r B rd b)
 | .cond x a b=>λT=>zEU (zrR (evY T x)) (zfI r B rd a) (zfI r B rd b) T
 | .block id c=>λT=>zAJ id (zfI r B rd c T)
 | .loop c=>λT=>zFt (zfI r B rd c T) (r.code B rd (.loop c))
 | .scope c=>zfI r B rd c
 | .exit id=>λT=>some (.exit id,T)
 | .ret=>λT=>some (.ret,T)
 | .zeK x ps asg body=>λT=>zAx r B rd (evY T x) ps asg body T
 | .bad=>λ_=>none
theorem zur{T:TY}(h:RY T S)(x:X):zrR (evY T x)=evB S.env x:=by simp only[zrR,evB,zkM h]; rfl
theorem zdF{rY:RecY}{r:Rec}(hr:RRY rY r){B:Nat}{rd:Option Nat}:∀(c:C) (T T':TY) (S:St) (ex:Ex),RY T S->zfI rY B rd c T=some (ex,T')->∃ S',exec r B rd c S=some (ex,S')/\RY T' S'
 | .skip,T,T',S,ex,hS,hc=>by simp only[zfI,qaf,qao]at hc; obtain⟨rfl,rfl⟩:=hc; exact⟨S,rfl,hS⟩
 | .label _,T,T',S,ex,hS,hc=>by simp only[zfI,qaf,qao]at hc; obtain⟨rfl,rfl⟩:=hc; exact⟨S,rfl,hS⟩
 | .exit _,T,T',S,ex,hS,hc=>by simp only[zfI,qaf,qao]at hc; obtain⟨rfl,rfl⟩:=hc; exact⟨S,rfl,hS⟩
 | .ret,T,T',S,ex,hS,hc=>by simp only[zfI,qaf,qao]at hc; obtain⟨rfl,rfl⟩:=hc; exact⟨S,rfl,hS⟩
 | .reg dr bar os,T,T',S,ex,hS,hc=>zlm hr os T S hS hc
 | .seq a b,T,T',S,ex,hS,hc=>by
  simp only[zfI,zFt]at hc;simp only[exec];split at hc
  .rename_i T1 hx;obtain⟨S1,g1,g2⟩:=zdF hr a T T1 S _ hS hx;rw[g1];exact zdF hr b T1 T' S1 ex g2 hc
  .rename_i x hx;obtain⟨S1,g1,g2⟩:=zdF hr a T T' S ex hS hc;rw[g1];cases ex with
   | normal=>exact absurd hc (hx T')
   | _=>exact⟨S1,rfl,g2⟩
 | .cond x a b,T,T',S,ex,hS,hc=>by
  simp only[zfI,zEU,zur hS]at hc;simp only[exec];split at hc
  .rename_i hb;rw[hb];exact zdF hr a T T' S ex hS hc
  .rename_i hb;rw[hb];exact zdF hr b T T' S ex hS hc
  .cases hc
 | .block id c,T,T',S,ex,hS,hc=>by
  simp only[zfI,zAJ]at hc;simp only[exec];split at hc
  .rename_i id' T1 hx;obtain⟨S1,g1,g2⟩:=zdF hr c T T1 S _ hS hx;rw[g1];simp only[zqV]at hc ⊢;cases hid:(id' == id)<;> simp only[hid,qdt,qdu,qaf,qao]at hc ⊢<;>(obtain⟨rfl,rfl⟩:=hc; exact⟨S1,⟨rfl,rfl⟩,g2⟩)
  .rename_i x hx;obtain⟨S1,g1,g2⟩:=zdF hr c T T' S ex hS hc;rw[g1];cases ex with
   | exit id'=>exact absurd hc (hx id' T')
   | _=>exact⟨S1,rfl,g2⟩
 | .loop c,T,T',S,ex,hS,hc=>by
  simp only[zfI,zFt]at hc;simp only[exec];split at hc
  .rename_i T1 hx;obtain⟨S1,g1,g2⟩:=zdF hr c T T1 S _ hS hx;rw[g1];exact hr.code _ _ _ _ _ _ _ g2 hc
  .rename_i x hx;obtain⟨S1,g1,g2⟩:=zdF hr c T T' S ex hS hc;rw[g1];cases ex with
   | normal=>exact absurd hc (hx T')
   | _=>exact⟨S1,rfl,g2⟩
 | .scope c,T,T',S,ex,hS,hc=>zdF hr c T T' S ex hS hc
 | .zeK x ps asg body,T,T',S,ex,hS,hc=>by
  simp only[zfI,zAx,zkM hS,zyt hS.2.2.2,zdo,zzd hS]at hc;simp only[exec];split at hc
  .rename_i gf first cap hx
   rw[hx];cases hok:ztT rd S.heap with
   | false=>rw[hok,qdu]at hc; cases hc
   | true=>
    rw[hok,qdt]at hc;simp only[qbl,qdu];obtain⟨H1,g1,g2⟩:=zs5 hS hc;obtain⟨H2,g3,g4⟩:=zjq g1 g2;cases hcall:rY.call B gf (first ++ [.yld (zb7 rd S).length]++ cap) H2 with
    | none=>rw[hcall]at g4; cases g4
    | some res=>
     obtain⟨cr,H3⟩:=res;rw[hcall]at g4;obtain⟨h3,k1,k2⟩:=hr.call _ _ _ _ _ _ _ g3 hcall;rw[k1];cases cr with
     | ret v=>
      simp only[zBk]at g4;simp only[];rw[k2.2]at g4;split at g4
      .rename_i hh;rw[hh];obtain⟨H4,m1,m2⟩:=zf9 k2 g4;simp only[qaf,qao]at m2;obtain⟨rfl,rfl⟩:=m2;exact⟨_,rfl,hS.1,hS.2.1,rfl,m1⟩
      .rename_i hh;rw[hh];obtain⟨H4,m1,m2⟩:=zf9 k2 g4;simp only[qaf,qao]at m2;obtain⟨rfl,rfl⟩:=m2;exact⟨_,rfl,hS.1,hS.2.1,rfl,m1⟩
      .cases g4
     | pan v=>
      simp only[zBk,qaf,qao]at g4;obtain⟨rfl,rfl⟩:=g4;exact⟨_,rfl,hS.1,hS.2.1,rfl,k2⟩
  .cases hc
 | .bad,T,T',S,ex,hS,hc=>by cases hc
def zko(r:RecY)(B:Nat)(pv:Option V):List Df->HY->Option (Option V×HY)
 | [],h=>some (pv,h)
 | .coll d :: ds,h=>(match h.t.get d with
  | some .dfr=>bif Nat.ble B d then znk h d .dead λh'=>zko r B pv ds h' else none
  | _=>none)
 | .fn f args :: ds,h=>(match r.dcall B f args pv h with
  | some (pv',h')=>zko r B pv' ds h'
  | none=>none)
theorem zh8{rY:RecY}{r:Rec}(hr:RRY rY r){B:Nat}{pv':Option V}{H':HY}:∀(ds:List Df) (pv:Option V) (H:HY) (h:zam),zfD H h->zko rY B pv ds H=some (pv',H')->∃ h',leave r B pv ds h=some (pv',h')/\zfD H' h'
 | [],pv,H,h,hh,hc=>by
  grind [zko,Go.Mx.leave]
 | .coll d :: ds,pv,H,h,hh,hc=>by
  simp only[zko,hh.2]at hc;simp only[leave];split at hc
  .rename_i hd;rw[hd];simp only[];cases hB:Nat.ble B d with
   | false=>simp_all
   | true=>
    rw[hB,qdt]at hc;simp only[qdt];obtain⟨H1,g1,g2⟩:=zf9 hh hc;exact zh8 hr ds pv H1 _ g1 g2
  .cases hc
 | .fn f args :: ds,pv,H,h,hh,hc=>by
  simp only[zko]at hc;simp only[leave];split at hc
  .rename_i pv1 H1 hd;obtain⟨h1,g1,g2⟩:=hr.dcall _ _ _ _ _ _ _ _ hh hd;rw[g1];exact zh8 hr ds pv1 H1 h1 g2 hc
  cases hc
def zmM(H:HY)(T:TY):RX->Option V
 | .tmp k=>zyE T k
 | .cell k n=>zwD (zyE T k) H n
def zmm{α:Type}(H:HY)(T:TY)(k:List V->Option α):List RX->Option α
 | []=>k []
 | x :: r=>match zmM H T x with
  | some v=>fcX v λv'=>zmm H T (λvs=>k (v' :: vs)) r
  | none=>none
theorem zs8{α:Type}(hh:zfD H h){T:TY}(hS:RY T S):∀(l:List RX) (k:List V->Option α),zmm H T k l=(zdj h S.env l).bind k:=by
 have one:∀ x,zmM H T x=zhY h S.env x:=by
  intro x;rw[<- ztI];cases x with
  | tmp k=>simp only[zmM,zl4,hS.2.1,zi8]
  | cell k n=>
   grind [zmM,zl4,zi8,zwD,zqr,zuh,Go.Mx.RY]
 intro l;induction l with
 | nil=>intro k; rfl
 | cons x r ih=>
  intro k;simp only[zmm,zdj,one,zz1,ih];cases zhY h S.env x<;>cases zdj h S.env r<;>rfl
def zw8(r:RecY)(B:Nat)(fn:Fn)(pv:Option V)(e:Bool)(T:TY):Option (CR×HY):=
 match zko r B pv T.dfs T.hp with
 | some (none,h)=>bif !e then none else zmm h T (λvs=>some (.ret (zir vs),h)) fn.rs
 | some (some v,h)=>some (.pan v,h)
 | none=>none
variable{rY:RecY}{r:Rec}{B:Nat}{pv:Option V}{cr:CR}{H':HY}
theorem zl1(hr:RRY rY r){fn:Fn}{e:Bool}{T:TY}(hS:RY T S)(hc:zw8 rY B fn pv e T=some (cr,H')):∃ h',fin r B fn pv e S=some (cr,h')/\zfD H' h':=by
 unfold zw8 at hc;unfold fin;rw[hS.2.2.1]at hc;split at hc
 .rename_i H hl;obtain⟨h,g1,g2⟩:=zh8 hr _ _ _ _ hS.2.2.2 hl;rw[g1];cases e with
  | false=>simp_all
  | true=>
   simp only[qbl,qdu]at hc ⊢;rw[zs8 g2 hS]at hc;cases hx:zdj h S.env fn.rs<;>simp_all
 .rename_i v H hl;obtain⟨h,g1,g2⟩:=zh8 hr _ _ _ _ hS.2.2.2 hl
  simp_all
 cases hc
def zHN(r:RecY)(B:Nat)(fn:Fn)(x:Option (Ex×TY)):Option (CR×HY):=
 match x with
 | some (.normal,S)=>zw8 r B fn none true S
 | some (.ret,S)=>zw8 r B fn none true S
 | some (.panic v e,S)=>zw8 r B fn (some v) e S
 | _=>none
def zvZ(r:RecY)(fn:Fn)(B:Nat)(args:List V)(H:HY):Option (CR×HY):=
 bif Nat.ble args.length fn.N then zeb fn.N λN=>zAF args 0 .leaf λt=>zHN r B fn (zfI r B none fn.c ⟨N,t,[],H⟩)else none
variable{args:List V}
theorem zuc{N:Nat}(hN:args.length<=N){t:Tr V}(h:∀ j,t.get j=if 0<=j/\j<0+args.length then args[j - 0]? else(Tr.leaf:Tr V).get j){hp:zam}(hh:zfD H hp):
  RY ⟨N,t,[],H⟩ ⟨args ++ List.replicate (N - args.length) zbg,[],hp⟩:=by
 grind [zyE,Tr.get,zg3,Go.Mx.RY]
theorem zq2(hr:RRY rY r){fn:Fn}(hh:zfD H h)(hc:zvZ rY fn B args H=some (cr,H')):∃ h',body r fn B args h=some (cr,h')/\zfD H' h':=by
 unfold zvZ at hc;unfold body;cases hle:Nat.ble args.length fn.N with
 | false=>simp_all
 | true=>
  rw[hle,qdt,zcH]at hc;simp only[qdt];obtain⟨t,g1,g2⟩:=ziD _ _ _ _ hc;have hS:=zuc (qad hle) g2 hh;cases hx:zfI rY B none fn.c ⟨fn.N,t,[],H⟩with
  | none=>rw[hx]at g1; cases g1
  | some res=>
   obtain⟨ex,T'⟩:=res;obtain⟨S',k1,k2⟩:=zdF hr _ _ _ _ _ hS hx;rw[hx]at g1;rw[k1];cases ex with
   | normal=>exact zl1 hr k2 g1
   | ret=>exact zl1 hr k2 g1
   | panic v e=>exact zl1 hr k2 g1
   | exit id=>cases g1
def zv8(H:HY)(x:Option (CR×HY)):Option (CR×HY):=
 match x with
 | some (.ret v,_)=>bif v.plain then some (.ret v,H)else none
 | some (.pan v,_)=>bif v.plain then some (.pan v,H)else none
 | none=>none
def zE9(r:RecY)(fn:Fn)(B:Nat)(args:List V)(H:HY):Option (CR×HY):=bif Nat.ble B H.n then zv8 H (zvZ r fn H.n args H)else none
def zvt(r:RecY)(fns:Nat->Option Fn)(B:Nat)(f:Nat)(args:List V)(H:HY):Option (CR×HY):=
 match fns f with
 | some fn=>bif fn.p then zE9 r fn B args H else zvZ r fn B args H
 | none=>none
theorem zwC(hr:RRY rY r){fns:Nat->Option Fn}{f:Nat}(hh:zfD H h)(hc:zvt rY fns B f args H=some (cr,H')):∃ h',zjj r fns B f args h=some (cr,h')/\zfD H' h':=by
 unfold zvt at hc;unfold zjj;split at hc
 .rename_i fn hfn;rw[hfn];cases hp:fn.p with
  | false=>
   grind [zq2]
  | true=>
   rw[hp,qdt]at hc;simp only[hp,qdt];unfold zE9 at hc;rw[hh.1]at hc;cases hB:Nat.ble B h.length with
   | false=>simp_all
   | true=>
    rw[hB,qdt]at hc;simp only[qdt];cases hb:zvZ rY fn h.length args H with
    | none=>rw[hb]at hc; cases hc
    | some y=>
     obtain⟨cr1,H1⟩:=y;rw[hb]at hc;obtain⟨h1,g1,_⟩:=zq2 hr hh hb;rw[g1];cases cr1<;>grind [zv8,forget]
 cases hc
def zwm(d:List V->Option V->zam->Option (Option V×zam))(args:List V)(pv:Option V)(H:HY):Option (Option V×HY):=
 match d args pv (zvD H)with
 | some (pv',h')=>zAF h' 0 .leaf λt=>zeb h'.length λn=>some (pv',⟨n,t⟩)
 | none=>none
theorem zkf{l:zam}{t:Tr Ob}(h:∀ j,t.get j=if 0<=j/\j<0+l.length then l[j - 0]? else(Tr.leaf:Tr Ob).get j):zfD ⟨l.length,t⟩ l:=by
 grind [Go.Mx.zfD,Go.Mx.Tr.get]
theorem zwi{d:List V->Option V->zam->Option (Option V×zam)}{pv':Option V}(hh:zfD H h)(hc:zwm d args pv H=some (pv',H')):∃ h',d args pv h=some (pv',h')/\zfD H' h':=by
 unfold zwm at hc;rw[zxe hh]at hc;split at hc
 .rename_i pv1 h1 hd;obtain⟨t,g1,g2⟩:=ziD _ _ _ _ hc
  grind [zcH,zkf]
 cases hc
def RecY.none:RecY:=⟨λ_ _ _ _=>.none,λ_ _ _ _=>.none,λ_ _ _ _ _=>.none⟩
def zp8:Option (CR×HY)->Bool
 | some (.ret (.lit (.bool b)),_)=>b
 | _=>false
def HY.empty:HY:=⟨0,.leaf⟩
end Go.Mx
