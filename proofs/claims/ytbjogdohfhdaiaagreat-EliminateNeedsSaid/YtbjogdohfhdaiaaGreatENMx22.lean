/-
 The machine with tries: code, calls, runs. Conditions: none.
-/
import Derived.Test.YtbjogdohfhdaiaaGreatENMx21
set_option linter.unusedSimpArgs false
set_option linter.unusedVariables false
namespace Go.Mx
open Go
def zCS(x:Option (Ex×TY))(k:KY):Option (Ex×TY):=
 match x with
 | some (.normal,T')=>k T'
 | x=>x
def zAA(b:Option Bool)(x y:KY)(T:TY):Option (Ex×TY):=
 match b with
 | some true=>x T
 | some false=>y T
 | none=>none
def zxH(id:Nat)(x:Option (Ex×TY)):Option (Ex×TY):=
 match x with
 | some (.exit id',T')=>bif Nat.beq id' id then some (.normal,T')else some (.exit id',T')
 | x=>x
def zzH(rd:Option Nat)(H:HY):Bool:=
 match rd with
 | none=>true
 | some l=>match H.t.get l with
  | some (.loop ..)=>true
  | _=>false
variable{H:HY}{h:zan}
theorem zwL(hh:zfn H h)(rd:Option Nat):zzH rd H=zvp rd h:=by
 cases rd with
 | none=>rfl
 | some l=>simp only[zzH,zvp,hh.2]; rfl
def zvi{α:Type}(rd:Option Nat)(T:TY)(k:List Df->HY->Option α):Option α:=
 match rd with
 | none=>zpt T.hp .dfr λn H=>k (.coll n :: T.dfs) H
 | some _=>k T.dfs T.hp
variable{S:St}
theorem zry{α:Type}{T:TY}(hS:RY T S){rd:Option Nat}{k:List Df->HY->Option α}{x:α}(hc:zvi rd T k=some x):∃ H,zfn H (zb6 rd S)/\k (zhP rd S) H=some x:=by
 cases rd with
 | none=>
  obtain⟨H,g1,g2⟩:=zix hS.2.2.2 hc;exact⟨H,g1,by rw[hS.2.2.1]at g2; exact g2⟩
 | some l=>exact⟨T.hp,hS.2.2.2,by rw[<- show T.dfs=zhP (some l) S from hS.2.2.1]; exact hc⟩
def zyP(T:TY)(ds:List Df)(n:Nat)(x:Option (CR×HY)):Option (Ex×TY):=
 match x with
 | some (.ret _,h)=>(match h.t.get n with
  | some (.loop true none _ _ _ _)=>zlY h n .dead λh'=>some (.normal,⟨T.N,T.env,ds,h'⟩)
  | some (.loop false (some j) _ _ _ _)=>zlY h n .dead λh'=>some (zvm j,⟨T.N,T.env,ds,h'⟩)
  | _=>none)
 | some (.pan v,h)=>some (.panic v true,⟨T.N,T.env,ds,h⟩)
 | none=>none
def zxA(r:RecY)(B:Nat)(rd:Option Nat)(v:Option V)(ps:List Nat)(asg body:C)(T:TY):Option (Ex×TY):=
 match v with
 | some (.clo gf first cap)=>bif zzH rd T.hp then zvi rd T λds H=>zdi (zze T) λenv=>zpt H (.loop true none env ps asg body) λn H'=>
   zdi (first ++ [.yld n]++ cap) λargs=>zyP T ds n (r.call B gf args H')else none
 | _=>none
def zeK(r:RecY)(B:Nat)(rd:Option Nat):C->KY
 | .skip=>λT=>some (.normal,T)
 | .label _=>λT=>some (.normal,T)
 | .reg dr bar os=>zlD r B bar rd.isNone (!dr) os
 | .seq a b=>λT=>zCS (zeK r B rd a T) (zeK r B rd b)
 | .cond x a b=>λT=>zAA (zp2 (evY T x)) (zeK r B rd a) (zeK r B rd b) T
 | .block id c=>λT=>zxH id (zeK r B rd c T)
 | .loop c=>λT=>zCS (zeK r B rd c T) (r.code B rd (.loop c))
 | .scope c=>zeK r B rd c
 | .exit id=>λT=>some (.exit id,T)
 | .ret=>λT=>some (.ret,T)
 | .zen x ps asg body=>λT=>zxA r B rd (evY T x) ps asg body T
 | .bad=>λ_=>none
theorem zs0{T:TY}(h:RY T S)(x:X):zp2 (evY T x)=evB S.env x:=by simp only[zp2,evB,ziX h]; rfl
theorem zc0{rY:RecY}{r:Rec}(hr:RRY rY r){B:Nat}{rd:Option Nat}:∀(c:C) (T T':TY) (S:St) (ex:Ex),RY T S->zeK rY B rd c T=some (ex,T')->∃ S',exec r B rd c S=some (ex,S')/\RY T' S'
 | .skip,T,T',S,ex,hS,hc=>by simp only[zeK,qad,qah]at hc; obtain⟨rfl,rfl⟩:=hc; exact⟨S,rfl,hS⟩
 | .label _,T,T',S,ex,hS,hc=>by simp only[zeK,qad,qah]at hc; obtain⟨rfl,rfl⟩:=hc; exact⟨S,rfl,hS⟩
 | .exit _,T,T',S,ex,hS,hc=>by simp only[zeK,qad,qah]at hc; obtain⟨rfl,rfl⟩:=hc; exact⟨S,rfl,hS⟩
 | .ret,T,T',S,ex,hS,hc=>by simp only[zeK,qad,qah]at hc; obtain⟨rfl,rfl⟩:=hc; exact⟨S,rfl,hS⟩
 | .reg dr bar os,T,T',S,ex,hS,hc=>zkc hr os T S hS hc
 | .seq a b,T,T',S,ex,hS,hc=>by
  simp only[zeK,zCS]at hc;simp only[exec];split at hc
  .rename_i T1 hx;obtain⟨S1,g1,g2⟩:=zc0 hr a T T1 S _ hS hx;rw[g1];exact zc0 hr b T1 T' S1 ex g2 hc
  .rename_i x hx;obtain⟨S1,g1,g2⟩:=zc0 hr a T T' S ex hS hc;rw[g1];cases ex with
   | normal=>exact absurd hc (hx T')
   | _=>exact⟨S1,rfl,g2⟩
 | .cond x a b,T,T',S,ex,hS,hc=>by
  simp only[zeK,zAA,zs0 hS]at hc;simp only[exec];split at hc
  .rename_i hb;rw[hb];exact zc0 hr a T T' S ex hS hc
  .rename_i hb;rw[hb];exact zc0 hr b T T' S ex hS hc
  .cases hc
 | .block id c,T,T',S,ex,hS,hc=>by
  simp only[zeK,zxH]at hc;simp only[exec];split at hc
  .rename_i id' T1 hx;obtain⟨S1,g1,g2⟩:=zc0 hr c T T1 S _ hS hx;rw[g1];simp only[zps]at hc ⊢;cases hid:(id' == id)<;> simp only[hid,qdz,qdA,qad,qah]at hc ⊢<;>(obtain⟨rfl,rfl⟩:=hc; exact⟨S1,⟨rfl,rfl⟩,g2⟩)
  .rename_i x hx;obtain⟨S1,g1,g2⟩:=zc0 hr c T T' S ex hS hc;rw[g1];cases ex with
   | exit id'=>exact absurd hc (hx id' T')
   | _=>exact⟨S1,rfl,g2⟩
 | .loop c,T,T',S,ex,hS,hc=>by
  simp only[zeK,zCS]at hc;simp only[exec];split at hc
  .rename_i T1 hx;obtain⟨S1,g1,g2⟩:=zc0 hr c T T1 S _ hS hx;rw[g1];exact hr.code _ _ _ _ _ _ _ g2 hc
  .rename_i x hx;obtain⟨S1,g1,g2⟩:=zc0 hr c T T' S ex hS hc;rw[g1];cases ex with
   | normal=>exact absurd hc (hx T')
   | _=>exact⟨S1,rfl,g2⟩
 | .scope c,T,T',S,ex,hS,hc=>zc0 hr c T T' S ex hS hc
 | .zen x ps asg body,T,T',S,ex,hS,hc=>by
  simp only[zeK,zxA,ziX hS,zwL hS.2.2.2,zcB,zw1 hS]at hc;simp only[exec];split at hc
  .rename_i gf first cap hx
   rw[hx];cases hok:zvp rd S.heap with
   | false=>rw[hok,qdA]at hc; cases hc
   | true=>
    rw[hok,qdz]at hc;simp only[qba,qdA];obtain⟨H1,g1,g2⟩:=zry hS hc;obtain⟨H2,g3,g4⟩:=zix g1 g2;cases hcall:rY.call B gf (first ++ [.yld (zb6 rd S).length]++ cap) H2 with
    | none=>rw[hcall]at g4; cases g4
    | some res=>
     obtain⟨cr,H3⟩:=res;rw[hcall]at g4;obtain⟨h3,k1,k2⟩:=hr.call _ _ _ _ _ _ _ g3 hcall;rw[k1];cases cr with
     | ret v=>
      simp only[zyP]at g4;simp only[];rw[k2.2]at g4;split at g4
      .rename_i hh;rw[hh];obtain⟨H4,m1,m2⟩:=zfb k2 g4;simp only[qad,qah]at m2;obtain⟨rfl,rfl⟩:=m2;exact⟨_,rfl,hS.1,hS.2.1,rfl,m1⟩
      .rename_i hh;rw[hh];obtain⟨H4,m1,m2⟩:=zfb k2 g4;simp only[qad,qah]at m2;obtain⟨rfl,rfl⟩:=m2;exact⟨_,rfl,hS.1,hS.2.1,rfl,m1⟩
      .cases g4
     | pan v=>
      simp only[zyP,qad,qah]at g4;obtain⟨rfl,rfl⟩:=g4;exact⟨_,rfl,hS.1,hS.2.1,rfl,k2⟩
  .cases hc
 | .bad,T,T',S,ex,hS,hc=>by cases hc
def ziU(r:RecY)(B:Nat)(pv:Option V):List Df->HY->Option (Option V×HY)
 | [],h=>some (pv,h)
 | .coll d :: ds,h=>(match h.t.get d with
  | some .dfr=>bif Nat.ble B d then zlY h d .dead λh'=>ziU r B pv ds h' else none
  | _=>none)
 | .fn f args :: ds,h=>(match r.dcall B f args pv h with
  | some (pv',h')=>ziU r B pv' ds h'
  | none=>none)
theorem zgR{rY:RecY}{r:Rec}(hr:RRY rY r){B:Nat}{pv':Option V}{H':HY}:∀(ds:List Df) (pv:Option V) (H:HY) (h:zan),zfn H h->ziU rY B pv ds H=some (pv',H')->∃ h',leave r B pv ds h=some (pv',h')/\zfn H' h'
 | [],pv,H,h,hh,hc=>by
  simp only[ziU,qad,qah]at hc;obtain⟨rfl,rfl⟩:=hc;exact⟨h,rfl,hh⟩
 | .coll d :: ds,pv,H,h,hh,hc=>by
  simp only[ziU,hh.2]at hc;simp only[leave];split at hc
  .rename_i hd;rw[hd];simp only[];cases hB:Nat.ble B d with
   | false=>rw[hB,qdA]at hc; cases hc
   | true=>
    rw[hB,qdz]at hc;simp only[qdz];obtain⟨H1,g1,g2⟩:=zfb hh hc;exact zgR hr ds pv H1 _ g1 g2
  .cases hc
 | .fn f args :: ds,pv,H,h,hh,hc=>by
  simp only[ziU]at hc;simp only[leave];split at hc
  .rename_i pv1 H1 hd;obtain⟨h1,g1,g2⟩:=hr.dcall _ _ _ _ _ _ _ _ hh hd;rw[g1];exact zgR hr ds pv1 H1 h1 g2 hc
  cases hc
def zk8(H:HY)(T:TY):RX->Option V
 | .tmp k=>zwt T k
 | .cell k n=>zpX (zwt T k) H n
def zk0{α:Type}(H:HY)(T:TY)(k:List V->Option α):List RX->Option α
 | []=>k []
 | x :: r=>match zk8 H T x with
  | some v=>fcX v λv'=>zk0 H T (λvs=>k (v' :: vs)) r
  | none=>none
theorem zrv{α:Type}(hh:zfn H h){T:TY}(hS:RY T S):∀(l:List RX) (k:List V->Option α),zk0 H T k l=(zcD h S.env l).bind k:=by
 have one:∀ x,zk8 H T x=zgn h S.env x:=by
  intro x;rw[<- zrB];cases x with
  | tmp k=>simp only[zk8,zi3,hS.2.1,zhv]
  | cell k n=>
   simp only[zk8,zi3,hS.2.1,zhv,zpX,zoD hh,zvA];rfl
 intro l;induction l with
 | nil=>intro k; rfl
 | cons x r ih=>
  intro k;simp only[zk0,zcD,one,zxw,ih];cases zgn h S.env x<;>cases zcD h S.env r<;>rfl
def zul(r:RecY)(B:Nat)(fn:Fn)(pv:Option V)(e:Bool)(T:TY):Option (CR×HY):=
 match ziU r B pv T.dfs T.hp with
 | some (none,h)=>bif !e then none else zk0 h T (λvs=>some (.ret (zgf vs),h)) fn.rs
 | some (some v,h)=>some (.pan v,h)
 | none=>none
variable{rY:RecY}{r:Rec}{B:Nat}{pv:Option V}{cr:CR}{H':HY}
theorem zkS(hr:RRY rY r){fn:Fn}{e:Bool}{T:TY}(hS:RY T S)(hc:zul rY B fn pv e T=some (cr,H')):∃ h',fin r B fn pv e S=some (cr,h')/\zfn H' h':=by
 unfold zul at hc;unfold fin;rw[hS.2.2.1]at hc;split at hc
 .rename_i H hl;obtain⟨h,g1,g2⟩:=zgR hr _ _ _ _ hS.2.2.2 hl;rw[g1];cases e with
  | false=>simp only[qbK,qdz]at hc; cases hc
  | true=>
   simp only[qba,qdA]at hc ⊢;rw[zrv g2 hS]at hc;cases hx:zcD h S.env fn.rs with
   | none=>rw[hx]at hc; cases hc
   | some vs=>
    rw[hx]at hc;simp only[qaa,qad,qah]at hc;obtain⟨rfl,rfl⟩:=hc;exact⟨h,rfl,g2⟩
 .rename_i v H hl;obtain⟨h,g1,g2⟩:=zgR hr _ _ _ _ hS.2.2.2 hl;rw[g1];simp only[qad,qah]at hc;obtain⟨rfl,rfl⟩:=hc;exact⟨h,rfl,g2⟩
 cases hc
def zFc(r:RecY)(B:Nat)(fn:Fn)(x:Option (Ex×TY)):Option (CR×HY):=
 match x with
 | some (.normal,S)=>zul r B fn none true S
 | some (.ret,S)=>zul r B fn none true S
 | some (.panic v e,S)=>zul r B fn (some v) e S
 | _=>none
def ztV(r:RecY)(fn:Fn)(B:Nat)(args:List V)(H:HY):Option (CR×HY):=
 bif Nat.ble args.length fn.N then zdo fn.N λN=>zxy args 0 .leaf λt=>zFc r B fn (zeK r B none fn.c ⟨N,t,[],H⟩)else none
variable{args:List V}
theorem zsy{N:Nat}(hN:args.length<=N){t:Tr V}(h:∀ j,t.get j=if 0<=j/\j<0+args.length then args[j - 0]? else(Tr.leaf:Tr V).get j){hp:zan}(hh:zfn H hp):
  RY ⟨N,t,[],H⟩ ⟨args ++ List.replicate (N - args.length) za0,[],hp⟩:=by
 refine⟨by simp; omega,λk=>?_,rfl,hh⟩;simp only[zwt,h,qbz,qbT];by_cases hk:k<args.length
 .rw[if_pos (by omega),qdg,if_pos hk,qac hk]
 rw[if_neg (by omega),if_neg hk];simp only[Tr.get,zf9];by_cases hk2:k<N
 .rw[if_pos (by omega)]; simp[hk2]
 rw[if_neg (by omega)]; simp[hk2]
theorem zpT(hr:RRY rY r){fn:Fn}(hh:zfn H h)(hc:ztV rY fn B args H=some (cr,H')):∃ h',body r fn B args h=some (cr,h')/\zfn H' h':=by
 unfold ztV at hc;unfold body;cases hle:Nat.ble args.length fn.N with
 | false=>rw[hle,qdA]at hc; cases hc
 | true=>
  rw[hle,qdz,zcd]at hc;simp only[qdz];obtain⟨t,g1,g2⟩:=zhR _ _ _ _ hc;have hS:=zsy (qal hle) g2 hh;cases hx:zeK rY B none fn.c ⟨fn.N,t,[],H⟩with
  | none=>rw[hx]at g1; cases g1
  | some res=>
   obtain⟨ex,T'⟩:=res;obtain⟨S',k1,k2⟩:=zc0 hr _ _ _ _ _ hS hx;rw[hx]at g1;rw[k1];cases ex with
   | normal=>exact zkS hr k2 g1
   | ret=>exact zkS hr k2 g1
   | panic v e=>exact zkS hr k2 g1
   | exit id=>cases g1
def zoK(H:HY)(x:Option (CR×HY)):Option (CR×HY):=
 match x with
 | some (.ret v,_)=>bif v.plain then some (.ret v,H)else none
 | some (.pan v,_)=>bif v.plain then some (.pan v,H)else none
 | none=>none
def zBJ(r:RecY)(fn:Fn)(B:Nat)(args:List V)(H:HY):Option (CR×HY):=bif Nat.ble B H.n then zoK H (ztV r fn H.n args H)else none
def zu4(r:RecY)(fns:Nat->Option Fn)(B:Nat)(f:Nat)(args:List V)(H:HY):Option (CR×HY):=
 match fns f with
 | some fn=>bif fn.p then zBJ r fn B args H else ztV r fn B args H
 | none=>none
theorem zuR(hr:RRY rY r){fns:Nat->Option Fn}{f:Nat}(hh:zfn H h)(hc:zu4 rY fns B f args H=some (cr,H')):∃ h',zii r fns B f args h=some (cr,h')/\zfn H' h':=by
 unfold zu4 at hc;unfold zii;split at hc
 .rename_i fn hfn;rw[hfn];cases hp:fn.p with
  | false=>
   rw[hp,qdA]at hc;simp only[hp,qdA];exact zpT hr hh hc
  | true=>
   rw[hp,qdz]at hc;simp only[hp,qdz];unfold zBJ at hc;rw[hh.1]at hc;cases hB:Nat.ble B h.length with
   | false=>rw[hB,qdA]at hc; cases hc
   | true=>
    rw[hB,qdz]at hc;simp only[qdz];cases hb:ztV rY fn h.length args H with
    | none=>rw[hb]at hc; cases hc
    | some y=>
     obtain⟨cr1,H1⟩:=y;rw[hb]at hc;obtain⟨h1,g1,_⟩:=zpT hr hh hb;rw[g1];cases cr1 with
     | ret v=>
      simp only[zoK]at hc;simp only[forget];cases hv:v.plain with
      | false=>rw[hv,qdA]at hc; cases hc
      | true=>
       rw[hv,qdz]at hc;simp only[qad,qah]at hc;obtain⟨rfl,rfl⟩:=hc;exact⟨h,rfl,hh⟩
     | pan v=>
      simp only[zoK]at hc;simp only[forget];cases hv:v.plain with
      | false=>rw[hv,qdA]at hc; cases hc
      | true=>
       rw[hv,qdz]at hc;simp only[qad,qah]at hc;obtain⟨rfl,rfl⟩:=hc;exact⟨h,rfl,hh⟩
 cases hc
def zva(d:List V->Option V->zan->Option (Option V×zan))(args:List V)(pv:Option V)(H:HY):Option (Option V×HY):=
 match d args pv (zsE H)with
 | some (pv',h')=>zxy h' 0 .leaf λt=>zdo h'.length λn=>some (pv',⟨n,t⟩)
 | none=>none
theorem zjf{l:zan}{t:Tr Ob}(h:∀ j,t.get j=if 0<=j/\j<0+l.length then l[j - 0]? else(Tr.leaf:Tr Ob).get j):zfn ⟨l.length,t⟩ l:=by
 refine⟨rfl,λk=>?_⟩;simp only[h];by_cases hk:k<l.length
 .rw[if_pos (by omega),qdg]
 rw[if_neg (by omega),qaI (by omega)]; rfl
theorem zuY{d:List V->Option V->zan->Option (Option V×zan)}{pv':Option V}(hh:zfn H h)(hc:zva d args pv H=some (pv',H')):∃ h',d args pv h=some (pv',h')/\zfn H' h':=by
 unfold zva at hc;rw[zuv hh]at hc;split at hc
 .rename_i pv1 h1 hd;obtain⟨t,g1,g2⟩:=zhR _ _ _ _ hc;simp only[zcd,qad,qah]at g1;obtain⟨rfl,rfl⟩:=g1;exact⟨h1,hd,zjf g2⟩
 cases hc
def RecY.none:RecY:=⟨λ_ _ _ _=>.none,λ_ _ _ _=>.none,λ_ _ _ _ _=>.none⟩
def zo9:Option (CR×HY)->Bool
 | some (.ret (.lit (.bool b)),_)=>b
 | _=>false
def HY.empty:HY:=⟨0,.leaf⟩
end Go.Mx
