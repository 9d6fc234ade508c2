/-
 The machine with tries: code, calls, runs. Conditions: none.
-/
import Derived.Test.YtbjogdohfhdaiaaGreatETMx21
set_option linter.unusedSimpArgs false
set_option linter.unusedVariables false
namespace Go.Mx
open Go
def zDs(x:Option (Ex×TY))(k:KY):Option (Ex×TY):=
 match x with
 | some (.normal,T')=>k T'
 | x=>x
def zCt(b:Option Bool)(x y:KY)(T:TY):Option (Ex×TY):=
 match b with
 | some true=>x T
 | some false=>y T
 | none=>none
def zy3(id:Nat)(x:Option (Ex×TY)):Option (Ex×TY):=
 match x with
 | some (.exit id',T')=>bif Nat.beq id' id then some (.normal,T')else some (.exit id',T')
 | x=>x
def zAg(rd:Option Nat)(H:HY):Bool:=
 match rd with
 | none=>true
 | some l=>match H.t.get l with
  | some (.loop ..)=>true
  | _=>false
variable{H:HY}{h:zaj}
theorem zwE(hh:zfG H h)(rd:Option Nat):zAg rd H=zsr rd h:=by
 cases rd with
 | none=>rfl
 | some l=>simp only[zAg,zsr,hh.2]; rfl
def zvC{α:Type}(rd:Option Nat)(T:TY)(k:List Df->HY->Option α):Option α:=
 match rd with
 | none=>zo1 T.hp .dfr λn H=>k (.coll n :: T.dfs) H
 | some _=>k T.dfs T.hp
variable{S:St}
theorem zsi{α:Type}{T:TY}(hS:RY T S){rd:Option Nat}{k:List Df->HY->Option α}{x:α}(hc:zvC rd T k=some x):∃ H,zfG H (zb7 rd S)/\k (zf2 rd S) H=some x:=by
 cases rd with
 | none=>
  obtain⟨H,g1,g2⟩:=ziZ hS.2.2.2 hc;exact⟨H,g1,by rw[hS.2.2.1]at g2; exact g2⟩
 | some l=>exact⟨T.hp,hS.2.2.2,by rw[<- show T.dfs=zf2 (some l) S from hS.2.2.1]; exact hc⟩
def zAz(T:TY)(ds:List Df)(n:Nat)(x:Option (CR×HY)):Option (Ex×TY):=
 match x with
 | some (.ret _,h)=>(match h.t.get n with
  | some (.loop true none _ _ _ _)=>zmI h n .dead λh'=>some (.normal,⟨T.N,T.env,ds,h'⟩)
  | some (.loop false (some j) _ _ _ _)=>zmI h n .dead λh'=>some (ztK j,⟨T.N,T.env,ds,h'⟩)
  | _=>none)
 | some (.pan v,h)=>some (.panic v true,⟨T.N,T.env,ds,h⟩)
 | none=>none
def zyJ(r:RecY)(B:Nat)(rd:Option Nat)(v:Option V)(ps:List Nat)(asg body:C)(T:TY):Option (Ex×TY):=
 match v with
 | some (.clo gf first cap)=>bif zAg rd T.hp then zvC rd T λds H=>zdB (zzv T) λenv=>zo1 H (.loop true none env ps asg body) λn H'=>
   zdB (first ++ [.yld n]++ cap) λargs=>zAz T ds n (r.call B gf args H')else none
 | _=>none
def zfa(r:RecY)(B:Nat)(rd:Option Nat):C->KY
 | .skip=>λT=>some (.normal,T)
 | .label _=>λT=>some (.normal,T)
 | .reg dr bar os=>zls r B bar rd.isNone (!dr) os
 | .seq a b=>λT=>zDs (zfa r B rd a T) (zfa r B rd b)
 | .cond x a b=>λT=>zCt (zqM (evY T x)) (zfa r B rd a) (zfa r B rd b) T
 | .block id c=>λT=>zy3 id (zfa r B rd c T)
 | .loop c=>λT=>zDs (zfa r B rd c T) (r.code B rd (.loop c))
 | .scope c=>zfa r B rd c
 | .exit id=>λT=>some (.exit id,T)
 | .ret=>λT=>some (.ret,T)
 | .zed x ps asg body=>λT=>zyJ r B rd (evY T x) ps asg body T
 | .bad=>λ_=>none
theorem zuW{T:TY}(h:RY T S)(x:X):zqM (evY T x)=evB S.env x:=by simp only[zqM,evB,zj6 h]; rfl
theorem zdc{rY:RecY}{r:Rec}(hr:RRY rY r){B:Nat}{rd:Option Nat}:∀(c:C) (T T':TY) (S:St) (ex:Ex),RY T S->zfa rY B rd c T=some (ex,T')->∃ S',exec r B rd c S=some (ex,S')/\RY T' S'
 | .skip,T,T',S,ex,hS,hc=>by simp only[zfa,qad,qah]at hc; obtain⟨rfl,rfl⟩:=hc; exact⟨S,rfl,hS⟩
 | .label _,T,T',S,ex,hS,hc=>by simp only[zfa,qad,qah]at hc; obtain⟨rfl,rfl⟩:=hc; exact⟨S,rfl,hS⟩
 | .exit _,T,T',S,ex,hS,hc=>by simp only[zfa,qad,qah]at hc; obtain⟨rfl,rfl⟩:=hc; exact⟨S,rfl,hS⟩
 | .ret,T,T',S,ex,hS,hc=>by simp only[zfa,qad,qah]at hc; obtain⟨rfl,rfl⟩:=hc; exact⟨S,rfl,hS⟩
 | .reg dr bar os,T,T',S,ex,hS,hc=>zk5 hr os T S hS hc
 | .seq a b,T,T',S,ex,hS,hc=>by
  simp only[zfa,zDs]at hc;simp only[exec];split at hc
  .rename_i T1 hx;obtain⟨S1,g1,g2⟩:=zdc hr a T T1 S _ hS hx;rw[g1];exact zdc hr b T1 T' S1 ex g2 hc
  .rename_i x hx;obtain⟨S1,g1,g2⟩:=zdc hr a T T' S ex hS hc;rw[g1];cases ex with
   | normal=>exact absurd hc (hx T')
   | _=>exact⟨S1,rfl,g2⟩
 | .cond x a b,T,T',S,ex,hS,hc=>by
  simp only[zfa,zCt,zuW hS]at hc;simp only[exec];split at hc
  .rename_i hb;rw[hb];exact zdc hr a T T' S ex hS hc
  .rename_i hb;rw[hb];exact zdc hr b T T' S ex hS hc
  .cases hc
 | .block id c,T,T',S,ex,hS,hc=>by
  simp only[zfa,zy3]at hc;simp only[exec];split at hc
  .rename_i id' T1 hx;obtain⟨S1,g1,g2⟩:=zdc hr c T T1 S _ hS hx;rw[g1];simp only[zpL]at hc ⊢;cases hid:(id' == id)<;> simp only[hid,qdw,qdx,qad,qah]at hc ⊢<;>(obtain⟨rfl,rfl⟩:=hc; exact⟨S1,⟨rfl,rfl⟩,g2⟩)
  .rename_i x hx;obtain⟨S1,g1,g2⟩:=zdc hr c T T' S ex hS hc;rw[g1];cases ex with
   | exit id'=>exact absurd hc (hx id' T')
   | _=>exact⟨S1,rfl,g2⟩
 | .loop c,T,T',S,ex,hS,hc=>by
  simp only[zfa,zDs]at hc;simp only[exec];split at hc
  .rename_i T1 hx;obtain⟨S1,g1,g2⟩:=zdc hr c T T1 S _ hS hx;rw[g1];exact hr.code _ _ _ _ _ _ _ g2 hc
  .rename_i x hx;obtain⟨S1,g1,g2⟩:=zdc hr c T T' S ex hS hc;rw[g1];cases ex with
   | normal=>exact absurd hc (hx T')
   | _=>exact⟨S1,rfl,g2⟩
 | .scope c,T,T',S,ex,hS,hc=>zdc hr c T T' S ex hS hc
 | .zed x ps asg body,T,T',S,ex,hS,hc=>by
  simp only[zfa,zyJ,zj6 hS,zwE hS.2.2.2,zcD,zwA hS]at hc;simp only[exec];split at hc
  .rename_i gf first cap hx
   rw[hx];cases hok:zsr rd S.heap with
   | false=>rw[hok,qdx]at hc; cases hc
   | true=>
    rw[hok,qdw]at hc;simp only[qbf,qdx];obtain⟨H1,g1,g2⟩:=zsi hS hc;obtain⟨H2,g3,g4⟩:=ziZ g1 g2;cases hcall:rY.call B gf (first ++ [.yld (zb7 rd S).length]++ cap) H2 with
    | none=>rw[hcall]at g4; cases g4
    | some res=>
     obtain⟨cr,H3⟩:=res;rw[hcall]at g4;obtain⟨h3,k1,k2⟩:=hr.call _ _ _ _ _ _ _ g3 hcall;rw[k1];cases cr with
     | ret v=>
      simp only[zAz]at g4;simp only[];rw[k2.2]at g4;split at g4
      .rename_i hh;rw[hh];obtain⟨H4,m1,m2⟩:=zfp k2 g4;simp only[qad,qah]at m2;obtain⟨rfl,rfl⟩:=m2;exact⟨_,rfl,hS.1,hS.2.1,rfl,m1⟩
      .rename_i hh;rw[hh];obtain⟨H4,m1,m2⟩:=zfp k2 g4;simp only[qad,qah]at m2;obtain⟨rfl,rfl⟩:=m2;exact⟨_,rfl,hS.1,hS.2.1,rfl,m1⟩
      .cases g4
     | pan v=>
      simp only[zAz,qad,qah]at g4;obtain⟨rfl,rfl⟩:=g4;exact⟨_,rfl,hS.1,hS.2.1,rfl,k2⟩
  .cases hc
 | .bad,T,T',S,ex,hS,hc=>by cases hc
def zjm(r:RecY)(B:Nat)(pv:Option V):List Df->HY->Option (Option V×HY)
 | [],h=>some (pv,h)
 | .coll d :: ds,h=>(match h.t.get d with
  | some .dfr=>bif Nat.ble B d then zmI h d .dead λh'=>zjm r B pv ds h' else none
  | _=>none)
 | .fn f args :: ds,h=>(match r.dcall B f args pv h with
  | some (pv',h')=>zjm r B pv' ds h'
  | none=>none)
theorem zhd{rY:RecY}{r:Rec}(hr:RRY rY r){B:Nat}{pv':Option V}{H':HY}:∀(ds:List Df) (pv:Option V) (H:HY) (h:zaj),zfG H h->zjm rY B pv ds H=some (pv',H')->∃ h',leave r B pv ds h=some (pv',h')/\zfG H' h'
 | [],pv,H,h,hh,hc=>by
  simp only[zjm,qad,qah]at hc;obtain⟨rfl,rfl⟩:=hc;exact⟨h,rfl,hh⟩
 | .coll d :: ds,pv,H,h,hh,hc=>by
  simp only[zjm,hh.2]at hc;simp only[leave];split at hc
  .rename_i hd;rw[hd];simp only[];cases hB:Nat.ble B d with
   | false=>rw[hB,qdx]at hc; cases hc
   | true=>
    rw[hB,qdw]at hc;simp only[qdw];obtain⟨H1,g1,g2⟩:=zfp hh hc;exact zhd hr ds pv H1 _ g1 g2
  .cases hc
 | .fn f args :: ds,pv,H,h,hh,hc=>by
  simp only[zjm]at hc;simp only[leave];split at hc
  .rename_i pv1 H1 hd;obtain⟨h1,g1,g2⟩:=hr.dcall _ _ _ _ _ _ _ _ hh hd;rw[g1];exact zhd hr ds pv1 H1 h1 g2 hc
  cases hc
def zmJ(H:HY)(T:TY):RX->Option V
 | .tmp k=>zwO T k
 | .cell k n=>zqT (zwO T k) H n
def zlA{α:Type}(H:HY)(T:TY)(k:List V->Option α):List RX->Option α
 | []=>k []
 | x :: r=>match zmJ H T x with
  | some v=>fcX v λv'=>zlA H T (λvs=>k (v' :: vs)) r
  | none=>none
theorem zrW{α:Type}(hh:zfG H h){T:TY}(hS:RY T S):∀(l:List RX) (k:List V->Option α),zlA H T k l=(zcB h S.env l).bind k:=by
 have one:∀ x,zmJ H T x=zgS h S.env x:=by
  intro x;rw[<- zrT];cases x with
  | tmp k=>simp only[zmJ,zjs,hS.2.1,zhL]
  | cell k n=>
   simp only[zmJ,zjs,hS.2.1,zhL,zqT,zoU hh,zve];rfl
 intro l;induction l with
 | nil=>intro k; rfl
 | cons x r ih=>
  intro k;simp only[zlA,zcB,one,zyR,ih];cases zgS h S.env x<;>cases zcB h S.env r<;>rfl
def ztj(r:RecY)(B:Nat)(fn:Fn)(pv:Option V)(e:Bool)(T:TY):Option (CR×HY):=
 match zjm r B pv T.dfs T.hp with
 | some (none,h)=>bif !e then none else zlA h T (λvs=>some (.ret (zgG vs),h)) fn.rs
 | some (some v,h)=>some (.pan v,h)
 | none=>none
variable{rY:RecY}{r:Rec}{B:Nat}{pv:Option V}{cr:CR}{H':HY}
theorem zlU(hr:RRY rY r){fn:Fn}{e:Bool}{T:TY}(hS:RY T S)(hc:ztj rY B fn pv e T=some (cr,H')):∃ h',fin r B fn pv e S=some (cr,h')/\zfG H' h':=by
 unfold ztj at hc;unfold fin;rw[hS.2.2.1]at hc;split at hc
 .rename_i H hl;obtain⟨h,g1,g2⟩:=zhd hr _ _ _ _ hS.2.2.2 hl;rw[g1];cases e with
  | false=>simp only[qbE,qdw]at hc; cases hc
  | true=>
   simp only[qbf,qdx]at hc ⊢;rw[zrW g2 hS]at hc;cases hx:zcB h S.env fn.rs with
   | none=>rw[hx]at hc; cases hc
   | some vs=>
    rw[hx]at hc;simp only[qaa,qad,qah]at hc;obtain⟨rfl,rfl⟩:=hc;exact⟨h,rfl,g2⟩
 .rename_i v H hl;obtain⟨h,g1,g2⟩:=zhd hr _ _ _ _ hS.2.2.2 hl;rw[g1];simp only[qad,qah]at hc;obtain⟨rfl,rfl⟩:=hc;exact⟨h,rfl,g2⟩
 cases hc
def zFg(r:RecY)(B:Nat)(fn:Fn)(x:Option (Ex×TY)):Option (CR×HY):=
 match x with
 | some (.normal,S)=>ztj r B fn none true S
 | some (.ret,S)=>ztj r B fn none true S
 | some (.panic v e,S)=>ztj r B fn (some v) e S
 | _=>none
def zvD(r:RecY)(fn:Fn)(B:Nat)(args:List V)(H:HY):Option (CR×HY):=
 bif Nat.ble args.length fn.N then zdD fn.N λN=>zyf args 0 .leaf λt=>zFg r B fn (zfa r B none fn.c ⟨N,t,[],H⟩)else none
variable{args:List V}
theorem ztJ{N:Nat}(hN:args.length<=N){t:Tr V}(h:∀ j,t.get j=if 0<=j/\j<0+args.length then args[j - 0]? else(Tr.leaf:Tr V).get j){hp:zaj}(hh:zfG H hp):
  RY ⟨N,t,[],H⟩ ⟨args ++ List.replicate (N - args.length) za3,[],hp⟩:=by
 refine⟨by simp; omega,λk=>?_,rfl,hh⟩;simp only[zwO,h,qbt,qcB];by_cases hk:k<args.length
 .rw[if_pos (by omega),qco,if_pos hk,qac hk]
 rw[if_neg (by omega),if_neg hk];simp only[Tr.get,zgw];by_cases hk2:k<N
 .rw[if_pos (by omega)]; simp[hk2]
 rw[if_neg (by omega)]; simp[hk2]
theorem zqZ(hr:RRY rY r){fn:Fn}(hh:zfG H h)(hc:zvD rY fn B args H=some (cr,H')):∃ h',body r fn B args h=some (cr,h')/\zfG H' h':=by
 unfold zvD at hc;unfold body;cases hle:Nat.ble args.length fn.N with
 | false=>rw[hle,qdx]at hc; cases hc
 | true=>
  rw[hle,qdw,zcj]at hc;simp only[qdw];obtain⟨t,g1,g2⟩:=zh6 _ _ _ _ hc;have hS:=ztJ (qae hle) g2 hh;cases hx:zfa rY B none fn.c ⟨fn.N,t,[],H⟩with
  | none=>rw[hx]at g1; cases g1
  | some res=>
   obtain⟨ex,T'⟩:=res;obtain⟨S',k1,k2⟩:=zdc hr _ _ _ _ _ hS hx;rw[hx]at g1;rw[k1];cases ex with
   | normal=>exact zlU hr k2 g1
   | ret=>exact zlU hr k2 g1
   | panic v e=>exact zlU hr k2 g1
   | exit id=>cases g1
def zpX(H:HY)(x:Option (CR×HY)):Option (CR×HY):=
 match x with
 | some (.ret v,_)=>bif v.plain then some (.ret v,H)else none
 | some (.pan v,_)=>bif v.plain then some (.pan v,H)else none
 | none=>none
def zDe(r:RecY)(fn:Fn)(B:Nat)(args:List V)(H:HY):Option (CR×HY):=bif Nat.ble B H.n then zpX H (zvD r fn H.n args H)else none
def ztv(r:RecY)(fns:Nat->Option Fn)(B:Nat)(f:Nat)(args:List V)(H:HY):Option (CR×HY):=
 match fns f with
 | some fn=>bif fn.p then zDe r fn B args H else zvD r fn B args H
 | none=>none
theorem zuc(hr:RRY rY r){fns:Nat->Option Fn}{f:Nat}(hh:zfG H h)(hc:ztv rY fns B f args H=some (cr,H')):∃ h',zir r fns B f args h=some (cr,h')/\zfG H' h':=by
 unfold ztv at hc;unfold zir;split at hc
 .rename_i fn hfn;rw[hfn];cases hp:fn.p with
  | false=>
   rw[hp,qdx]at hc;simp only[hp,qdx];exact zqZ hr hh hc
  | true=>
   rw[hp,qdw]at hc;simp only[hp,qdw];unfold zDe at hc;rw[hh.1]at hc;cases hB:Nat.ble B h.length with
   | false=>rw[hB,qdx]at hc; cases hc
   | true=>
    rw[hB,qdw]at hc;simp only[qdw];cases hb:zvD rY fn h.length args H with
    | none=>rw[hb]at hc; cases hc
    | some y=>
     obtain⟨cr1,H1⟩:=y;rw[hb]at hc;obtain⟨h1,g1,_⟩:=zqZ hr hh hb;rw[g1];cases cr1 with
     | ret v=>
      simp only[zpX]at hc;simp only[forget];cases hv:v.plain with
      | false=>rw[hv,qdx]at hc; cases hc
      | true=>
       rw[hv,qdw]at hc;simp only[qad,qah]at hc;obtain⟨rfl,rfl⟩:=hc;exact⟨h,rfl,hh⟩
     | pan v=>
      simp only[zpX]at hc;simp only[forget];cases hv:v.plain with
      | false=>rw[hv,qdx]at hc; cases hc
      | true=>
       rw[hv,qdw]at hc;simp only[qad,qah]at hc;obtain⟨rfl,rfl⟩:=hc;exact⟨h,rfl,hh⟩
 cases hc
def zvj(d:List V->Option V->zaj->Option (Option V×zaj))(args:List V)(pv:Option V)(H:HY):Option (Option V×HY):=
 match d args pv (zt1 H)with
 | some (pv',h')=>zyf h' 0 .leaf λt=>zdD h'.length λn=>some (pv',⟨n,t⟩)
 | none=>none
theorem zkh{l:zaj}{t:Tr Ob}(h:∀ j,t.get j=if 0<=j/\j<0+l.length then l[j - 0]? else(Tr.leaf:Tr Ob).get j):zfG ⟨l.length,t⟩ l:=by
 refine⟨rfl,λk=>?_⟩;simp only[h];by_cases hk:k<l.length
 .rw[if_pos (by omega),qco]
 rw[if_neg (by omega),qaW (by omega)]; rfl
theorem zur{d:List V->Option V->zaj->Option (Option V×zaj)}{pv':Option V}(hh:zfG H h)(hc:zvj d args pv H=some (pv',H')):∃ h',d args pv h=some (pv',h')/\zfG H' h':=by
 unfold zvj at hc;rw[zun hh]at hc;split at hc
 .rename_i pv1 h1 hd;obtain⟨t,g1,g2⟩:=zh6 _ _ _ _ hc;simp only[zcj,qad,qah]at g1;obtain⟨rfl,rfl⟩:=g1;exact⟨h1,hd,zkh g2⟩
 cases hc
def RecY.none:RecY:=⟨λ_ _ _ _=>.none,λ_ _ _ _=>.none,λ_ _ _ _ _=>.none⟩
def zpT:Option (CR×HY)->Bool
 | some (.ret (.lit (.bool b)),_)=>b
 | _=>false
def HY.empty:HY:=⟨0,.leaf⟩
end Go.Mx
