/-
 The machine with tries: code, calls, runs. Conditions: none.
-/
import Derived.Test.YtbjogdohfhdaiaaCaMx21
set_option linter.unusedSimpArgs false
set_option linter.unusedVariables false
namespace Go.Mx
open Go
def zwv(x:Option (Ex×TY))(k:KY):Option (Ex×TY):=
 match x with
 | some (.normal,T')=>k T'
 | x=>x
def zvG(b:Option Bool)(x y:KY)(T:TY):Option (Ex×TY):=
 match b with
 | some true=>x T
 | some false=>y T
 | none=>none
def zsW(id:Nat)(x:Option (Ex×TY)):Option (Ex×TY):=
 match x with
 | some (.exit id',T')=>bif Nat.beq id' id then some (.normal,T')else some (.exit id',T')
 | x=>x
def zta(rd:Option Nat)(H:HY):Bool:=
 match rd with
 | none=>true
 | some l=>match H.t.get l with
  | some (.loop ..)=>true
  | _=>false
variable{H:HY}{h:zaf}
theorem zrr(hh:zdu H h)(rd:Option Nat):zta rd H=zoy rd h:=by
 cases rd with
 | none=>rfl
 | some l=>simp only[zta,zoy,hh.2]; rfl
def zqi{α:Type}(rd:Option Nat)(T:TY)(k:List Df->HY->Option α):Option α:=
 match rd with
 | none=>zie T.hp .dfr λn H=>k (.coll n :: T.dfs) H
 | some _=>k T.dfs T.hp
variable{T:TY}{S:St}
theorem zm8{α:Type}(hS:RY T S){rd:Option Nat}{k:List Df->HY->Option α}{x:α}(hc:zqi rd T k=some x):∃ H,zdu H (zbm rd S)/\k (zfx rd S) H=some x:=by
 cases rd with
 | none=>
  obtain⟨H,g1,g2⟩:=zeU hS.2.2.2 hc;exact⟨H,g1,by rw[hS.2.2.1]at g2; exact g2⟩
 | some l=>exact⟨T.hp,hS.2.2.2,by rw[<- show T.dfs=zfx (some l) S from hS.2.2.1]; exact hc⟩
def zt8(T:TY)(ds:List Df)(n:Nat)(x:Option (CR×HY)):Option (Ex×TY):=
 match x with
 | some (.ret _,h)=>(match h.t.get n with
  | some (.loop true none _ _ _ _)=>ziz h n .dead λh'=>some (.normal,⟨T.N,T.env,ds,h'⟩)
  | some (.loop false (some j) _ _ _ _)=>ziz h n .dead λh'=>some (zqs j,⟨T.N,T.env,ds,h'⟩)
  | _=>none)
 | some (.pan v,h)=>some (.panic v true,⟨T.N,T.env,ds,h⟩)
 | none=>none
def zs7(r:RecY)(B:Nat)(rd:Option Nat)(v:Option V)(ps:List Nat)(asg body:C)(T:TY):Option (Ex×TY):=
 match v with
 | some (.clo gf first cap)=>bif zta rd T.hp then zqi rd T λds H=>zcc (zti T) λenv=>zie H (.loop true none env ps asg body) λn H'=>
   zcc (first ++ [.yld n]++ cap) λargs=>zt8 T ds n (r.call B gf args H')else none
 | _=>none
def zdj(r:RecY)(B:Nat)(rd:Option Nat):C->KY
 | .skip=>λT=>some (.normal,T)
 | .label _=>λT=>some (.normal,T)
 | .reg dr bar os=>zib r B bar rd.isNone (!dr) os
 | .seq a b=>λT=>zwv (zdj r B rd a T) (zdj r B rd b)
 | .cond x a b=>λT=>zvG (zlO (evY T x)) (zdj r B rd a) (zdj r B rd b) T
 | .block id c=>λT=>zsW id (zdj r B rd c T)
 | .loop c=>λT=>zwv (zdj r B rd c T) (r.code B rd (.loop c))
 | .scope c=>zdj r B rd c
 | .exit id=>λT=>some (.exit id,T)
 | .ret=>λT=>some (.ret,T)
 | .zdy x ps asg body=>λT=>zs7 r B rd (evY T x) ps asg body T
 | .bad=>λ_=>none
theorem zp2(h:RY T S)(x:X):zlO (evY T x)=evB S.env x:=by simp only[zlO,evB,zgS h]; rfl
theorem zbZ{rY:RecY}{r:Rec}(hr:RRY rY r){B:Nat}{rd:Option Nat}:∀(c:C) (T T':TY) (S:St) (ex:Ex),RY T S->zdj rY B rd c T=some (ex,T')->∃ S',exec r B rd c S=some (ex,S')/\RY T' S'
 | .skip,T,T',S,ex,hS,hc=>by simp only[zdj,qac,qag]at hc; obtain⟨rfl,rfl⟩:=hc; exact⟨S,rfl,hS⟩
 | .label _,T,T',S,ex,hS,hc=>by simp only[zdj,qac,qag]at hc; obtain⟨rfl,rfl⟩:=hc; exact⟨S,rfl,hS⟩
 | .exit _,T,T',S,ex,hS,hc=>by simp only[zdj,qac,qag]at hc; obtain⟨rfl,rfl⟩:=hc; exact⟨S,rfl,hS⟩
 | .ret,T,T',S,ex,hS,hc=>by simp only[zdj,qac,qag]at hc; obtain⟨rfl,rfl⟩:=hc; exact⟨S,rfl,hS⟩
 | .reg dr bar os,T,T',S,ex,hS,hc=>zhO hr os T S hS hc
 | .seq a b,T,T',S,ex,hS,hc=>by
  simp only[zdj,zwv]at hc;simp only[exec];split at hc
  .rename_i T1 hx;obtain⟨S1,g1,g2⟩:=zbZ hr a T T1 S _ hS hx;rw[g1];exact zbZ hr b T1 T' S1 ex g2 hc
  .rename_i x hx;obtain⟨S1,g1,g2⟩:=zbZ hr a T T' S ex hS hc;rw[g1];cases ex with
   | normal=>exact absurd hc (hx T')
   | _=>exact⟨S1,rfl,g2⟩
 | .cond x a b,T,T',S,ex,hS,hc=>by
  simp only[zdj,zvG,zp2 hS]at hc;simp only[exec];split at hc
  .rename_i hb;rw[hb];exact zbZ hr a T T' S ex hS hc
  .rename_i hb;rw[hb];exact zbZ hr b T T' S ex hS hc
  .cases hc
 | .block id c,T,T',S,ex,hS,hc=>by
  simp only[zdj,zsW]at hc;simp only[exec];split at hc
  .rename_i id' T1 hx;obtain⟨S1,g1,g2⟩:=zbZ hr c T T1 S _ hS hx;rw[g1];simp only[zlf]at hc ⊢;cases hid:(id' == id)<;> simp only[hid,qcR,qcS,qac,qag]at hc ⊢<;>(obtain⟨rfl,rfl⟩:=hc; exact⟨S1,⟨rfl,rfl⟩,g2⟩)
  .rename_i x hx;obtain⟨S1,g1,g2⟩:=zbZ hr c T T' S ex hS hc;rw[g1];cases ex with
   | exit id'=>exact absurd hc (hx id' T')
   | _=>exact⟨S1,rfl,g2⟩
 | .loop c,T,T',S,ex,hS,hc=>by
  simp only[zdj,zwv]at hc;simp only[exec];split at hc
  .rename_i T1 hx;obtain⟨S1,g1,g2⟩:=zbZ hr c T T1 S _ hS hx;rw[g1];exact hr.code _ _ _ _ _ _ _ g2 hc
  .rename_i x hx;obtain⟨S1,g1,g2⟩:=zbZ hr c T T' S ex hS hc;rw[g1];cases ex with
   | normal=>exact absurd hc (hx T')
   | _=>exact⟨S1,rfl,g2⟩
 | .scope c,T,T',S,ex,hS,hc=>zbZ hr c T T' S ex hS hc
 | .zdy x ps asg body,T,T',S,ex,hS,hc=>by
  simp only[zdj,zs7,zgS hS,zrr hS.2.2.2,zbJ,zrj hS]at hc;simp only[exec];split at hc
  .rename_i gf first cap hx
   rw[hx];cases hok:zoy rd S.heap with
   | false=>rw[hok,qcS]at hc; cases hc
   | true=>
    rw[hok,qcR]at hc;simp only[qa0,qcS];obtain⟨H1,g1,g2⟩:=zm8 hS hc;obtain⟨H2,g3,g4⟩:=zeU g1 g2;cases hcall:rY.call B gf (first ++ [.yld (zbm rd S).length]++ cap) H2 with
    | none=>rw[hcall]at g4; cases g4
    | some res=>
     obtain⟨cr,H3⟩:=res;rw[hcall]at g4;obtain⟨h3,k1,k2⟩:=hr.call _ _ _ _ _ _ _ g3 hcall;rw[k1];cases cr with
     | ret v=>
      simp only[zt8]at g4;simp only[];rw[k2.2]at g4;split at g4
      .rename_i hh;rw[hh];obtain⟨H4,m1,m2⟩:=zdr k2 g4;simp only[qac,qag]at m2;obtain⟨rfl,rfl⟩:=m2;exact⟨_,rfl,hS.1,hS.2.1,rfl,m1⟩
      .rename_i hh;rw[hh];obtain⟨H4,m1,m2⟩:=zdr k2 g4;simp only[qac,qag]at m2;obtain⟨rfl,rfl⟩:=m2;exact⟨_,rfl,hS.1,hS.2.1,rfl,m1⟩
      .cases g4
     | pan v=>
      simp only[zt8,qac,qag]at g4;obtain⟨rfl,rfl⟩:=g4;exact⟨_,rfl,hS.1,hS.2.1,rfl,k2⟩
  .cases hc
 | .bad,T,T',S,ex,hS,hc=>by cases hc
def zgo(r:RecY)(B:Nat)(pv:Option V):List Df->HY->Option (Option V×HY)
 | [],h=>some (pv,h)
 | .coll d :: ds,h=>(match h.t.get d with
  | some .dfr=>bif Nat.ble B d then ziz h d .dead λh'=>zgo r B pv ds h' else none
  | _=>none)
 | .fn f args :: ds,h=>(match r.dcall B f args pv h with
  | some (pv',h')=>zgo r B pv' ds h'
  | none=>none)
theorem zeW{rY:RecY}{r:Rec}(hr:RRY rY r){B:Nat}{pv':Option V}{H':HY}:∀(ds:List Df) (pv:Option V) (H:HY) (h:zaf),zdu H h->zgo rY B pv ds H=some (pv',H')->∃ h',leave r B pv ds h=some (pv',h')/\zdu H' h'
 | [],pv,H,h,hh,hc=>by
  simp only[zgo,qac,qag]at hc;obtain⟨rfl,rfl⟩:=hc;exact⟨h,rfl,hh⟩
 | .coll d :: ds,pv,H,h,hh,hc=>by
  simp only[zgo,hh.2]at hc;simp only[leave];split at hc
  .rename_i hd;rw[hd];simp only[];cases hB:Nat.ble B d with
   | false=>rw[hB,qcS]at hc; cases hc
   | true=>
    rw[hB,qcR]at hc;simp only[qcR];obtain⟨H1,g1,g2⟩:=zdr hh hc;exact zeW hr ds pv H1 _ g1 g2
  .cases hc
 | .fn f args :: ds,pv,H,h,hh,hc=>by
  simp only[zgo]at hc;simp only[leave];split at hc
  .rename_i pv1 H1 hd;obtain⟨h1,g1,g2⟩:=hr.dcall _ _ _ _ _ _ _ _ hh hd;rw[g1];exact zeW hr ds pv1 H1 h1 g2 hc
  cases hc
def zjc(H:HY)(T:TY):RX->Option V
 | .tmp k=>zro T k
 | .cell k n=>zma (zro T k) H n
def zjd{α:Type}(H:HY)(T:TY)(k:List V->Option α):List RX->Option α
 | []=>k []
 | x :: r=>match zjc H T x with
  | some v=>fcX v λv'=>zjd H T (λvs=>k (v' :: vs)) r
  | none=>none
theorem zm3{α:Type}(hh:zdu H h)(hS:RY T S):∀(l:List RX) (k:List V->Option α),zjd H T k l=(zbj h S.env l).bind k:=by
 have one:∀ x,zjc H T x=zdD h S.env x:=by
  intro x;rw[<- zmX];cases x with
  | tmp k=>simp only[zjc,zgT,hS.2.1,zfu]
  | cell k n=>
   simp only[zjc,zgT,hS.2.1,zfu,zma,zkK hh,zqf];rfl
 intro l;induction l with
 | nil=>intro k; rfl
 | cons x r ih=>
  intro k;simp only[zjd,zbj,one,zsE,ih];cases zdD h S.env x<;>cases zbj h S.env r<;>rfl
def zpR(r:RecY)(B:Nat)(fn:Fn)(pv:Option V)(e:Bool)(T:TY):Option (CR×HY):=
 match zgo r B pv T.dfs T.hp with
 | some (none,h)=>bif !e then none else zjd h T (λvs=>some (.ret (zdJ vs),h)) fn.rs
 | some (some v,h)=>some (.pan v,h)
 | none=>none
variable{rY:RecY}{r:Rec}{B:Nat}{pv:Option V}{cr:CR}{H':HY}
theorem ziY(hr:RRY rY r){fn:Fn}{e:Bool}(hS:RY T S)(hc:zpR rY B fn pv e T=some (cr,H')):∃ h',fin r B fn pv e S=some (cr,h')/\zdu H' h':=by
 unfold zpR at hc;unfold fin;rw[hS.2.2.1]at hc;split at hc
 .rename_i H hl;obtain⟨h,g1,g2⟩:=zeW hr _ _ _ _ hS.2.2.2 hl;rw[g1];cases e with
  | false=>simp only[qbw,qcR]at hc; cases hc
  | true=>
   simp only[qa0,qcS]at hc ⊢;rw[zm3 g2 hS]at hc;cases hx:zbj h S.env fn.rs with
   | none=>rw[hx]at hc; cases hc
   | some vs=>
    rw[hx]at hc;simp only[qab,qac,qag]at hc;obtain⟨rfl,rfl⟩:=hc;exact⟨h,rfl,g2⟩
 .rename_i v H hl;obtain⟨h,g1,g2⟩:=zeW hr _ _ _ _ hS.2.2.2 hl;rw[g1];simp only[qac,qag]at hc;obtain⟨rfl,rfl⟩:=hc;exact⟨h,rfl,g2⟩
 cases hc
def zyJ(r:RecY)(B:Nat)(fn:Fn)(x:Option (Ex×TY)):Option (CR×HY):=
 match x with
 | some (.normal,S)=>zpR r B fn none true S
 | some (.ret,S)=>zpR r B fn none true S
 | some (.panic v e,S)=>zpR r B fn (some v) e S
 | _=>none
def zoe(r:RecY)(fn:Fn)(B:Nat)(args:List V)(H:HY):Option (CR×HY):=
 bif Nat.ble args.length fn.N then zcs fn.N λN=>zuB args 0 .leaf λt=>zyJ r B fn (zdj r B none fn.c ⟨N,t,[],H⟩)else none
theorem zom{args:List V}{N:Nat}(hN:args.length<=N){t:Tr V}(h:∀ j,t.get j=if 0<=j/\j<0+args.length then args[j - 0]? else(Tr.leaf:Tr V).get j){hp:zaf}(hh:zdu H hp):
  RY ⟨N,t,[],H⟩ ⟨args ++ List.replicate (N - args.length) zav,[],hp⟩:=by
 refine⟨by simp; omega,λk=>?_,rfl,hh⟩;simp only[zro,h,qa8,qbx];by_cases hk:k<args.length
 .rw[if_pos (by omega),qcG,if_pos hk,qad hk]
 rw[if_neg (by omega),if_neg hk];simp only[Tr.get,zem];by_cases hk2:k<N
 .rw[if_pos (by omega)]; simp[hk2]
 rw[if_neg (by omega)]; simp[hk2]
theorem zmL(hr:RRY rY r){fn:Fn}{args:List V}(hh:zdu H h)(hc:zoe rY fn B args H=some (cr,H')):∃ h',body r fn B args h=some (cr,h')/\zdu H' h':=by
 unfold zoe at hc;unfold body;cases hle:Nat.ble args.length fn.N with
 | false=>rw[hle,qcS]at hc; cases hc
 | true=>
  rw[hle,qcR,zbP]at hc;simp only[qcR];obtain⟨t,g1,g2⟩:=zi4 _ _ _ _ hc;have hS:=zom (qak hle) g2 hh;cases hx:zdj rY B none fn.c ⟨fn.N,t,[],H⟩with
  | none=>rw[hx]at g1; cases g1
  | some res=>
   obtain⟨ex,T'⟩:=res;obtain⟨S',k1,k2⟩:=zbZ hr _ _ _ _ _ hS hx;rw[hx]at g1;rw[k1];cases ex with
   | normal=>exact ziY hr k2 g1
   | ret=>exact ziY hr k2 g1
   | panic v e=>exact ziY hr k2 g1
   | exit id=>cases g1
def zlb(H:HY)(x:Option (CR×HY)):Option (CR×HY):=
 match x with
 | some (.ret v,_)=>bif v.plain then some (.ret v,H)else none
 | some (.pan v,_)=>bif v.plain then some (.pan v,H)else none
 | none=>none
def zvy(r:RecY)(fn:Fn)(B:Nat)(args:List V)(H:HY):Option (CR×HY):=bif Nat.ble B H.n then zlb H (zoe r fn H.n args H)else none
def zo0(r:RecY)(fns:Nat->Option Fn)(B:Nat)(f:Nat)(args:List V)(H:HY):Option (CR×HY):=
 match fns f with
 | some fn=>bif fn.p then zvy r fn B args H else zoe r fn B args H
 | none=>none
variable{fns:Nat->Option Fn}
theorem zn2(hr:RRY rY r){f:Nat}{args:List V}(hh:zdu H h)(hc:zo0 rY fns B f args H=some (cr,H')):∃ h',zfD r fns B f args h=some (cr,h')/\zdu H' h':=by
 unfold zo0 at hc;unfold zfD;split at hc
 .rename_i fn hfn;rw[hfn];cases hp:fn.p with
  | false=>
   rw[hp,qcS]at hc;simp only[hp,qcS];exact zmL hr hh hc
  | true=>
   rw[hp,qcR]at hc;simp only[hp,qcR];unfold zvy at hc;rw[hh.1]at hc;cases hB:Nat.ble B h.length with
   | false=>rw[hB,qcS]at hc; cases hc
   | true=>
    rw[hB,qcR]at hc;simp only[qcR];cases hb:zoe rY fn h.length args H with
    | none=>rw[hb]at hc; cases hc
    | some y=>
     obtain⟨cr1,H1⟩:=y;rw[hb]at hc;obtain⟨h1,g1,_⟩:=zmL hr hh hb;rw[g1];cases cr1 with
     | ret v=>
      simp only[zlb]at hc;simp only[forget];cases hv:v.plain with
      | false=>rw[hv,qcS]at hc; cases hc
      | true=>
       rw[hv,qcR]at hc;simp only[qac,qag]at hc;obtain⟨rfl,rfl⟩:=hc;exact⟨h,rfl,hh⟩
     | pan v=>
      simp only[zlb]at hc;simp only[forget];cases hv:v.plain with
      | false=>rw[hv,qcS]at hc; cases hc
      | true=>
       rw[hv,qcR]at hc;simp only[qac,qag]at hc;obtain⟨rfl,rfl⟩:=hc;exact⟨h,rfl,hh⟩
 cases hc
def zn3(d:List V->Option V->zaf->Option (Option V×zaf))(args:List V)(pv:Option V)(H:HY):Option (Option V×HY):=
 match d args pv (zok H)with
 | some (pv',h')=>zuB h' 0 .leaf λt=>zcs h'.length λn=>some (pv',⟨n,t⟩)
 | none=>none
theorem zpH{l:zaf}{t:Tr Ob}(h:∀ j,t.get j=if 0<=j/\j<0+l.length then l[j - 0]? else(Tr.leaf:Tr Ob).get j):zdu ⟨l.length,t⟩ l:=by
 refine⟨rfl,λk=>?_⟩;simp only[h];by_cases hk:k<l.length
 .rw[if_pos (by omega),qcG]
 rw[if_neg (by omega),qaL (by omega)]; rfl
theorem zpi{d:List V->Option V->zaf->Option (Option V×zaf)}{args:List V}{pv':Option V}(hh:zdu H h)(hc:zn3 d args pv H=some (pv',H')):∃ h',d args pv h=some (pv',h')/\zdu H' h':=by
 unfold zn3 at hc;rw[zo5 hh]at hc;split at hc
 .rename_i pv1 h1 hd;obtain⟨t,g1,g2⟩:=zi4 _ _ _ _ hc;simp only[zbP,qac,qag]at g1;obtain⟨rfl,rfl⟩:=g1;exact⟨h1,hd,zpH g2⟩
 cases hc
structure Ans where
 res:Nat->CR
 new:Option Ob
abbrev Dcd:=(Nat->Option (List V))->Nat->List V->Option Ans
def Ans.ap(h:zaf)(a:Ans):CR×zaf:=
 match a.new with
 | none=>(a.res h.length,h)
 | some o=>(a.res h.length,h ++ [o])
def zpL(D:Dcd):Orc:=λ_ f args h=>(D (zak h) f args).map (Ans.ap h)
def zxm(H:HY)(a:Ans):Option (CR×HY):=
 match a.new with
 | none=>some (a.res H.n,H)
 | some o=>zcs H.n λm=>Tr.put o 40 H.t m λt'=>zcs (Nat.succ m) λn'=>some (a.res m,⟨n',t'⟩)
theorem zt3(hh:zdu H h){a:Ans}(hc:zxm H a=some (cr,H')):∃ h',a.ap h=(cr,h')/\zdu H' h':=by
 unfold zxm at hc;unfold Ans.ap;cases hn:a.new with
 | none=>
  rw[hn]at hc;simp only[qac,qag]at hc;obtain⟨rfl,rfl⟩:=hc;exact⟨h,by rw[hh.1],hh⟩
 | some o=>
  rw[hn]at hc;simp only[zbP]at hc;have hc2:zie H o (λm H2=>some (a.res m,H2))=some (cr,H'):=by
   simp only[zie,zbP,zlj]; exact hc
  obtain⟨H2,g1,g2⟩:=zeU hh hc2;simp only[qac,qag]at g2;obtain⟨rfl,rfl⟩:=g2;exact⟨_,rfl,g1⟩
def zyA(x:Option Ans)(H:HY)(k:HY->Option (CR×HY)):Option (CR×HY):=
 match x with
 | some a=>zxm H a
 | none=>k H
def RecY.none:RecY:=⟨λ_ _ _ _=>.none,λ_ _ _ _=>.none,λ_ _ _ _ _=>.none⟩
def zui(D:Dcd)(fns:Nat->Option Fn):Nat->RecY
 | 0=>RecY.none
 | n+1=>⟨zdj (zui D fns n),λB f args H=>zyA (D (zpJ H) f args) H (zo0 (zui D fns n) fns B f args),λB f=>zn3 (zhh (zqW (zpL D) fns n) fns B f)⟩
theorem zlh(D:Dcd)(fns:Nat->Option Fn):∀ n,RRY (zui D fns n) (zqW (zpL D) fns n)
 | 0=>⟨λ_ _ _ _ _ _ _ _ h=>(by cases h),λ_ _ _ _ _ _ _ _ h=>(by cases h),λ_ _ _ _ _ _ _ _ _ h=>(by cases h)⟩
 | n+1=>by
  refine⟨λB rd c T S ex T' hS hc=>zbZ (zlh D fns n) c T T' S ex hS hc,λB f args H h cr H' hh hc=>?_,λB f args pv H h pv' H' hh hc=>zpi hh hc⟩;simp only[zui]at hc;simp only[zqW,zpL];rw[show zpJ H=zak h from funext (zkK hh)]at hc;cases ho:D (zak h) f args with
  | some y=>
   rw[ho]at hc;obtain⟨h',g1,g2⟩:=zt3 hh hc;exact⟨h',by simp only[qaF,zq3,g1],g2⟩
  | none=>
   rw[ho]at hc;exact zn2 (zlh D fns n) hh hc
def zle:Option (CR×HY)->Bool
 | some (.ret (.lit (.bool b)),_)=>b
 | _=>false
def HY.empty:HY:=⟨0,.leaf⟩
def noD:Dcd:=λ_ _ _=>none
theorem zu7(P:Program):zfb P (zpL noD):=λ_ _ _ _ _ _ h=>(by cases h)
theorem zic{P:Program}(hm:P.follows .mixedOrders=true)(htab:∀ f fn,fns f=some fn->zha P f fn){D:Dcd}(ho:zfb P (zpL D)){n f:Nat}(h:zle ((zui D fns n).call 0 f [] HY.empty)=true)(w:World):
  Calls P f #[] w λe w'=>e=.returned (.bool true)/\Go.RowKit.Below w.heap.size w w':=by
 have hok:=zln hm htab ho n;cases hc0:(zui D fns n).call 0 f [] HY.empty with
 | none=>rw[hc0]at h; cases h
 | some res=>
  rw[hc0]at h;obtain⟨cr,H'⟩:=res;obtain⟨h',hc,_⟩:=(zlh D fns n).call _ _ _ _ [] _ _ ⟨rfl,λk=>by simp[HY.empty,Tr.get]⟩ hc0;have hS:Sim P 0 w (λ_=>none) [] w:=⟨qan _,Go.RowKit.Below.refl _ _,by simp,by simp,by simp,by simp,by simp⟩;obtain⟨_,hcalls⟩:=(hok.call _ _ _ _ _ _ hc).1.1 w (λ_=>none) w #[] hS ⟨rfl,by simp⟩;have hw:CallsIn Fence.wide 0 P f #[] w (zdw P 0 w (λ_=>none) cr h'):=hcalls;refine Calls.mono (callsIn_wide.1 hw) λe w' hp=>?_
  obtain⟨ι',_,hS',hp⟩:=hp;unfold zle at h;split at h
  .rename_i b h2 heq;cases heq;obtain⟨u,rfl,hv⟩:=hp;cases hv;subst h;exact⟨rfl,hS'.below⟩
  cases h
end Go.Mx
