/-
 The machine with tries: code, calls, runs. Conditions: none.
-/
import Derived.Test.YtbjogdohfhdaiaaCkMx21
set_option linter.unusedSimpArgs false
set_option linter.unusedVariables false
namespace Go.Mx
open Go
def zvj(x:Option (Ex×TY))(k:KY):Option (Ex×TY):=
 match x with
 | some (.normal,T')=>k T'
 | x=>x
def zuV(b:Option Bool)(x y:KY)(T:TY):Option (Ex×TY):=
 match b with
 | some true=>x T
 | some false=>y T
 | none=>none
def zr8(id:Nat)(x:Option (Ex×TY)):Option (Ex×TY):=
 match x with
 | some (.exit id',T')=>bif Nat.beq id' id then some (.normal,T')else some (.exit id',T')
 | x=>x
def zs0(rd:Option Nat)(H:HY):Bool:=
 match rd with
 | none=>true
 | some l=>match H.t.get l with
  | some (.loop ..)=>true
  | _=>false
variable{H:HY}{h:zaj}
theorem zqM(hh:zdJ H h)(rd:Option Nat):zs0 rd H=znJ rd h:=by
 cases rd with
 | none=>rfl
 | some l=>simp only[zs0,znJ,hh.2]; rfl
def zoB{α:Type}(rd:Option Nat)(T:TY)(k:List Df->HY->Option α):Option α:=
 match rd with
 | none=>ziN T.hp .dfr λn H=>k (.coll n :: T.dfs) H
 | some _=>k T.dfs T.hp
variable{T:TY}{S:St}
theorem zni{α:Type}(hS:RY T S){rd:Option Nat}{k:List Df->HY->Option α}{x:α}(hc:zoB rd T k=some x):∃ H,zdJ H (zbC rd S)/\k (zf3 rd S) H=some x:=by
 cases rd with
 | none=>
  obtain⟨H,g1,g2⟩:=zfw hS.2.2.2 hc;exact⟨H,g1,by rw[hS.2.2.1]at g2; exact g2⟩
 | some l=>exact⟨T.hp,hS.2.2.2,by rw[<- show T.dfs=zf3 (some l) S from hS.2.2.1]; exact hc⟩
def ztc(T:TY)(ds:List Df)(n:Nat)(x:Option (CR×HY)):Option (Ex×TY):=
 match x with
 | some (.ret _,h)=>(match h.t.get n with
  | some (.loop true none _ _ _ _)=>zit h n .dead λh'=>some (.normal,⟨T.N,T.env,ds,h'⟩)
  | some (.loop false (some j) _ _ _ _)=>zit h n .dead λh'=>some (zpJ j,⟨T.N,T.env,ds,h'⟩)
  | _=>none)
 | some (.pan v,h)=>some (.panic v true,⟨T.N,T.env,ds,h⟩)
 | none=>none
def zrL(r:RecY)(B:Nat)(rd:Option Nat)(v:Option V)(ps:List Nat)(asg body:C)(T:TY):Option (Ex×TY):=
 match v with
 | some (.clo gf first cap)=>bif zs0 rd T.hp then zoB rd T λds H=>zct (zsn T) λenv=>ziN H (.loop true none env ps asg body) λn H'=>
   zct (first ++ [.yld n]++ cap) λargs=>ztc T ds n (r.call B gf args H')else none
 | _=>none
def zdv(r:RecY)(B:Nat)(rd:Option Nat):C->KY
 | .skip=>λT=>some (.normal,T)
 | .label _=>λT=>some (.normal,T)
 | .reg dr bar os=>ziS r B bar rd.isNone (!dr) os
 | .seq a b=>λT=>zvj (zdv r B rd a T) (zdv r B rd b)
 | .cond x a b=>λT=>zuV (zlH (evY T x)) (zdv r B rd a) (zdv r B rd b) T
 | .block id c=>λT=>zr8 id (zdv r B rd c T)
 | .loop c=>λT=>zvj (zdv r B rd c T) (r.code B rd (.loop c))
 | .scope c=>zdv r B rd c
 | .exit id=>λT=>some (.exit id,T)
 | .ret=>λT=>some (.ret,T)
 | .zdM x ps asg body=>λT=>zrL r B rd (evY T x) ps asg body T
 | .bad=>λ_=>none
theorem zpo(h:RY T S)(x:X):zlH (evY T x)=evB S.env x:=by simp only[zlH,evB,zgK h]; rfl
theorem zcf{rY:RecY}{r:Rec}(hr:RRY rY r){B:Nat}{rd:Option Nat}:∀(c:C) (T T':TY) (S:St) (ex:Ex),RY T S->zdv rY B rd c T=some (ex,T')->∃ S',exec r B rd c S=some (ex,S')/\RY T' S'
 | .skip,T,T',S,ex,hS,hc=>by simp only[zdv,qad,qag]at hc; obtain⟨rfl,rfl⟩:=hc; exact⟨S,rfl,hS⟩
 | .label _,T,T',S,ex,hS,hc=>by simp only[zdv,qad,qag]at hc; obtain⟨rfl,rfl⟩:=hc; exact⟨S,rfl,hS⟩
 | .exit _,T,T',S,ex,hS,hc=>by simp only[zdv,qad,qag]at hc; obtain⟨rfl,rfl⟩:=hc; exact⟨S,rfl,hS⟩
 | .ret,T,T',S,ex,hS,hc=>by simp only[zdv,qad,qag]at hc; obtain⟨rfl,rfl⟩:=hc; exact⟨S,rfl,hS⟩
 | .reg dr bar os,T,T',S,ex,hS,hc=>zhI hr os T S hS hc
 | .seq a b,T,T',S,ex,hS,hc=>by
  simp only[zdv,zvj]at hc;simp only[exec];split at hc
  .rename_i T1 hx;obtain⟨S1,g1,g2⟩:=zcf hr a T T1 S _ hS hx;rw[g1];exact zcf hr b T1 T' S1 ex g2 hc
  .rename_i x hx;obtain⟨S1,g1,g2⟩:=zcf hr a T T' S ex hS hc;rw[g1];cases ex with
   | normal=>exact absurd hc (hx T')
   | _=>exact⟨S1,rfl,g2⟩
 | .cond x a b,T,T',S,ex,hS,hc=>by
  simp only[zdv,zuV,zpo hS]at hc;simp only[exec];split at hc
  .rename_i hb;rw[hb];exact zcf hr a T T' S ex hS hc
  .rename_i hb;rw[hb];exact zcf hr b T T' S ex hS hc
  .cases hc
 | .block id c,T,T',S,ex,hS,hc=>by
  simp only[zdv,zr8]at hc;simp only[exec];split at hc
  .rename_i id' T1 hx;obtain⟨S1,g1,g2⟩:=zcf hr c T T1 S _ hS hx;rw[g1];simp only[zk4]at hc ⊢;cases hid:(id' == id)<;> simp only[hid,qcE,qcF,qad,qag]at hc ⊢<;>(obtain⟨rfl,rfl⟩:=hc; exact⟨S1,⟨rfl,rfl⟩,g2⟩)
  .rename_i x hx;obtain⟨S1,g1,g2⟩:=zcf hr c T T' S ex hS hc;rw[g1];cases ex with
   | exit id'=>exact absurd hc (hx id' T')
   | _=>exact⟨S1,rfl,g2⟩
 | .loop c,T,T',S,ex,hS,hc=>by
  simp only[zdv,zvj]at hc;simp only[exec];split at hc
  .rename_i T1 hx;obtain⟨S1,g1,g2⟩:=zcf hr c T T1 S _ hS hx;rw[g1];exact hr.code _ _ _ _ _ _ _ g2 hc
  .rename_i x hx;obtain⟨S1,g1,g2⟩:=zcf hr c T T' S ex hS hc;rw[g1];cases ex with
   | normal=>exact absurd hc (hx T')
   | _=>exact⟨S1,rfl,g2⟩
 | .scope c,T,T',S,ex,hS,hc=>zcf hr c T T' S ex hS hc
 | .zdM x ps asg body,T,T',S,ex,hS,hc=>by
  simp only[zdv,zrL,zgK hS,zqM hS.2.2.2,zbW,zq9 hS]at hc;simp only[exec];split at hc
  .rename_i gf first cap hx
   rw[hx];cases hok:znJ rd S.heap with
   | false=>rw[hok,qcF]at hc; cases hc
   | true=>
    rw[hok,qcE]at hc;simp only[qaZ,qcF];obtain⟨H1,g1,g2⟩:=zni hS hc;obtain⟨H2,g3,g4⟩:=zfw g1 g2;cases hcall:rY.call B gf (first ++ [.yld (zbC rd S).length]++ cap) H2 with
    | none=>rw[hcall]at g4; cases g4
    | some res=>
     obtain⟨cr,H3⟩:=res;rw[hcall]at g4;obtain⟨h3,k1,k2⟩:=hr.call _ _ _ _ _ _ _ g3 hcall;rw[k1];cases cr with
     | ret v=>
      simp only[ztc]at g4;simp only[];rw[k2.2]at g4;split at g4
      .rename_i hh;rw[hh];obtain⟨H4,m1,m2⟩:=zdL k2 g4;simp only[qad,qag]at m2;obtain⟨rfl,rfl⟩:=m2;exact⟨_,rfl,hS.1,hS.2.1,rfl,m1⟩
      .rename_i hh;rw[hh];obtain⟨H4,m1,m2⟩:=zdL k2 g4;simp only[qad,qag]at m2;obtain⟨rfl,rfl⟩:=m2;exact⟨_,rfl,hS.1,hS.2.1,rfl,m1⟩
      .cases g4
     | pan v=>
      simp only[ztc,qad,qag]at g4;obtain⟨rfl,rfl⟩:=g4;exact⟨_,rfl,hS.1,hS.2.1,rfl,k2⟩
  .cases hc
 | .bad,T,T',S,ex,hS,hc=>by cases hc
def zg4(r:RecY)(B:Nat)(pv:Option V):List Df->HY->Option (Option V×HY)
 | [],h=>some (pv,h)
 | .coll d :: ds,h=>(match h.t.get d with
  | some .dfr=>bif Nat.ble B d then zit h d .dead λh'=>zg4 r B pv ds h' else none
  | _=>none)
 | .fn f args :: ds,h=>(match r.dcall B f args pv h with
  | some (pv',h')=>zg4 r B pv' ds h'
  | none=>none)
theorem zfS{rY:RecY}{r:Rec}(hr:RRY rY r){B:Nat}{pv':Option V}{H':HY}:∀(ds:List Df) (pv:Option V) (H:HY) (h:zaj),zdJ H h->zg4 rY B pv ds H=some (pv',H')->∃ h',leave r B pv ds h=some (pv',h')/\zdJ H' h'
 | [],pv,H,h,hh,hc=>by
  simp only[zg4,qad,qag]at hc;obtain⟨rfl,rfl⟩:=hc;exact⟨h,rfl,hh⟩
 | .coll d :: ds,pv,H,h,hh,hc=>by
  simp only[zg4,hh.2]at hc;simp only[leave];split at hc
  .rename_i hd;rw[hd];simp only[];cases hB:Nat.ble B d with
   | false=>rw[hB,qcF]at hc; cases hc
   | true=>
    rw[hB,qcE]at hc;simp only[qcE];obtain⟨H1,g1,g2⟩:=zdL hh hc;exact zfS hr ds pv H1 _ g1 g2
  .cases hc
 | .fn f args :: ds,pv,H,h,hh,hc=>by
  simp only[zg4]at hc;simp only[leave];split at hc
  .rename_i pv1 H1 hd;obtain⟨h1,g1,g2⟩:=hr.dcall _ _ _ _ _ _ _ _ hh hd;rw[g1];exact zfS hr ds pv1 H1 h1 g2 hc
  cases hc
def zis(H:HY)(T:TY):RX->Option V
 | .tmp k=>zqV T k
 | .cell k n=>zl7 (zqV T k) H n
def zi8{α:Type}(H:HY)(T:TY)(k:List V->Option α):List RX->Option α
 | []=>k []
 | x :: r=>match zis H T x with
  | some v=>fcX v λv'=>zi8 H T (λvs=>k (v' :: vs)) r
  | none=>none
theorem zmH{α:Type}(hh:zdJ H h)(hS:RY T S):∀(l:List RX) (k:List V->Option α),zi8 H T k l=(zb5 h S.env l).bind k:=by
 have one:∀ x,zis H T x=zeQ h S.env x:=by
  intro x;rw[<- zm1];cases x with
  | tmp k=>simp only[zis,zgD,hS.2.1,zft]
  | cell k n=>
   simp only[zis,zgD,hS.2.1,zft,zl7,zlp hh,zoy];rfl
 intro l;induction l with
 | nil=>intro k; rfl
 | cons x r ih=>
  intro k;simp only[zi8,zb5,one,zr7,ih];cases zeQ h S.env x<;>cases zb5 h S.env r<;>rfl
def zpG(r:RecY)(B:Nat)(fn:Fn)(pv:Option V)(e:Bool)(T:TY):Option (CR×HY):=
 match zg4 r B pv T.dfs T.hp with
 | some (none,h)=>bif !e then none else zi8 h T (λvs=>some (.ret (zfd vs),h)) fn.rs
 | some (some v,h)=>some (.pan v,h)
 | none=>none
variable{rY:RecY}{r:Rec}{B:Nat}{pv:Option V}{cr:CR}{H':HY}
theorem zif(hr:RRY rY r){fn:Fn}{e:Bool}(hS:RY T S)(hc:zpG rY B fn pv e T=some (cr,H')):∃ h',fin r B fn pv e S=some (cr,h')/\zdJ H' h':=by
 unfold zpG at hc;unfold fin;rw[hS.2.2.1]at hc;split at hc
 .rename_i H hl;obtain⟨h,g1,g2⟩:=zfS hr _ _ _ _ hS.2.2.2 hl;rw[g1];cases e with
  | false=>simp only[qbl,qcE]at hc; cases hc
  | true=>
   simp only[qaZ,qcF]at hc ⊢;rw[zmH g2 hS]at hc;cases hx:zb5 h S.env fn.rs with
   | none=>rw[hx]at hc; cases hc
   | some vs=>
    rw[hx]at hc;simp only[qab,qad,qag]at hc;obtain⟨rfl,rfl⟩:=hc;exact⟨h,rfl,g2⟩
 .rename_i v H hl;obtain⟨h,g1,g2⟩:=zfS hr _ _ _ _ hS.2.2.2 hl;rw[g1];simp only[qad,qag]at hc;obtain⟨rfl,rfl⟩:=hc;exact⟨h,rfl,g2⟩
 cases hc
def zw6(r:RecY)(B:Nat)(fn:Fn)(x:Option (Ex×TY)):Option (CR×HY):=
 match x with
 | some (.normal,S)=>zpG r B fn none true S
 | some (.ret,S)=>zpG r B fn none true S
 | some (.panic v e,S)=>zpG r B fn (some v) e S
 | _=>none
def zoF(r:RecY)(fn:Fn)(B:Nat)(args:List V)(H:HY):Option (CR×HY):=
 bif Nat.ble args.length fn.N then zcJ fn.N λN=>zty args 0 .leaf λt=>zw6 r B fn (zdv r B none fn.c ⟨N,t,[],H⟩)else none
theorem zpW{args:List V}{N:Nat}(hN:args.length<=N){t:Tr V}(h:∀ j,t.get j=if 0<=j/\j<0+args.length then args[j - 0]? else(Tr.leaf:Tr V).get j){hp:zaj}(hh:zdJ H hp):
  RY ⟨N,t,[],H⟩ ⟨args ++ List.replicate (N - args.length) zaE,[],hp⟩:=by
 refine⟨by simp; omega,λk=>?_,rfl,hh⟩;simp only[zqV,h,qa3,qcq];by_cases hk:k<args.length
 .rw[if_pos (by omega),qce,if_pos hk,qae hk]
 rw[if_neg (by omega),if_neg hk];simp only[Tr.get,zeG];by_cases hk2:k<N
 .rw[if_pos (by omega)]; simp[hk2]
 rw[if_neg (by omega)]; simp[hk2]
theorem zl3(hr:RRY rY r){fn:Fn}{args:List V}(hh:zdJ H h)(hc:zoF rY fn B args H=some (cr,H')):∃ h',body r fn B args h=some (cr,h')/\zdJ H' h':=by
 unfold zoF at hc;unfold body;cases hle:Nat.ble args.length fn.N with
 | false=>rw[hle,qcF]at hc; cases hc
 | true=>
  rw[hle,qcE,zb3]at hc;simp only[qcE];obtain⟨t,g1,g2⟩:=zi1 _ _ _ _ hc;have hS:=zpW (qai hle) g2 hh;cases hx:zdv rY B none fn.c ⟨fn.N,t,[],H⟩with
  | none=>rw[hx]at g1; cases g1
  | some res=>
   obtain⟨ex,T'⟩:=res;obtain⟨S',k1,k2⟩:=zcf hr _ _ _ _ _ hS hx;rw[hx]at g1;rw[k1];cases ex with
   | normal=>exact zif hr k2 g1
   | ret=>exact zif hr k2 g1
   | panic v e=>exact zif hr k2 g1
   | exit id=>cases g1
def zlr(H:HY)(x:Option (CR×HY)):Option (CR×HY):=
 match x with
 | some (.ret v,_)=>bif v.plain then some (.ret v,H)else none
 | some (.pan v,_)=>bif v.plain then some (.pan v,H)else none
 | none=>none
def zuR(r:RecY)(fn:Fn)(B:Nat)(args:List V)(H:HY):Option (CR×HY):=bif Nat.ble B H.n then zlr H (zoF r fn H.n args H)else none
def zog(r:RecY)(fns:Nat->Option Fn)(B:Nat)(f:Nat)(args:List V)(H:HY):Option (CR×HY):=
 match fns f with
 | some fn=>bif fn.p then zuR r fn B args H else zoF r fn B args H
 | none=>none
variable{fns:Nat->Option Fn}
theorem zof(hr:RRY rY r){f:Nat}{args:List V}(hh:zdJ H h)(hc:zog rY fns B f args H=some (cr,H')):∃ h',zhh r fns B f args h=some (cr,h')/\zdJ H' h':=by
 unfold zog at hc;unfold zhh;split at hc
 .rename_i fn hfn;rw[hfn];cases hp:fn.p with
  | false=>
   rw[hp,qcF]at hc;simp only[hp,qcF];exact zl3 hr hh hc
  | true=>
   rw[hp,qcE]at hc;simp only[hp,qcE];unfold zuR at hc;rw[hh.1]at hc;cases hB:Nat.ble B h.length with
   | false=>rw[hB,qcF]at hc; cases hc
   | true=>
    rw[hB,qcE]at hc;simp only[qcE];cases hb:zoF rY fn h.length args H with
    | none=>rw[hb]at hc; cases hc
    | some y=>
     obtain⟨cr1,H1⟩:=y;rw[hb]at hc;obtain⟨h1,g1,_⟩:=zl3 hr hh hb;rw[g1];cases cr1 with
     | ret v=>
      simp only[zlr]at hc;simp only[forget];cases hv:v.plain with
      | false=>rw[hv,qcF]at hc; cases hc
      | true=>
       rw[hv,qcE]at hc;simp only[qad,qag]at hc;obtain⟨rfl,rfl⟩:=hc;exact⟨h,rfl,hh⟩
     | pan v=>
      simp only[zlr]at hc;simp only[forget];cases hv:v.plain with
      | false=>rw[hv,qcF]at hc; cases hc
      | true=>
       rw[hv,qcE]at hc;simp only[qad,qag]at hc;obtain⟨rfl,rfl⟩:=hc;exact⟨h,rfl,hh⟩
 cases hc
def zn9(d:List V->Option V->zaj->Option (Option V×zaj))(args:List V)(pv:Option V)(H:HY):Option (Option V×HY):=
 match d args pv (zpg H)with
 | some (pv',h')=>zty h' 0 .leaf λt=>zcJ h'.length λn=>some (pv',⟨n,t⟩)
 | none=>none
theorem zpq{l:zaj}{t:Tr Ob}(h:∀ j,t.get j=if 0<=j/\j<0+l.length then l[j - 0]? else(Tr.leaf:Tr Ob).get j):zdJ ⟨l.length,t⟩ l:=by
 refine⟨rfl,λk=>?_⟩;simp only[h];by_cases hk:k<l.length
 .rw[if_pos (by omega),qce]
 rw[if_neg (by omega),qaJ (by omega)]; rfl
theorem zo8{d:List V->Option V->zaj->Option (Option V×zaj)}{args:List V}{pv':Option V}(hh:zdJ H h)(hc:zn9 d args pv H=some (pv',H')):∃ h',d args pv h=some (pv',h')/\zdJ H' h':=by
 unfold zn9 at hc;rw[zoT hh]at hc;split at hc
 .rename_i pv1 h1 hd;obtain⟨t,g1,g2⟩:=zi1 _ _ _ _ hc;simp only[zb3,qad,qag]at g1;obtain⟨rfl,rfl⟩:=g1;exact⟨h1,hd,zpq g2⟩
 cases hc
structure Ans where
 res:Nat->CR
 new:Option Ob
abbrev Dcd:=(Nat->Option (List V))->Nat->List V->Option Ans
def Ans.ap(h:zaj)(a:Ans):CR×zaj:=
 match a.new with
 | none=>(a.res h.length,h)
 | some o=>(a.res h.length,h ++ [o])
def zpj(D:Dcd):Orc:=λ_ f args h=>(D (zao h) f args).map (Ans.ap h)
def zvN(H:HY)(a:Ans):Option (CR×HY):=
 match a.new with
 | none=>some (a.res H.n,H)
 | some o=>zcJ H.n λm=>Tr.put o 40 H.t m λt'=>zcJ (Nat.succ m) λn'=>some (a.res m,⟨n',t'⟩)
theorem zsZ(hh:zdJ H h){a:Ans}(hc:zvN H a=some (cr,H')):∃ h',a.ap h=(cr,h')/\zdJ H' h':=by
 unfold zvN at hc;unfold Ans.ap;cases hn:a.new with
 | none=>
  rw[hn]at hc;simp only[qad,qag]at hc;obtain⟨rfl,rfl⟩:=hc;exact⟨h,by rw[hh.1],hh⟩
 | some o=>
  rw[hn]at hc;simp only[zb3]at hc;have hc2:ziN H o (λm H2=>some (a.res m,H2))=some (cr,H'):=by
   simp only[ziN,zb3,zkZ]; exact hc
  obtain⟨H2,g1,g2⟩:=zfw hh hc2;simp only[qad,qag]at g2;obtain⟨rfl,rfl⟩:=g2;exact⟨_,rfl,g1⟩
def zwQ(x:Option Ans)(H:HY)(k:HY->Option (CR×HY)):Option (CR×HY):=
 match x with
 | some a=>zvN H a
 | none=>k H
def RecY.none:RecY:=⟨λ_ _ _ _=>.none,λ_ _ _ _=>.none,λ_ _ _ _ _=>.none⟩
def zsi(D:Dcd)(fns:Nat->Option Fn):Nat->RecY
 | 0=>RecY.none
 | n+1=>⟨zdv (zsi D fns n),λB f args H=>zwQ (D (zpw H) f args) H (zog (zsi D fns n) fns B f args),λB f=>zn9 (zlu (zqh (zpj D) fns n) fns B f)⟩
theorem zlx(D:Dcd)(fns:Nat->Option Fn):∀ n,RRY (zsi D fns n) (zqh (zpj D) fns n)
 | 0=>⟨λ_ _ _ _ _ _ _ _ h=>(by cases h),λ_ _ _ _ _ _ _ _ h=>(by cases h),λ_ _ _ _ _ _ _ _ _ h=>(by cases h)⟩
 | n+1=>by
  refine⟨λB rd c T S ex T' hS hc=>zcf (zlx D fns n) c T T' S ex hS hc,λB f args H h cr H' hh hc=>?_,λB f args pv H h pv' H' hh hc=>zo8 hh hc⟩;simp only[zsi]at hc;simp only[zqh,zpj];rw[show zpw H=zao h from funext (zlp hh)]at hc;cases ho:D (zao h) f args with
  | some y=>
   rw[ho]at hc;obtain⟨h',g1,g2⟩:=zsZ hh hc;exact⟨h',by simp only[qaD,zqg,g1],g2⟩
  | none=>
   rw[ho]at hc;exact zof (zlx D fns n) hh hc
def zkP:Option (CR×HY)->Bool
 | some (.ret (.lit (.bool b)),_)=>b
 | _=>false
def HY.empty:HY:=⟨0,.leaf⟩
def noD:Dcd:=λ_ _ _=>none
theorem zt4(P:Program):zfI P (zpj noD):=λ_ _ _ _ _ _ h=>(by cases h)
theorem zjk{P:Program}(hm:P.follows .mixedOrders=true)(htab:∀ f fn,fns f=some fn->zju P f fn){D:Dcd}(ho:zfI P (zpj D)){n f:Nat}(h:zkP ((zsi D fns n).call 0 f [] HY.empty)=true)(w:World):
  Calls P f #[] w λe w'=>e=.returned (.bool true)/\Go.RowKit.Below w.heap.size w w':=by
 have hok:=zk0 hm htab ho n;cases hc0:(zsi D fns n).call 0 f [] HY.empty with
 | none=>rw[hc0]at h; cases h
 | some res=>
  rw[hc0]at h;obtain⟨cr,H'⟩:=res;obtain⟨h',hc,_⟩:=(zlx D fns n).call _ _ _ _ [] _ _ ⟨rfl,λk=>by simp[HY.empty,Tr.get]⟩ hc0;have hS:Sim P 0 w (λ_=>none) [] w:=⟨qam _,Go.RowKit.Below.refl _ _,by simp,by simp,by simp,by simp,by simp⟩;obtain⟨_,hcalls⟩:=(hok.call _ _ _ _ _ _ hc).1.1 w (λ_=>none) w #[] hS ⟨rfl,by simp⟩;have hw:CallsIn Fence.wide 0 P f #[] w (zdP P 0 w (λ_=>none) cr h'):=hcalls;refine Calls.mono (callsIn_wide.1 hw) λe w' hp=>?_
  obtain⟨ι',_,hS',hp⟩:=hp;unfold zkP at h;split at h
  .rename_i b h2 heq;cases heq;obtain⟨u,rfl,hv⟩:=hp;cases hv;subst h;exact⟨rfl,hS'.below⟩
  cases h
end Go.Mx
