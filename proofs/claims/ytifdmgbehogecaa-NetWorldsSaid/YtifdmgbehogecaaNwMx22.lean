/-
 The machine with tries: code, calls, runs. Conditions: none.
-/
import Derived.Test.YtifdmgbehogecaaNwMx21
set_option linter.unusedSimpArgs false
set_option linter.unusedVariables false
namespace Go.Mx
open Go
def zwp(x:Option (Ex×TY))(k:KY):Option (Ex×TY):=
 match x with
 | some (.normal,T')=>k T'
 | x=>x
def zwm(b:Option Bool)(x y:KY)(T:TY):Option (Ex×TY):=
 match b with
 | some true=>x T
 | some false=>y T
 | none=>none
def zsA(id:Nat)(x:Option (Ex×TY)):Option (Ex×TY):=
 match x with
 | some (.exit id',T')=>bif Nat.beq id' id then some (.normal,T')else some (.exit id',T')
 | x=>x
def ztz(rd:Option Nat)(H:HY):Bool:=
 match rd with
 | none=>true
 | some l=>match H.t.get l with
  | some (.loop ..)=>true
  | _=>false
theorem zrW{H:HY}{h:zap}(hh:zez H h)(rd:Option Nat):ztz rd H=zoR rd h:=by
 cases rd with
 | none=>rfl
 | some l=>simp only[ztz,zoR,hh.2]; rfl
def zpN{α:Type}(rd:Option Nat)(T:TY)(k:List Df→HY→Option α):Option α:=
 match rd with
 | none=>zj4 T.hp .dfr fun n H=>k (.coll n :: T.dfs) H
 | some _=>k T.dfs T.hp
theorem zn9{α:Type}{T:TY}{S:St}(hS:RY T S){rd:Option Nat}{k:List Df→HY→Option α}{x:α}(hc:zpN rd T k=some x):∃ H,zez H (zbH rd S)∧k (zgA rd S) H=some x:=by
 cases rd with
 | none=>
  obtain⟨H,g1,g2⟩:=zf2 hS.2.2.2 hc;exact⟨H,g1,by rw[hS.2.2.1]at g2; exact g2⟩
 | some l=>exact⟨T.hp,hS.2.2.2,by rw[← show T.dfs=zgA (some l) S from hS.2.2.1]; exact hc⟩
def ztr(T:TY)(ds:List Df)(n:Nat)(x:Option (CR×HY)):Option (Ex×TY):=
 match x with
 | some (.ret _,h)=>(match h.t.get n with
  | some (.loop true none _ _ _ _)=>zjb h n .dead fun h'=>some (.normal,⟨T.N,T.env,ds,h'⟩)
  | some (.loop false (some j) _ _ _ _)=>zjb h n .dead fun h'=>some (zqC j,⟨T.N,T.env,ds,h'⟩)
  | _=>none)
 | some (.pan v,h)=>some (.panic v true,⟨T.N,T.env,ds,h⟩)
 | none=>none
def ztc(r:RecY)(B:Nat)(rd:Option Nat)(v:Option V)(ps:List Nat)(asg body:C)(T:TY):Option (Ex×TY):=
 match v with
 | some (.clo gf first cap)=>bif ztz rd T.hp then zpN rd T fun ds H=>zcP (ztV T) fun env=>zj4 H (.loop true none env ps asg body) fun n H'=>
   zcP (first ++ [.yld n]++ cap) fun args=>ztr T ds n (r.call B gf args H')else none
 | _=>none
def zeo(r:RecY)(B:Nat)(rd:Option Nat):C→KY
 | .skip=>fun T=>some (.normal,T)
 | .label _=>fun T=>some (.normal,T)
 | .reg dr bar os=>zjI r B bar rd.isNone (!dr) os
 | .seq a b=>fun T=>zwp (zeo r B rd a T) (zeo r B rd b)
 | .cond x a b=>fun T=>zwm (zmT (evY T x)) (zeo r B rd a) (zeo r B rd b) T
 | .block id c=>fun T=>zsA id (zeo r B rd c T)
 | .loop c=>fun T=>zwp (zeo r B rd c T) (r.code B rd (.loop c))
 | .scope c=>zeo r B rd c
 | .exit id=>fun T=>some (.exit id,T)
 | .ret=>fun T=>some (.ret,T)
 | .zeI x ps asg body=>fun T=>ztc r B rd (evY T x) ps asg body T
 | .bad=>fun _=>none
theorem zqQ{T:TY}{S:St}(h:RY T S)(x:X):zmT (evY T x)=evB S.env x:=by simp only[zmT,evB,zg8 h]; rfl
theorem zcz{rY:RecY}{r:Rec}(hr:RRY rY r){B:Nat}{rd:Option Nat}:∀(c:C) (T T':TY) (S:St) (ex:Ex),RY T S→zeo rY B rd c T=some (ex,T')→∃ S',exec r B rd c S=some (ex,S')∧RY T' S'
 | .skip,T,T',S,ex,hS,hc=>by simp only[zeo,qad,qaf]at hc; obtain⟨rfl,rfl⟩:=hc; exact⟨S,rfl,hS⟩
 | .label _,T,T',S,ex,hS,hc=>by simp only[zeo,qad,qaf]at hc; obtain⟨rfl,rfl⟩:=hc; exact⟨S,rfl,hS⟩
 | .exit _,T,T',S,ex,hS,hc=>by simp only[zeo,qad,qaf]at hc; obtain⟨rfl,rfl⟩:=hc; exact⟨S,rfl,hS⟩
 | .ret,T,T',S,ex,hS,hc=>by simp only[zeo,qad,qaf]at hc; obtain⟨rfl,rfl⟩:=hc; exact⟨S,rfl,hS⟩
 | .reg dr bar os,T,T',S,ex,hS,hc=>ziM hr os T S hS hc
 | .seq a b,T,T',S,ex,hS,hc=>by
  simp only[zeo,zwp]at hc;simp only[exec];split at hc
  ·rename_i T1 hx;obtain⟨S1,g1,g2⟩:=zcz hr a T T1 S _ hS hx;rw[g1];exact zcz hr b T1 T' S1 ex g2 hc
  ·rename_i x hx;obtain⟨S1,g1,g2⟩:=zcz hr a T T' S ex hS hc;rw[g1];cases ex with
   | normal=>exact absurd hc (hx T')
   | _=>exact⟨S1,rfl,g2⟩
 | .cond x a b,T,T',S,ex,hS,hc=>by
  simp only[zeo,zwm,zqQ hS]at hc;simp only[exec];split at hc
  ·rename_i hb;rw[hb];exact zcz hr a T T' S ex hS hc
  ·rename_i hb;rw[hb];exact zcz hr b T T' S ex hS hc
  ·cases hc
 | .block id c,T,T',S,ex,hS,hc=>by
  simp only[zeo,zsA]at hc;simp only[exec];split at hc
  ·rename_i id' T1 hx;obtain⟨S1,g1,g2⟩:=zcz hr c T T1 S _ hS hx;rw[g1];simp only[zmA]at hc ⊢;cases hid:(id' == id)<;> simp only[hid,cond_true,cond_false,qad,qaf]at hc ⊢<;>(obtain⟨rfl,rfl⟩:=hc; exact⟨S1,⟨rfl,rfl⟩,g2⟩)
  ·rename_i x hx;obtain⟨S1,g1,g2⟩:=zcz hr c T T' S ex hS hc;rw[g1];cases ex with
   | exit id'=>exact absurd hc (hx id' T')
   | _=>exact⟨S1,rfl,g2⟩
 | .loop c,T,T',S,ex,hS,hc=>by
  simp only[zeo,zwp]at hc;simp only[exec];split at hc
  ·rename_i T1 hx;obtain⟨S1,g1,g2⟩:=zcz hr c T T1 S _ hS hx;rw[g1];exact hr.code _ _ _ _ _ _ _ g2 hc
  ·rename_i x hx;obtain⟨S1,g1,g2⟩:=zcz hr c T T' S ex hS hc;rw[g1];cases ex with
   | normal=>exact absurd hc (hx T')
   | _=>exact⟨S1,rfl,g2⟩
 | .scope c,T,T',S,ex,hS,hc=>zcz hr c T T' S ex hS hc
 | .zeI x ps asg body,T,T',S,ex,hS,hc=>by
  simp only[zeo,ztc,zg8 hS,zrW hS.2.2.2,zct,zrB hS]at hc;simp only[exec];split at hc
  ·rename_i gf first cap hx
   rw[hx];cases hok:zoR rd S.heap with
   | false=>rw[hok,cond_false]at hc; cases hc
   | true=>
    rw[hok,cond_true]at hc;simp only[qaW,cond_false];obtain⟨H1,g1,g2⟩:=zn9 hS hc;obtain⟨H2,g3,g4⟩:=zf2 g1 g2;cases hcall:rY.call B gf (first ++ [.yld (zbH rd S).length]++ cap) H2 with
    | none=>rw[hcall]at g4; cases g4
    | some res=>
     obtain⟨cr,H3⟩:=res;rw[hcall]at g4;obtain⟨h3,k1,k2⟩:=hr.call _ _ _ _ _ _ _ g3 hcall;rw[k1];cases cr with
     | ret v=>
      simp only[ztr]at g4;simp only[];rw[k2.2]at g4;split at g4
      ·rename_i hh;rw[hh];obtain⟨H4,m1,m2⟩:=zeA k2 g4;simp only[qad,qaf]at m2;obtain⟨rfl,rfl⟩:=m2;exact⟨_,rfl,hS.1,hS.2.1,rfl,m1⟩
      ·rename_i hh;rw[hh];obtain⟨H4,m1,m2⟩:=zeA k2 g4;simp only[qad,qaf]at m2;obtain⟨rfl,rfl⟩:=m2;exact⟨_,rfl,hS.1,hS.2.1,rfl,m1⟩
      ·cases g4
     | pan v=>
      simp only[ztr,qad,qaf]at g4;obtain⟨rfl,rfl⟩:=g4;exact⟨_,rfl,hS.1,hS.2.1,rfl,k2⟩
  ·cases hc
 | .bad,T,T',S,ex,hS,hc=>by cases hc
def zhL(r:RecY)(B:Nat)(pv:Option V):List Df→HY→Option (Option V×HY)
 | [],h=>some (pv,h)
 | .coll d :: ds,h=>(match h.t.get d with
  | some .dfr=>bif Nat.ble B d then zjb h d .dead fun h'=>zhL r B pv ds h' else none
  | _=>none)
 | .fn f args :: ds,h=>(match r.dcall B f args pv h with
  | some (pv',h')=>zhL r B pv' ds h'
  | none=>none)
theorem zfW{rY:RecY}{r:Rec}(hr:RRY rY r){B:Nat}{pv':Option V}{H':HY}:∀(ds:List Df) (pv:Option V) (H:HY) (h:zap),zez H h→zhL rY B pv ds H=some (pv',H')→∃ h',leave r B pv ds h=some (pv',h')∧zez H' h'
 | [],pv,H,h,hh,hc=>by
  simp only[zhL,qad,qaf]at hc;obtain⟨rfl,rfl⟩:=hc;exact⟨h,rfl,hh⟩
 | .coll d :: ds,pv,H,h,hh,hc=>by
  simp only[zhL,hh.2]at hc;simp only[leave];split at hc
  ·rename_i hd;rw[hd];simp only[];cases hB:Nat.ble B d with
   | false=>rw[hB,cond_false]at hc; cases hc
   | true=>
    rw[hB,cond_true]at hc;simp only[cond_true];obtain⟨H1,g1,g2⟩:=zeA hh hc;exact zfW hr ds pv H1 _ g1 g2
  ·cases hc
 | .fn f args :: ds,pv,H,h,hh,hc=>by
  simp only[zhL]at hc;simp only[leave];split at hc
  ·rename_i pv1 H1 hd;obtain⟨h1,g1,g2⟩:=hr.dcall _ _ _ _ _ _ _ _ hh hd;rw[g1];exact zfW hr ds pv1 H1 h1 g2 hc
  cases hc
def zi9(H:HY)(T:TY):RX→Option V
 | .tmp k=>zrZ T k
 | .cell k n=>znm (zrZ T k) H n
def zjk{α:Type}(H:HY)(T:TY)(k:List V→Option α):List RX→Option α
 | []=>k []
 | x :: r=>match zi9 H T x with
  | some v=>fcX v fun v'=>zjk H T (fun vs=>k (v' :: vs)) r
  | none=>none
theorem zov{α:Type}{H:HY}{h:zap}(hh:zez H h){T:TY}{S:St}(hS:RY T S):∀(l:List RX) (k:List V→Option α),zjk H T k l=(zcl h S.env l).bind k:=by
 have one:∀ x,zi9 H T x=zfw h S.env x:=by
  intro x;rw[← zol];cases x with
  | tmp k=>simp only[zi9,zg6,hS.2.1,zgg]
  | cell k n=>
   simp only[zi9,zg6,hS.2.1,zgg,znm,zlT hh,zqR];rfl
 intro l;induction l with
 | nil=>intro k; rfl
 | cons x r ih=>
  intro k;simp only[zjk,zcl,one,zsT,ih];cases zfw h S.env x<;>cases zcl h S.env r<;>rfl
def zpg(r:RecY)(B:Nat)(fn:Fn)(pv:Option V)(e:Bool)(T:TY):Option (CR×HY):=
 match zhL r B pv T.dfs T.hp with
 | some (none,h)=>bif !e then none else zjk h T (fun vs=>some (.ret (zfN vs),h)) fn.rs
 | some (some v,h)=>some (.pan v,h)
 | none=>none
theorem zjE{rY:RecY}{r:Rec}(hr:RRY rY r){B:Nat}{fn:Fn}{pv:Option V}{e:Bool}{T:TY}{S:St}{cr:CR}{H':HY}(hS:RY T S)(hc:zpg rY B fn pv e T=some (cr,H')):∃ h',fin r B fn pv e S=some (cr,h')∧zez H' h':=by
 unfold zpg at hc;unfold fin;rw[hS.2.2.1]at hc;split at hc
 ·rename_i H hl;obtain⟨h,g1,g2⟩:=zfW hr _ _ _ _ hS.2.2.2 hl;rw[g1];cases e with
  | false=>simp only[qbp,cond_true]at hc; cases hc
  | true=>
   simp only[qaW,cond_false]at hc ⊢;rw[zov g2 hS]at hc;cases hx:zcl h S.env fn.rs with
   | none=>rw[hx]at hc; cases hc
   | some vs=>
    rw[hx]at hc;simp only[qaa,qad,qaf]at hc;obtain⟨rfl,rfl⟩:=hc;exact⟨h,rfl,g2⟩
 ·rename_i v H hl;obtain⟨h,g1,g2⟩:=zfW hr _ _ _ _ hS.2.2.2 hl;rw[g1];simp only[qad,qaf]at hc;obtain⟨rfl,rfl⟩:=hc;exact⟨h,rfl,g2⟩
 cases hc
def zyo(r:RecY)(B:Nat)(fn:Fn)(x:Option (Ex×TY)):Option (CR×HY):=
 match x with
 | some (.normal,S)=>zpg r B fn none true S
 | some (.ret,S)=>zpg r B fn none true S
 | some (.panic v e,S)=>zpg r B fn (some v) e S
 | _=>none
def zp4(r:RecY)(fn:Fn)(B:Nat)(args:List V)(H:HY):Option (CR×HY):=
 bif Nat.ble args.length fn.N then zdk fn.N fun N=>zuv args 0 .leaf fun t=>zyo r B fn (zeo r B none fn.c ⟨N,t,[],H⟩)else none
theorem zqG{args:List V}{N:Nat}(hN:args.length≤N){t:Tr V}(h:∀ j,t.get j=if 0≤j∧j<0+args.length then args[j - 0]? else(Tr.leaf:Tr V).get j){H:HY}{hp:zap}(hh:zez H hp):
  RY ⟨N,t,[],H⟩ ⟨args ++ List.replicate (N - args.length) zaQ,[],hp⟩:=by
 refine⟨by simp; omega,fun k=>?_,rfl,hh⟩;simp only[zrZ,h,qbf,qcx];by_cases hk:k<args.length
 ·rw[if_pos (by omega),qcJ,if_pos hk,qae hk]
 rw[if_neg (by omega),if_neg hk];simp only[Tr.get,zfp];by_cases hk2:k<N
 ·rw[if_pos (by omega)]; simp[hk2]
 rw[if_neg (by omega)]; simp[hk2]
theorem zno{rY:RecY}{r:Rec}(hr:RRY rY r){B:Nat}{fn:Fn}{args:List V}{H H':HY}{h:zap}(hh:zez H h){cr:CR}(hc:zp4 rY fn B args H=some (cr,H')):∃ h',body r fn B args h=some (cr,h')∧zez H' h':=by
 unfold zp4 at hc;unfold body;cases hle:Nat.ble args.length fn.N with
 | false=>rw[hle,cond_false]at hc; cases hc
 | true=>
  rw[hle,cond_true,zcj]at hc;simp only[cond_true];obtain⟨t,g1,g2⟩:=ziY _ _ _ _ hc;have hS:=zqG (qah hle) g2 hh;cases hx:zeo rY B none fn.c ⟨fn.N,t,[],H⟩with
  | none=>rw[hx]at g1; cases g1
  | some res=>
   obtain⟨ex,T'⟩:=res;obtain⟨S',k1,k2⟩:=zcz hr _ _ _ _ _ hS hx;rw[hx]at g1;rw[k1];cases ex with
   | normal=>exact zjE hr k2 g1
   | ret=>exact zjE hr k2 g1
   | panic v e=>exact zjE hr k2 g1
   | exit id=>cases g1
def zmd(H:HY)(x:Option (CR×HY)):Option (CR×HY):=
 match x with
 | some (.ret v,_)=>bif v.plain then some (.ret v,H)else none
 | some (.pan v,_)=>bif v.plain then some (.pan v,H)else none
 | none=>none
def zvx(r:RecY)(fn:Fn)(B:Nat)(args:List V)(H:HY):Option (CR×HY):=bif Nat.ble B H.n then zmd H (zp4 r fn H.n args H)else none
def zpt(r:RecY)(fns:Nat→Option Fn)(B:Nat)(f:Nat)(args:List V)(H:HY):Option (CR×HY):=
 match fns f with
 | some fn=>bif fn.p then zvx r fn B args H else zp4 r fn B args H
 | none=>none
theorem zpp{rY:RecY}{r:Rec}(hr:RRY rY r){fns:Nat→Option Fn}{B f:Nat}{args:List V}{H H':HY}{h:zap}(hh:zez H h){cr:CR}(hc:zpt rY fns B f args H=some (cr,H')):∃ h',zhi r fns B f args h=some (cr,h')∧zez H' h':=by
 unfold zpt at hc;unfold zhi;split at hc
 ·rename_i fn hfn;rw[hfn];cases hp:fn.p with
  | false=>
   rw[hp,cond_false]at hc;simp only[hp,cond_false];exact zno hr hh hc
  | true=>
   rw[hp,cond_true]at hc;simp only[hp,cond_true];unfold zvx at hc;rw[hh.1]at hc;cases hB:Nat.ble B h.length with
   | false=>rw[hB,cond_false]at hc; cases hc
   | true=>
    rw[hB,cond_true]at hc;simp only[cond_true];cases hb:zp4 rY fn h.length args H with
    | none=>rw[hb]at hc; cases hc
    | some y=>
     obtain⟨cr1,H1⟩:=y;rw[hb]at hc;obtain⟨h1,g1,_⟩:=zno hr hh hb;rw[g1];cases cr1 with
     | ret v=>
      simp only[zmd]at hc;simp only[forget];cases hv:v.plain with
      | false=>rw[hv,cond_false]at hc; cases hc
      | true=>
       rw[hv,cond_true]at hc;simp only[qad,qaf]at hc;obtain⟨rfl,rfl⟩:=hc;exact⟨h,rfl,hh⟩
     | pan v=>
      simp only[zmd]at hc;simp only[forget];cases hv:v.plain with
      | false=>rw[hv,cond_false]at hc; cases hc
      | true=>
       rw[hv,cond_true]at hc;simp only[qad,qaf]at hc;obtain⟨rfl,rfl⟩:=hc;exact⟨h,rfl,hh⟩
 cases hc
def zqa(d:List V→Option V→zap→Option (Option V×zap))(args:List V)(pv:Option V)(H:HY):Option (Option V×HY):=
 match d args pv (zq6 H)with
 | some (pv',h')=>zuv h' 0 .leaf fun t=>zdk h'.length fun n=>some (pv',⟨n,t⟩)
 | none=>none
theorem zp3{l:zap}{t:Tr Ob}(h:∀ j,t.get j=if 0≤j∧j<0+l.length then l[j - 0]? else(Tr.leaf:Tr Ob).get j):zez ⟨l.length,t⟩ l:=by
 refine⟨rfl,fun k=>?_⟩;simp only[h];by_cases hk:k<l.length
 ·rw[if_pos (by omega),qcJ]
 rw[if_neg (by omega),qa7 (by omega)]; rfl
theorem zoS{d:List V→Option V→zap→Option (Option V×zap)}{args:List V}{pv pv':Option V}{H H':HY}{h:zap}(hh:zez H h)(hc:zqa d args pv H=some (pv',H')):∃ h',d args pv h=some (pv',h')∧zez H' h':=by
 unfold zqa at hc;rw[zpD hh]at hc;split at hc
 ·rename_i pv1 h1 hd;obtain⟨t,g1,g2⟩:=ziY _ _ _ _ hc;simp only[zcj,qad,qaf]at g1;obtain⟨rfl,rfl⟩:=g1;exact⟨h1,hd,zp3 g2⟩
 cases hc
structure Ans where
 res:Nat→CR
 new:Option Ob
abbrev Dcd:=(Nat→Option (List V))→Nat→List V→Option Ans
def Ans.ap(h:zap)(a:Ans):CR×zap:=
 match a.new with
 | none=>(a.res h.length,h)
 | some o=>(a.res h.length,h ++ [o])
def zq9(D:Dcd):Orc:=fun _ f args h=>(D (zaP h) f args).map (Ans.ap h)
def zxl(H:HY)(a:Ans):Option (CR×HY):=
 match a.new with
 | none=>some (a.res H.n,H)
 | some o=>zdk H.n fun m=>Tr.put o 40 H.t m fun t'=>zdk (Nat.succ m) fun n'=>some (a.res m,⟨n',t'⟩)
theorem ztF{H H':HY}{h:zap}(hh:zez H h){a:Ans}{cr:CR}(hc:zxl H a=some (cr,H')):∃ h',a.ap h=(cr,h')∧zez H' h':=by
 unfold zxl at hc;unfold Ans.ap;cases hn:a.new with
 | none=>
  rw[hn]at hc;simp only[qad,qaf]at hc;obtain⟨rfl,rfl⟩:=hc;exact⟨h,by rw[hh.1],hh⟩
 | some o=>
  rw[hn]at hc;simp only[zcj]at hc;have hc2:zj4 H o (fun m H2=>some (a.res m,H2))=some (cr,H'):=by
   simp only[zj4,zcj,zmI]; exact hc
  obtain⟨H2,g1,g2⟩:=zf2 hh hc2;simp only[qad,qaf]at g2;obtain⟨rfl,rfl⟩:=g2;exact⟨_,rfl,g1⟩
def zx6(x:Option Ans)(H:HY)(k:HY→Option (CR×HY)):Option (CR×HY):=
 match x with
 | some a=>zxl H a
 | none=>k H
def RecY.none:RecY:=⟨fun _ _ _ _=>.none,fun _ _ _ _=>.none,fun _ _ _ _ _=>.none⟩
def ztU(D:Dcd)(fns:Nat→Option Fn):Nat→RecY
 | 0=>RecY.none
 | n+1=>⟨zeo (ztU D fns n),fun B f args H=>zx6 (D (zqd H) f args) H (zpt (ztU D fns n) fns B f args),fun B f=>zqa (zmk (zrd (zq9 D) fns n) fns B f)⟩
theorem zmJ(D:Dcd)(fns:Nat→Option Fn):∀ n,RRY (ztU D fns n) (zrd (zq9 D) fns n)
 | 0=>⟨fun _ _ _ _ _ _ _ _ h=>(by cases h),fun _ _ _ _ _ _ _ _ h=>(by cases h),fun _ _ _ _ _ _ _ _ _ h=>(by cases h)⟩
 | n+1=>by
  refine⟨fun B rd c T S ex T' hS hc=>zcz (zmJ D fns n) c T T' S ex hS hc,fun B f args H h cr H' hh hc=>?_,fun B f args pv H h pv' H' hh hc=>zoS hh hc⟩;simp only[ztU]at hc;simp only[zrd,zq9];rw[show zqd H=zaP h from funext (zlT hh)]at hc;cases ho:D (zaP h) f args with
  | some y=>
   rw[ho]at hc;obtain⟨h',g1,g2⟩:=ztF hh hc;exact⟨h',by simp only[qaJ,zwG,g1],g2⟩
  | none=>
   rw[ho]at hc;exact zpp (zmJ D fns n) hh hc
def zmh:Option (CR×HY)→Bool
 | some (.ret (.lit (.bool b)),_)=>b
 | _=>false
def HY.empty:HY:=⟨0,.leaf⟩
def noD:Dcd:=fun _ _ _=>none
theorem zvK(P:Program):zqq P (zq9 noD):=fun _ _ _ _ _ _ h=>(by cases h)
theorem zjp{P:Program}(hm:P.follows .mixedOrders=true){fns:Nat→Option Fn}(htab:∀ f fn,fns f=some fn→znv P f fn){D:Dcd}(ho:zqq P (zq9 D)){n f:Nat}
  (h:zmh ((ztU D fns n).call 0 f [] HY.empty)=true) (w:World):
  Calls P f #[] w fun e w'=>e=.returned (.bool true)∧Go.RowKit.Below w.heap.size w w':=by
 have hok:=zmz hm htab ho n;cases hc0:(ztU D fns n).call 0 f [] HY.empty with
 | none=>rw[hc0]at h; cases h
 | some res=>
  rw[hc0]at h;obtain⟨cr,H'⟩:=res;obtain⟨h',hc,_⟩:=(zmJ D fns n).call _ _ _ _ [] _ _ ⟨rfl,fun k=>by simp[HY.empty,Tr.get]⟩ hc0;have hS:Sim P 0 w (fun _=>none) [] w:=⟨qal _,Go.RowKit.Below.refl _ _,by simp,by simp,by simp,by simp,by simp⟩;obtain⟨_,hcalls⟩:=(hok.call _ _ _ _ _ _ hc).1 w (fun _=>none) w #[] hS ⟨rfl,by simp⟩;have hw:CallsIn Fence.wide 0 P f #[] w (zot P 0 w (fun _=>none) cr h'):=hcalls;refine Calls.mono (callsIn_wide.1 hw) fun e w' hp=>?_
  obtain⟨ι',_,hS',hp⟩:=hp;unfold zmh at h;split at h
  ·rename_i b h2 heq;cases heq;obtain⟨u,rfl,hv⟩:=hp;cases hv;subst h;exact⟨rfl,hS'.below⟩
  cases h
end Go.Mx
