/-
 The machine with tries: code, calls, runs. Conditions: none.
-/
import Derived.Test.YtbjogdohfhdaiaaGreatESMx21
set_option linter.unusedSimpArgs false
set_option linter.unusedVariables false
namespace Go.Mx
open Go
def zz0(x:Option (Ex×TY))(k:KY):Option (Ex×TY):=
 match x with
 | some (.normal,T')=>k T'
 | x=>x
def zyM(b:Option Bool)(x y:KY)(T:TY):Option (Ex×TY):=
 match b with
 | some true=>x T
 | some false=>y T
 | none=>none
def zvN(id:Nat)(x:Option (Ex×TY)):Option (Ex×TY):=
 match x with
 | some (.exit id',T')=>bif Nat.beq id' id then some (.normal,T')else some (.exit id',T')
 | x=>x
def zxb(rd:Option Nat)(H:HY):Bool:=
 match rd with
 | none=>true
 | some l=>match H.t.get l with
  | some (.loop ..)=>true
  | _=>false
theorem zuq{H:HY}{h:zaj}(hh:zeE H h)(rd:Option Nat):zxb rd H=zrS rd h:=by
 cases rd with
 | none=>rfl
 | some l=>simp only[zxb,zrS,hh.2]; rfl
def zqI{α:Type}(rd:Option Nat)(T:TY)(k:List Df→HY→Option α):Option α:=
 match rd with
 | none=>znI T.hp .dfr fun n H=>k (.coll n :: T.dfs) H
 | some _=>k T.dfs T.hp
theorem zpA{α:Type}{T:TY}{S:St}(hS:RY T S){rd:Option Nat}{k:List Df→HY→Option α}{x:α}(hc:zqI rd T k=some x):∃ H,zeE H (zbH rd S)∧k (zgU rd S) H=some x:=by
 cases rd with
 | none=>
  obtain⟨H,g1,g2⟩:=zhL hS.2.2.2 hc;exact⟨H,g1,by rw[hS.2.2.1]at g2; exact g2⟩
 | some l=>exact⟨T.hp,hS.2.2.2,by rw[← show T.dfs=zgU (some l) S from hS.2.2.1]; exact hc⟩
def zwC(T:TY)(ds:List Df)(n:Nat)(x:Option (CR×HY)):Option (Ex×TY):=
 match x with
 | some (.ret _,h)=>(match h.t.get n with
  | some (.loop true none _ _ _ _)=>zko h n .dead fun h'=>some (.normal,⟨T.N,T.env,ds,h'⟩)
  | some (.loop false (some j) _ _ _ _)=>zko h n .dead fun h'=>some (zst j,⟨T.N,T.env,ds,h'⟩)
  | _=>none)
 | some (.pan v,h)=>some (.panic v true,⟨T.N,T.env,ds,h⟩)
 | none=>none
def zvM(r:RecY)(B:Nat)(rd:Option Nat)(v:Option V)(ps:List Nat)(asg body:C)(T:TY):Option (Ex×TY):=
 match v with
 | some (.clo gf first cap)=>bif zxb rd T.hp then zqI rd T fun ds H=>zcH (zxk T) fun env=>znI H (.loop true none env ps asg body) fun n H'=>
   zcH (first ++ [.yld n]++ cap) fun args=>zwC T ds n (r.call B gf args H')else none
 | _=>none
def zd3(r:RecY)(B:Nat)(rd:Option Nat):C→KY
 | .skip=>fun T=>some (.normal,T)
 | .label _=>fun T=>some (.normal,T)
 | .reg dr bar os=>zj5 r B bar rd.isNone (!dr) os
 | .seq a b=>fun T=>zz0 (zd3 r B rd a T) (zd3 r B rd b)
 | .cond x a b=>fun T=>zyM (zoA (evY T x)) (zd3 r B rd a) (zd3 r B rd b) T
 | .block id c=>fun T=>zvN id (zd3 r B rd c T)
 | .loop c=>fun T=>zz0 (zd3 r B rd c T) (r.code B rd (.loop c))
 | .scope c=>zd3 r B rd c
 | .exit id=>fun T=>some (.exit id,T)
 | .ret=>fun T=>some (.ret,T)
 | .zdN x ps asg body=>fun T=>zvM r B rd (evY T x) ps asg body T
 | .bad=>fun _=>none
theorem zts{T:TY}{S:St}(h:RY T S)(x:X):zoA (evY T x)=evB S.env x:=by simp only[zoA,evB,zis h]; rfl
theorem zcl{rY:RecY}{r:Rec}(hr:RRY rY r){B:Nat}{rd:Option Nat}:∀(c:C) (T T':TY) (S:St) (ex:Ex),RY T S→zd3 rY B rd c T=some (ex,T')→∃ S',exec r B rd c S=some (ex,S')∧RY T' S'
 | .skip,T,T',S,ex,hS,hc=>by simp only[zd3,qad,qag]at hc; obtain⟨rfl,rfl⟩:=hc; exact⟨S,rfl,hS⟩
 | .label _,T,T',S,ex,hS,hc=>by simp only[zd3,qad,qag]at hc; obtain⟨rfl,rfl⟩:=hc; exact⟨S,rfl,hS⟩
 | .exit _,T,T',S,ex,hS,hc=>by simp only[zd3,qad,qag]at hc; obtain⟨rfl,rfl⟩:=hc; exact⟨S,rfl,hS⟩
 | .ret,T,T',S,ex,hS,hc=>by simp only[zd3,qad,qag]at hc; obtain⟨rfl,rfl⟩:=hc; exact⟨S,rfl,hS⟩
 | .reg dr bar os,T,T',S,ex,hS,hc=>zju hr os T S hS hc
 | .seq a b,T,T',S,ex,hS,hc=>by
  simp only[zd3,zz0]at hc;simp only[exec];split at hc
  ·rename_i T1 hx;obtain⟨S1,g1,g2⟩:=zcl hr a T T1 S _ hS hx;rw[g1];exact zcl hr b T1 T' S1 ex g2 hc
  ·rename_i x hx;obtain⟨S1,g1,g2⟩:=zcl hr a T T' S ex hS hc;rw[g1];cases ex with
   | normal=>exact absurd hc (hx T')
   | _=>exact⟨S1,rfl,g2⟩
 | .cond x a b,T,T',S,ex,hS,hc=>by
  simp only[zd3,zyM,zts hS]at hc;simp only[exec];split at hc
  ·rename_i hb;rw[hb];exact zcl hr a T T' S ex hS hc
  ·rename_i hb;rw[hb];exact zcl hr b T T' S ex hS hc
  ·cases hc
 | .block id c,T,T',S,ex,hS,hc=>by
  simp only[zd3,zvN]at hc;simp only[exec];split at hc
  ·rename_i id' T1 hx;obtain⟨S1,g1,g2⟩:=zcl hr c T T1 S _ hS hx;rw[g1];simp only[zni]at hc ⊢;cases hid:(id' == id)<;> simp only[hid,cond_true,cond_false,qad,qag]at hc ⊢<;>(obtain⟨rfl,rfl⟩:=hc; exact⟨S1,⟨rfl,rfl⟩,g2⟩)
  ·rename_i x hx;obtain⟨S1,g1,g2⟩:=zcl hr c T T' S ex hS hc;rw[g1];cases ex with
   | exit id'=>exact absurd hc (hx id' T')
   | _=>exact⟨S1,rfl,g2⟩
 | .loop c,T,T',S,ex,hS,hc=>by
  simp only[zd3,zz0]at hc;simp only[exec];split at hc
  ·rename_i T1 hx;obtain⟨S1,g1,g2⟩:=zcl hr c T T1 S _ hS hx;rw[g1];exact hr.code _ _ _ _ _ _ _ g2 hc
  ·rename_i x hx;obtain⟨S1,g1,g2⟩:=zcl hr c T T' S ex hS hc;rw[g1];cases ex with
   | normal=>exact absurd hc (hx T')
   | _=>exact⟨S1,rfl,g2⟩
 | .scope c,T,T',S,ex,hS,hc=>zcl hr c T T' S ex hS hc
 | .zdN x ps asg body,T,T',S,ex,hS,hc=>by
  simp only[zd3,zvM,zis hS,zuq hS.2.2.2,zck,zuC hS]at hc;simp only[exec];split at hc
  ·rename_i gf first cap hx
   rw[hx];cases hok:zrS rd S.heap with
   | false=>rw[hok,cond_false]at hc; cases hc
   | true=>
    rw[hok,cond_true]at hc;simp only[qa8,cond_false];obtain⟨H1,g1,g2⟩:=zpA hS hc;obtain⟨H2,g3,g4⟩:=zhL g1 g2;cases hcall:rY.call B gf (first ++ [.yld (zbH rd S).length]++ cap) H2 with
    | none=>rw[hcall]at g4; cases g4
    | some res=>
     obtain⟨cr,H3⟩:=res;rw[hcall]at g4;obtain⟨h3,k1,k2⟩:=hr.call _ _ _ _ _ _ _ g3 hcall;rw[k1];cases cr with
     | ret v=>
      simp only[zwC]at g4;simp only[];rw[k2.2]at g4;split at g4
      ·rename_i hh;rw[hh];obtain⟨H4,m1,m2⟩:=zeq k2 g4;simp only[qad,qag]at m2;obtain⟨rfl,rfl⟩:=m2;exact⟨_,rfl,hS.1,hS.2.1,rfl,m1⟩
      ·rename_i hh;rw[hh];obtain⟨H4,m1,m2⟩:=zeq k2 g4;simp only[qad,qag]at m2;obtain⟨rfl,rfl⟩:=m2;exact⟨_,rfl,hS.1,hS.2.1,rfl,m1⟩
      ·cases g4
     | pan v=>
      simp only[zwC,qad,qag]at g4;obtain⟨rfl,rfl⟩:=g4;exact⟨_,rfl,hS.1,hS.2.1,rfl,k2⟩
  ·cases hc
 | .bad,T,T',S,ex,hS,hc=>by cases hc
def ziy(r:RecY)(B:Nat)(pv:Option V):List Df→HY→Option (Option V×HY)
 | [],h=>some (pv,h)
 | .coll d :: ds,h=>(match h.t.get d with
  | some .dfr=>bif Nat.ble B d then zko h d .dead fun h'=>ziy r B pv ds h' else none
  | _=>none)
 | .fn f args :: ds,h=>(match r.dcall B f args pv h with
  | some (pv',h')=>ziy r B pv' ds h'
  | none=>none)
theorem zgh{rY:RecY}{r:Rec}(hr:RRY rY r){B:Nat}{pv':Option V}{H':HY}:∀(ds:List Df) (pv:Option V) (H:HY) (h:zaj),zeE H h→ziy rY B pv ds H=some (pv',H')→∃ h',leave r B pv ds h=some (pv',h')∧zeE H' h'
 | [],pv,H,h,hh,hc=>by
  simp only[ziy,qad,qag]at hc;obtain⟨rfl,rfl⟩:=hc;exact⟨h,rfl,hh⟩
 | .coll d :: ds,pv,H,h,hh,hc=>by
  simp only[ziy,hh.2]at hc;simp only[leave];split at hc
  ·rename_i hd;rw[hd];simp only[];cases hB:Nat.ble B d with
   | false=>rw[hB,cond_false]at hc; cases hc
   | true=>
    rw[hB,cond_true]at hc;simp only[cond_true];obtain⟨H1,g1,g2⟩:=zeq hh hc;exact zgh hr ds pv H1 _ g1 g2
  ·cases hc
 | .fn f args :: ds,pv,H,h,hh,hc=>by
  simp only[ziy]at hc;simp only[leave];split at hc
  ·rename_i pv1 H1 hd;obtain⟨h1,g1,g2⟩:=hr.dcall _ _ _ _ _ _ _ _ hh hd;rw[g1];exact zgh hr ds pv1 H1 h1 g2 hc
  cases hc
def zj0(H:HY)(T:TY):RX→Option V
 | .tmp k=>zuG T k
 | .cell k n=>zoF (zuG T k) H n
def zj9{α:Type}(H:HY)(T:TY)(k:List V→Option α):List RX→Option α
 | []=>k []
 | x :: r=>match zj0 H T x with
  | some v=>fcX v fun v'=>zj9 H T (fun vs=>k (v' :: vs)) r
  | none=>none
theorem zp9{α:Type}{H:HY}{h:zaj}(hh:zeE H h){T:TY}{S:St}(hS:RY T S):∀(l:List RX) (k:List V→Option α),zj9 H T k l=(zb1 h S.env l).bind k:=by
 have one:∀ x,zj0 H T x=zfx h S.env x:=by
  intro x;rw[← zpK];cases x with
  | tmp k=>simp only[zj0,zio,hS.2.1,zgm]
  | cell k n=>
   simp only[zj0,zio,hS.2.1,zgm,zoF,znK hh,zti];rfl
 intro l;induction l with
 | nil=>intro k; rfl
 | cons x r ih=>
  intro k;simp only[zj9,zb1,one,zvT,ih];cases zfx h S.env x<;>cases zb1 h S.env r<;>rfl
def zr4(r:RecY)(B:Nat)(fn:Fn)(pv:Option V)(e:Bool)(T:TY):Option (CR×HY):=
 match ziy r B pv T.dfs T.hp with
 | some (none,h)=>bif !e then none else zj9 h T (fun vs=>some (.ret (zfu vs),h)) fn.rs
 | some (some v,h)=>some (.pan v,h)
 | none=>none
theorem zkJ{rY:RecY}{r:Rec}(hr:RRY rY r){B:Nat}{fn:Fn}{pv:Option V}{e:Bool}{T:TY}{S:St}{cr:CR}{H':HY}(hS:RY T S)(hc:zr4 rY B fn pv e T=some (cr,H')):∃ h',fin r B fn pv e S=some (cr,h')∧zeE H' h':=by
 unfold zr4 at hc;unfold fin;rw[hS.2.2.1]at hc;split at hc
 ·rename_i H hl;obtain⟨h,g1,g2⟩:=zgh hr _ _ _ _ hS.2.2.2 hl;rw[g1];cases e with
  | false=>simp only[qbO,cond_true]at hc; cases hc
  | true=>
   simp only[qa8,cond_false]at hc ⊢;rw[zp9 g2 hS]at hc;cases hx:zb1 h S.env fn.rs with
   | none=>rw[hx]at hc; cases hc
   | some vs=>
    rw[hx]at hc;simp only[qaa,qad,qag]at hc;obtain⟨rfl,rfl⟩:=hc;exact⟨h,rfl,g2⟩
 ·rename_i v H hl;obtain⟨h,g1,g2⟩:=zgh hr _ _ _ _ hS.2.2.2 hl;rw[g1];simp only[qad,qag]at hc;obtain⟨rfl,rfl⟩:=hc;exact⟨h,rfl,g2⟩
 cases hc
def zBZ(r:RecY)(B:Nat)(fn:Fn)(x:Option (Ex×TY)):Option (CR×HY):=
 match x with
 | some (.normal,S)=>zr4 r B fn none true S
 | some (.ret,S)=>zr4 r B fn none true S
 | some (.panic v e,S)=>zr4 r B fn (some v) e S
 | _=>none
def ztb(r:RecY)(fn:Fn)(B:Nat)(args:List V)(H:HY):Option (CR×HY):=
 bif Nat.ble args.length fn.N then zcS fn.N fun N=>zvp args 0 .leaf fun t=>zBZ r B fn (zd3 r B none fn.c ⟨N,t,[],H⟩)else none
theorem zsI{args:List V}{N:Nat}(hN:args.length≤N){t:Tr V}(h:∀ j,t.get j=if 0≤j∧j<0+args.length then args[j - 0]? else(Tr.leaf:Tr V).get j){H:HY}{hp:zaj}(hh:zeE H hp):
  RY ⟨N,t,[],H⟩ ⟨args ++ List.replicate (N - args.length) zaT,[],hp⟩:=by
 refine⟨by simp; omega,fun k=>?_,rfl,hh⟩;simp only[zuG,h,qbk,qcx];by_cases hk:k<args.length
 ·rw[if_pos (by omega),qcU,if_pos hk,qac hk]
 rw[if_neg (by omega),if_neg hk];simp only[Tr.get,zfl];by_cases hk2:k<N
 ·rw[if_pos (by omega)]; simp[hk2]
 rw[if_neg (by omega)]; simp[hk2]
theorem zox{rY:RecY}{r:Rec}(hr:RRY rY r){B:Nat}{fn:Fn}{args:List V}{H H':HY}{h:zaj}(hh:zeE H h){cr:CR}(hc:ztb rY fn B args H=some (cr,H')):∃ h',body r fn B args h=some (cr,h')∧zeE H' h':=by
 unfold ztb at hc;unfold body;cases hle:Nat.ble args.length fn.N with
 | false=>rw[hle,cond_false]at hc; cases hc
 | true=>
  rw[hle,cond_true,zbK]at hc;simp only[cond_true];obtain⟨t,g1,g2⟩:=zg4 _ _ _ _ hc;have hS:=zsI (qai hle) g2 hh;cases hx:zd3 rY B none fn.c ⟨fn.N,t,[],H⟩with
  | none=>rw[hx]at g1; cases g1
  | some res=>
   obtain⟨ex,T'⟩:=res;obtain⟨S',k1,k2⟩:=zcl hr _ _ _ _ _ hS hx;rw[hx]at g1;rw[k1];cases ex with
   | normal=>exact zkJ hr k2 g1
   | ret=>exact zkJ hr k2 g1
   | panic v e=>exact zkJ hr k2 g1
   | exit id=>cases g1
def znt(H:HY)(x:Option (CR×HY)):Option (CR×HY):=
 match x with
 | some (.ret v,_)=>bif v.plain then some (.ret v,H)else none
 | some (.pan v,_)=>bif v.plain then some (.pan v,H)else none
 | none=>none
def zyZ(r:RecY)(fn:Fn)(B:Nat)(args:List V)(H:HY):Option (CR×HY):=bif Nat.ble B H.n then znt H (ztb r fn H.n args H)else none
def zqY(r:RecY)(fns:Nat→Option Fn)(B:Nat)(f:Nat)(args:List V)(H:HY):Option (CR×HY):=
 match fns f with
 | some fn=>bif fn.p then zyZ r fn B args H else ztb r fn B args H
 | none=>none
theorem ztm{rY:RecY}{r:Rec}(hr:RRY rY r){fns:Nat→Option Fn}{B f:Nat}{args:List V}{H H':HY}{h:zaj}(hh:zeE H h){cr:CR}(hc:zqY rY fns B f args H=some (cr,H')):∃ h',zht r fns B f args h=some (cr,h')∧zeE H' h':=by
 unfold zqY at hc;unfold zht;split at hc
 ·rename_i fn hfn;rw[hfn];cases hp:fn.p with
  | false=>
   rw[hp,cond_false]at hc;simp only[hp,cond_false];exact zox hr hh hc
  | true=>
   rw[hp,cond_true]at hc;simp only[hp,cond_true];unfold zyZ at hc;rw[hh.1]at hc;cases hB:Nat.ble B h.length with
   | false=>rw[hB,cond_false]at hc; cases hc
   | true=>
    rw[hB,cond_true]at hc;simp only[cond_true];cases hb:ztb rY fn h.length args H with
    | none=>rw[hb]at hc; cases hc
    | some y=>
     obtain⟨cr1,H1⟩:=y;rw[hb]at hc;obtain⟨h1,g1,_⟩:=zox hr hh hb;rw[g1];cases cr1 with
     | ret v=>
      simp only[znt]at hc;simp only[forget];cases hv:v.plain with
      | false=>rw[hv,cond_false]at hc; cases hc
      | true=>
       rw[hv,cond_true]at hc;simp only[qad,qag]at hc;obtain⟨rfl,rfl⟩:=hc;exact⟨h,rfl,hh⟩
     | pan v=>
      simp only[znt]at hc;simp only[forget];cases hv:v.plain with
      | false=>rw[hv,cond_false]at hc; cases hc
      | true=>
       rw[hv,cond_true]at hc;simp only[qad,qag]at hc;obtain⟨rfl,rfl⟩:=hc;exact⟨h,rfl,hh⟩
 cases hc
def zsK(d:List V→Option V→zaj→Option (Option V×zaj))(args:List V)(pv:Option V)(H:HY):Option (Option V×HY):=
 match d args pv (zrf H)with
 | some (pv',h')=>zvp h' 0 .leaf fun t=>zcS h'.length fun n=>some (pv',⟨n,t⟩)
 | none=>none
theorem zir{l:zaj}{t:Tr Ob}(h:∀ j,t.get j=if 0≤j∧j<0+l.length then l[j - 0]? else(Tr.leaf:Tr Ob).get j):zeE ⟨l.length,t⟩ l:=by
 refine⟨rfl,fun k=>?_⟩;simp only[h];by_cases hk:k<l.length
 ·rw[if_pos (by omega),qcU]
 rw[if_neg (by omega),qaN (by omega)]; rfl
theorem zrL{d:List V→Option V→zaj→Option (Option V×zaj)}{args:List V}{pv pv':Option V}{H H':HY}{h:zaj}(hh:zeE H h)(hc:zsK d args pv H=some (pv',H')):∃ h',d args pv h=some (pv',h')∧zeE H' h':=by
 unfold zsK at hc;rw[zsk hh]at hc;split at hc
 ·rename_i pv1 h1 hd;obtain⟨t,g1,g2⟩:=zg4 _ _ _ _ hc;simp only[zbK,qad,qag]at g1;obtain⟨rfl,rfl⟩:=g1;exact⟨h1,hd,zir g2⟩
 cases hc
def RecY.none:RecY:=⟨fun _ _ _ _=>.none,fun _ _ _ _=>.none,fun _ _ _ _ _=>.none⟩
def znu:Option (CR×HY)→Bool
 | some (.ret (.lit (.bool b)),_)=>b
 | _=>false
def HY.empty:HY:=⟨0,.leaf⟩
end Go.Mx
