/-
 The machine with tries: code, calls, runs. Conditions: none.
-/
import Derived.Test.YtnfgibomhkbcpaaNfMx21
set_option linter.unusedSimpArgs false
set_option linter.unusedVariables false
namespace Go.Mx
open Go
def zyg(x:Option (Ex×TY))(k:KY):Option (Ex×TY):=
 match x with
 | some (.normal,T')=>k T'
 | x=>x
def zwY(b:Option Bool)(x y:KY)(T:TY):Option (Ex×TY):=
 match b with
 | some true=>x T
 | some false=>y T
 | none=>none
def zt2(id:Nat)(x:Option (Ex×TY)):Option (Ex×TY):=
 match x with
 | some (.exit id',T')=>bif Nat.beq id' id then some (.normal,T')else some (.exit id',T')
 | x=>x
def zvb(rd:Option Nat)(H:HY):Bool:=
 match rd with
 | none=>true
 | some l=>match H.t.get l with
  | some (.loop ..)=>true
  | _=>false
theorem zs4{H:HY}{h:zap}(hh:zeK H h)(rd:Option Nat):zvb rd H=zrD rd h:=by
 cases rd with
 | none=>rfl
 | some l=>simp only[zvb,zrD,hh.2]; rfl
def zqj{α:Type}(rd:Option Nat)(T:TY)(k:List Df→HY→Option α):Option α:=
 match rd with
 | none=>zjm T.hp .dfr fun n H=>k (.coll n :: T.dfs) H
 | some _=>k T.dfs T.hp
theorem zoM{α:Type}{T:TY}{S:St}(hS:RY T S){rd:Option Nat}{k:List Df→HY→Option α}{x:α}(hc:zqj rd T k=some x):∃ H,zeK H (zbW rd S)∧k (zgL rd S) H=some x:=by
 cases rd with
 | none=>
  obtain⟨H,g1,g2⟩:=zgj hS.2.2.2 hc;exact⟨H,g1,by rw[hS.2.2.1]at g2; exact g2⟩
 | some l=>exact⟨T.hp,hS.2.2.2,by rw[← show T.dfs=zgL (some l) S from hS.2.2.1]; exact hc⟩
def zu9(T:TY)(ds:List Df)(n:Nat)(x:Option (CR×HY)):Option (Ex×TY):=
 match x with
 | some (.ret _,h)=>(match h.t.get n with
  | some (.loop true none _ _ _ _)=>zjj h n .dead fun h'=>some (.normal,⟨T.N,T.env,ds,h'⟩)
  | some (.loop false (some j) _ _ _ _)=>zjj h n .dead fun h'=>some (zrC j,⟨T.N,T.env,ds,h'⟩)
  | _=>none)
 | some (.pan v,h)=>some (.panic v true,⟨T.N,T.env,ds,h⟩)
 | none=>none
def zue(r:RecY)(B:Nat)(rd:Option Nat)(v:Option V)(ps:List Nat)(asg body:C)(T:TY):Option (Ex×TY):=
 match v with
 | some (.clo gf first cap)=>bif zvb rd T.hp then zqj rd T fun ds H=>zc1 (zu5 T) fun env=>zjm H (.loop true none env ps asg body) fun n H'=>
   zc1 (first ++ [.yld n]++ cap) fun args=>zu9 T ds n (r.call B gf args H')else none
 | _=>none
def zep(r:RecY)(B:Nat)(rd:Option Nat):C→KY
 | .skip=>fun T=>some (.normal,T)
 | .label _=>fun T=>some (.normal,T)
 | .reg dr bar os=>zjq r B bar rd.isNone (!dr) os
 | .seq a b=>fun T=>zyg (zep r B rd a T) (zep r B rd b)
 | .cond x a b=>fun T=>zwY (znW (evY T x)) (zep r B rd a) (zep r B rd b) T
 | .block id c=>fun T=>zt2 id (zep r B rd c T)
 | .loop c=>fun T=>zyg (zep r B rd c T) (r.code B rd (.loop c))
 | .scope c=>zep r B rd c
 | .exit id=>fun T=>some (.exit id,T)
 | .ret=>fun T=>some (.ret,T)
 | .zex x ps asg body=>fun T=>zue r B rd (evY T x) ps asg body T
 | .bad=>fun _=>none
theorem zpI{T:TY}{S:St}(h:RY T S)(x:X):znW (evY T x)=evB S.env x:=by simp only[znW,evB,zhA h]; rfl
theorem zcI{rY:RecY}{r:Rec}(hr:RRY rY r){B:Nat}{rd:Option Nat}:∀(c:C) (T T':TY) (S:St) (ex:Ex),RY T S→zep rY B rd c T=some (ex,T')→∃ S',exec r B rd c S=some (ex,S')∧RY T' S'
 | .skip,T,T',S,ex,hS,hc=>by simp only[zep,qae,qag]at hc; obtain⟨rfl,rfl⟩:=hc; exact⟨S,rfl,hS⟩
 | .label _,T,T',S,ex,hS,hc=>by simp only[zep,qae,qag]at hc; obtain⟨rfl,rfl⟩:=hc; exact⟨S,rfl,hS⟩
 | .exit _,T,T',S,ex,hS,hc=>by simp only[zep,qae,qag]at hc; obtain⟨rfl,rfl⟩:=hc; exact⟨S,rfl,hS⟩
 | .ret,T,T',S,ex,hS,hc=>by simp only[zep,qae,qag]at hc; obtain⟨rfl,rfl⟩:=hc; exact⟨S,rfl,hS⟩
 | .reg dr bar os,T,T',S,ex,hS,hc=>zix hr os T S hS hc
 | .seq a b,T,T',S,ex,hS,hc=>by
  simp only[zep,zyg]at hc;simp only[exec];split at hc
  ·rename_i T1 hx;obtain⟨S1,g1,g2⟩:=zcI hr a T T1 S _ hS hx;rw[g1];exact zcI hr b T1 T' S1 ex g2 hc
  ·rename_i x hx;obtain⟨S1,g1,g2⟩:=zcI hr a T T' S ex hS hc;rw[g1];cases ex with
   | normal=>exact absurd hc (hx T')
   | _=>exact⟨S1,rfl,g2⟩
 | .cond x a b,T,T',S,ex,hS,hc=>by
  simp only[zep,zwY,zpI hS]at hc;simp only[exec];split at hc
  ·rename_i hb;rw[hb];exact zcI hr a T T' S ex hS hc
  ·rename_i hb;rw[hb];exact zcI hr b T T' S ex hS hc
  ·cases hc
 | .block id c,T,T',S,ex,hS,hc=>by
  simp only[zep,zt2]at hc;simp only[exec];split at hc
  ·rename_i id' T1 hx;obtain⟨S1,g1,g2⟩:=zcI hr c T T1 S _ hS hx;rw[g1];simp only[zmG]at hc ⊢;cases hid:(id' == id)<;> simp only[hid,cond_true,cond_false,qae,qag]at hc ⊢<;>(obtain⟨rfl,rfl⟩:=hc; exact⟨S1,⟨rfl,rfl⟩,g2⟩)
  ·rename_i x hx;obtain⟨S1,g1,g2⟩:=zcI hr c T T' S ex hS hc;rw[g1];cases ex with
   | exit id'=>exact absurd hc (hx id' T')
   | _=>exact⟨S1,rfl,g2⟩
 | .loop c,T,T',S,ex,hS,hc=>by
  simp only[zep,zyg]at hc;simp only[exec];split at hc
  ·rename_i T1 hx;obtain⟨S1,g1,g2⟩:=zcI hr c T T1 S _ hS hx;rw[g1];exact hr.code _ _ _ _ _ _ _ g2 hc
  ·rename_i x hx;obtain⟨S1,g1,g2⟩:=zcI hr c T T' S ex hS hc;rw[g1];cases ex with
   | normal=>exact absurd hc (hx T')
   | _=>exact⟨S1,rfl,g2⟩
 | .scope c,T,T',S,ex,hS,hc=>zcI hr c T T' S ex hS hc
 | .zex x ps asg body,T,T',S,ex,hS,hc=>by
  simp only[zep,zue,zhA hS,zs4 hS.2.2.2,zcC,ztm hS]at hc;simp only[exec];split at hc
  ·rename_i gf first cap hx
   rw[hx];cases hok:zrD rd S.heap with
   | false=>rw[hok,cond_false]at hc; cases hc
   | true=>
    rw[hok,cond_true]at hc;simp only[qa3,cond_false];obtain⟨H1,g1,g2⟩:=zoM hS hc;obtain⟨H2,g3,g4⟩:=zgj g1 g2;cases hcall:rY.call B gf (first ++ [.yld (zbW rd S).length]++ cap) H2 with
    | none=>rw[hcall]at g4; cases g4
    | some res=>
     obtain⟨cr,H3⟩:=res;rw[hcall]at g4;obtain⟨h3,k1,k2⟩:=hr.call _ _ _ _ _ _ _ g3 hcall;rw[k1];cases cr with
     | ret v=>
      simp only[zu9]at g4;simp only[];rw[k2.2]at g4;split at g4
      ·rename_i hh;rw[hh];obtain⟨H4,m1,m2⟩:=zez k2 g4;simp only[qae,qag]at m2;obtain⟨rfl,rfl⟩:=m2;exact⟨_,rfl,hS.1,hS.2.1,rfl,m1⟩
      ·rename_i hh;rw[hh];obtain⟨H4,m1,m2⟩:=zez k2 g4;simp only[qae,qag]at m2;obtain⟨rfl,rfl⟩:=m2;exact⟨_,rfl,hS.1,hS.2.1,rfl,m1⟩
      ·cases g4
     | pan v=>
      simp only[zu9,qae,qag]at g4;obtain⟨rfl,rfl⟩:=g4;exact⟨_,rfl,hS.1,hS.2.1,rfl,k2⟩
  ·cases hc
 | .bad,T,T',S,ex,hS,hc=>by cases hc
def zhp(r:RecY)(B:Nat)(pv:Option V):List Df→HY→Option (Option V×HY)
 | [],h=>some (pv,h)
 | .coll d :: ds,h=>(match h.t.get d with
  | some .dfr=>bif Nat.ble B d then zjj h d .dead fun h'=>zhp r B pv ds h' else none
  | _=>none)
 | .fn f args :: ds,h=>(match r.dcall B f args pv h with
  | some (pv',h')=>zhp r B pv' ds h'
  | none=>none)
theorem zgh{rY:RecY}{r:Rec}(hr:RRY rY r){B:Nat}{pv':Option V}{H':HY}:∀(ds:List Df) (pv:Option V) (H:HY) (h:zap),zeK H h→zhp rY B pv ds H=some (pv',H')→∃ h',leave r B pv ds h=some (pv',h')∧zeK H' h'
 | [],pv,H,h,hh,hc=>by
  simp only[zhp,qae,qag]at hc;obtain⟨rfl,rfl⟩:=hc;exact⟨h,rfl,hh⟩
 | .coll d :: ds,pv,H,h,hh,hc=>by
  simp only[zhp,hh.2]at hc;simp only[leave];split at hc
  ·rename_i hd;rw[hd];simp only[];cases hB:Nat.ble B d with
   | false=>rw[hB,cond_false]at hc; cases hc
   | true=>
    rw[hB,cond_true]at hc;simp only[cond_true];obtain⟨H1,g1,g2⟩:=zez hh hc;exact zgh hr ds pv H1 _ g1 g2
  ·cases hc
 | .fn f args :: ds,pv,H,h,hh,hc=>by
  simp only[zhp]at hc;simp only[leave];split at hc
  ·rename_i pv1 H1 hd;obtain⟨h1,g1,g2⟩:=hr.dcall _ _ _ _ _ _ _ _ hh hd;rw[g1];exact zgh hr ds pv1 H1 h1 g2 hc
  cases hc
def zjs(H:HY)(T:TY):RX→Option V
 | .tmp k=>ztJ T k
 | .cell k n=>zn5 (ztJ T k) H n
def zkj{α:Type}(H:HY)(T:TY)(k:List V→Option α):List RX→Option α
 | []=>k []
 | x :: r=>match zjs H T x with
  | some v=>fcX v fun v'=>zkj H T (fun vs=>k (v' :: vs)) r
  | none=>none
theorem zpv{α:Type}{H:HY}{h:zap}(hh:zeK H h){T:TY}{S:St}(hS:RY T S):∀(l:List RX) (k:List V→Option α),zkj H T k l=(zcw h S.env l).bind k:=by
 have one:∀ x,zjs H T x=zfE h S.env x:=by
  intro x;rw[← zo9];cases x with
  | tmp k=>simp only[zjs,zhO,hS.2.1,zf7]
  | cell k n=>
   simp only[zjs,zhO,hS.2.1,zf7,zn5,zm8 hh,zpO];rfl
 intro l;induction l with
 | nil=>intro k; rfl
 | cons x r ih=>
  intro k;simp only[zkj,zcw,one,zug,ih];cases zfE h S.env x<;>cases zcw h S.env r<;>rfl
def zqV(r:RecY)(B:Nat)(fn:Fn)(pv:Option V)(e:Bool)(T:TY):Option (CR×HY):=
 match zhp r B pv T.dfs T.hp with
 | some (none,h)=>bif !e then none else zkj h T (fun vs=>some (.ret (zfQ vs),h)) fn.rs
 | some (some v,h)=>some (.pan v,h)
 | none=>none
theorem zkg{rY:RecY}{r:Rec}(hr:RRY rY r){B:Nat}{fn:Fn}{pv:Option V}{e:Bool}{T:TY}{S:St}{cr:CR}{H':HY}(hS:RY T S)(hc:zqV rY B fn pv e T=some (cr,H')):∃ h',fin r B fn pv e S=some (cr,h')∧zeK H' h':=by
 unfold zqV at hc;unfold fin;rw[hS.2.2.1]at hc;split at hc
 ·rename_i H hl;obtain⟨h,g1,g2⟩:=zgh hr _ _ _ _ hS.2.2.2 hl;rw[g1];cases e with
  | false=>simp only[qbF,cond_true]at hc; cases hc
  | true=>
   simp only[qa3,cond_false]at hc ⊢;rw[zpv g2 hS]at hc;cases hx:zcw h S.env fn.rs with
   | none=>rw[hx]at hc; cases hc
   | some vs=>
    rw[hx]at hc;simp only[qaa,qae,qag]at hc;obtain⟨rfl,rfl⟩:=hc;exact⟨h,rfl,g2⟩
 ·rename_i v H hl;obtain⟨h,g1,g2⟩:=zgh hr _ _ _ _ hS.2.2.2 hl;rw[g1];simp only[qae,qag]at hc;obtain⟨rfl,rfl⟩:=hc;exact⟨h,rfl,g2⟩
 cases hc
def zAQ(r:RecY)(B:Nat)(fn:Fn)(x:Option (Ex×TY)):Option (CR×HY):=
 match x with
 | some (.normal,S)=>zqV r B fn none true S
 | some (.ret,S)=>zqV r B fn none true S
 | some (.panic v e,S)=>zqV r B fn (some v) e S
 | _=>none
def zp8(r:RecY)(fn:Fn)(B:Nat)(args:List V)(H:HY):Option (CR×HY):=
 bif Nat.ble args.length fn.N then zdB fn.N fun N=>zwa args 0 .leaf fun t=>zAQ r B fn (zep r B none fn.c ⟨N,t,[],H⟩)else none
theorem zpY{args:List V}{N:Nat}(hN:args.length≤N){t:Tr V}(h:∀ j,t.get j=if 0≤j∧j<0+args.length then args[j - 0]? else(Tr.leaf:Tr V).get j){H:HY}{hp:zap}(hh:zeK H hp):
  RY ⟨N,t,[],H⟩ ⟨args ++ List.replicate (N - args.length) zaU,[],hp⟩:=by
 refine⟨by simp; omega,fun k=>?_,rfl,hh⟩;simp only[ztJ,h,qbg,qcQ];by_cases hk:k<args.length
 ·rw[if_pos (by omega),qcZ,if_pos hk,qad hk]
 rw[if_neg (by omega),if_neg hk];simp only[Tr.get,zfw];by_cases hk2:k<N
 ·rw[if_pos (by omega)]; simp[hk2]
 rw[if_neg (by omega)]; simp[hk2]
theorem zop{rY:RecY}{r:Rec}(hr:RRY rY r){B:Nat}{fn:Fn}{args:List V}{H H':HY}{h:zap}(hh:zeK H h){cr:CR}(hc:zp8 rY fn B args H=some (cr,H')):∃ h',body r fn B args h=some (cr,h')∧zeK H' h':=by
 unfold zp8 at hc;unfold body;cases hle:Nat.ble args.length fn.N with
 | false=>rw[hle,cond_false]at hc; cases hc
 | true=>
  rw[hle,cond_true,zct]at hc;simp only[cond_true];obtain⟨t,g1,g2⟩:=zjx _ _ _ _ hc;have hS:=zpY (qaf hle) g2 hh;cases hx:zep rY B none fn.c ⟨fn.N,t,[],H⟩with
  | none=>rw[hx]at g1; cases g1
  | some res=>
   obtain⟨ex,T'⟩:=res;obtain⟨S',k1,k2⟩:=zcI hr _ _ _ _ _ hS hx;rw[hx]at g1;rw[k1];cases ex with
   | normal=>exact zkg hr k2 g1
   | ret=>exact zkg hr k2 g1
   | panic v e=>exact zkg hr k2 g1
   | exit id=>cases g1
def zmt(H:HY)(x:Option (CR×HY)):Option (CR×HY):=
 match x with
 | some (.ret v,_)=>bif v.plain then some (.ret v,H)else none
 | some (.pan v,_)=>bif v.plain then some (.pan v,H)else none
 | none=>none
def zxV(r:RecY)(fn:Fn)(B:Nat)(args:List V)(H:HY):Option (CR×HY):=bif Nat.ble B H.n then zmt H (zp8 r fn H.n args H)else none
def zpT(r:RecY)(fns:Nat→Option Fn)(B:Nat)(f:Nat)(args:List V)(H:HY):Option (CR×HY):=
 match fns f with
 | some fn=>bif fn.p then zxV r fn B args H else zp8 r fn B args H
 | none=>none
theorem zqL{rY:RecY}{r:Rec}(hr:RRY rY r){fns:Nat→Option Fn}{B f:Nat}{args:List V}{H H':HY}{h:zap}(hh:zeK H h){cr:CR}(hc:zpT rY fns B f args H=some (cr,H')):∃ h',zg2 r fns B f args h=some (cr,h')∧zeK H' h':=by
 unfold zpT at hc;unfold zg2;split at hc
 ·rename_i fn hfn;rw[hfn];cases hp:fn.p with
  | false=>
   rw[hp,cond_false]at hc;simp only[hp,cond_false];exact zop hr hh hc
  | true=>
   rw[hp,cond_true]at hc;simp only[hp,cond_true];unfold zxV at hc;rw[hh.1]at hc;cases hB:Nat.ble B h.length with
   | false=>rw[hB,cond_false]at hc; cases hc
   | true=>
    rw[hB,cond_true]at hc;simp only[cond_true];cases hb:zp8 rY fn h.length args H with
    | none=>rw[hb]at hc; cases hc
    | some y=>
     obtain⟨cr1,H1⟩:=y;rw[hb]at hc;obtain⟨h1,g1,_⟩:=zop hr hh hb;rw[g1];cases cr1 with
     | ret v=>
      simp only[zmt]at hc;simp only[forget];cases hv:v.plain with
      | false=>rw[hv,cond_false]at hc; cases hc
      | true=>
       rw[hv,cond_true]at hc;simp only[qae,qag]at hc;obtain⟨rfl,rfl⟩:=hc;exact⟨h,rfl,hh⟩
     | pan v=>
      simp only[zmt]at hc;simp only[forget];cases hv:v.plain with
      | false=>rw[hv,cond_false]at hc; cases hc
      | true=>
       rw[hv,cond_true]at hc;simp only[qae,qag]at hc;obtain⟨rfl,rfl⟩:=hc;exact⟨h,rfl,hh⟩
 cases hc
def zsk(d:List V→Option V→zap→Option (Option V×zap))(args:List V)(pv:Option V)(H:HY):Option (Option V×HY):=
 match d args pv (zrm H)with
 | some (pv',h')=>zwa h' 0 .leaf fun t=>zdB h'.length fun n=>some (pv',⟨n,t⟩)
 | none=>none
theorem zqO{l:zap}{t:Tr Ob}(h:∀ j,t.get j=if 0≤j∧j<0+l.length then l[j - 0]? else(Tr.leaf:Tr Ob).get j):zeK ⟨l.length,t⟩ l:=by
 refine⟨rfl,fun k=>?_⟩;simp only[h];by_cases hk:k<l.length
 ·rw[if_pos (by omega),qcZ]
 rw[if_neg (by omega),qbd (by omega)]; rfl
theorem zqi{d:List V→Option V→zap→Option (Option V×zap)}{args:List V}{pv pv':Option V}{H H':HY}{h:zap}(hh:zeK H h)(hc:zsk d args pv H=some (pv',H')):∃ h',d args pv h=some (pv',h')∧zeK H' h':=by
 unfold zsk at hc;rw[zrt hh]at hc;split at hc
 ·rename_i pv1 h1 hd;obtain⟨t,g1,g2⟩:=zjx _ _ _ _ hc;simp only[zct,qae,qag]at g1;obtain⟨rfl,rfl⟩:=g1;exact⟨h1,hd,zqO g2⟩
 cases hc
structure Ans where
 res:Nat→CR
 new:Option Ob
abbrev Dcd:=(Nat→Option (List V))→Nat→List V→Option Ans
def Ans.ap(h:zap)(a:Ans):CR×zap:=
 match a.new with
 | none=>(a.res h.length,h)
 | some o=>(a.res h.length,h ++ [o])
def zqh(D:Dcd):Orc:=fun _ f args h=>(D (zaC h) f args).map (Ans.ap h)
def zzu(H:HY)(a:Ans):Option (CR×HY):=
 match a.new with
 | none=>some (a.res H.n,H)
 | some o=>zdB H.n fun m=>Tr.put o 40 H.t m fun t'=>zdB (Nat.succ m) fun n'=>some (a.res m,⟨n',t'⟩)
theorem zv3{H H':HY}{h:zap}(hh:zeK H h){a:Ans}{cr:CR}(hc:zzu H a=some (cr,H')):∃ h',a.ap h=(cr,h')∧zeK H' h':=by
 unfold zzu at hc;unfold Ans.ap;cases hn:a.new with
 | none=>
  rw[hn]at hc;simp only[qae,qag]at hc;obtain⟨rfl,rfl⟩:=hc;exact⟨h,by rw[hh.1],hh⟩
 | some o=>
  rw[hn]at hc;simp only[zct]at hc;have hc2:zjm H o (fun m H2=>some (a.res m,H2))=some (cr,H'):=by
   simp only[zjm,zct,zmr]; exact hc
  obtain⟨H2,g1,g2⟩:=zgj hh hc2;simp only[qae,qag]at g2;obtain⟨rfl,rfl⟩:=g2;exact⟨_,rfl,g1⟩
def zAW(x:Option Ans)(H:HY)(k:HY→Option (CR×HY)):Option (CR×HY):=
 match x with
 | some a=>zzu H a
 | none=>k H
def RecY.none:RecY:=⟨fun _ _ _ _=>.none,fun _ _ _ _=>.none,fun _ _ _ _ _=>.none⟩
def zuQ(D:Dcd)(fns:Nat→Option Fn):Nat→RecY
 | 0=>RecY.none
 | n+1=>⟨zep (zuQ D fns n),fun B f args H=>zAW (D (zsb H) f args) H (zpT (zuQ D fns n) fns B f args),fun B f=>zsk (znc (zrM (zqh D) fns n) fns B f)⟩
theorem zmY(D:Dcd)(fns:Nat→Option Fn):∀ n,RRY (zuQ D fns n) (zrM (zqh D) fns n)
 | 0=>⟨fun _ _ _ _ _ _ _ _ h=>(by cases h),fun _ _ _ _ _ _ _ _ h=>(by cases h),fun _ _ _ _ _ _ _ _ _ h=>(by cases h)⟩
 | n+1=>by
  refine⟨fun B rd c T S ex T' hS hc=>zcI (zmY D fns n) c T T' S ex hS hc,fun B f args H h cr H' hh hc=>?_,fun B f args pv H h pv' H' hh hc=>zqi hh hc⟩;simp only[zuQ]at hc;simp only[zrM,zqh];rw[show zsb H=zaC h from funext (zm8 hh)]at hc;cases ho:D (zaC h) f args with
  | some y=>
   rw[ho]at hc;obtain⟨h',g1,g2⟩:=zv3 hh hc;exact⟨h',by simp only[qaQ,zqT,g1],g2⟩
  | none=>
   rw[ho]at hc;exact zqL (zmY D fns n) hh hc
def zmv:Option (CR×HY)→Bool
 | some (.ret (.lit (.bool b)),_)=>b
 | _=>false
def HY.empty:HY:=⟨0,.leaf⟩
def noD:Dcd:=fun _ _ _=>none
theorem zxB(P:Program):zgo P (zqh noD):=fun _ _ _ _ _ _ h=>(by cases h)
theorem zjp{P:Program}(hm:P.follows .mixedOrders=true){fns:Nat→Option Fn}(htab:∀ f fn,fns f=some fn→zkC P f fn){D:Dcd}(ho:zgo P (zqh D)){n f:Nat}
  (h:zmv ((zuQ D fns n).call 0 f [] HY.empty)=true) (w:World):
  Calls P f #[] w fun e w'=>e=.returned (.bool true)∧Go.RowKit.Below w.heap.size w w':=by
 have hok:=zmE hm htab ho n;cases hc0:(zuQ D fns n).call 0 f [] HY.empty with
 | none=>rw[hc0]at h; cases h
 | some res=>
  rw[hc0]at h;obtain⟨cr,H'⟩:=res;obtain⟨h',hc,_⟩:=(zmY D fns n).call _ _ _ _ [] _ _ ⟨rfl,fun k=>by simp[HY.empty,Tr.get]⟩ hc0;have hS:Sim P 0 w (fun _=>none) [] w:=⟨qaj _,Go.RowKit.Below.refl _ _,by simp,by simp,by simp,by simp,by simp⟩;obtain⟨_,hcalls⟩:=(hok.call _ _ _ _ _ _ hc).1.1 w (fun _=>none) w #[] hS ⟨rfl,by simp⟩;have hw:CallsIn Fence.wide 0 P f #[] w (zeB P 0 w (fun _=>none) cr h'):=hcalls;refine Calls.mono (callsIn_wide.1 hw) fun e w' hp=>?_
  obtain⟨ι',_,hS',hp⟩:=hp;unfold zmv at h;split at h
  ·rename_i b h2 heq;cases heq;obtain⟨u,rfl,hv⟩:=hp;cases hv;subst h;exact⟨rfl,hS'.below⟩
  cases h
end Go.Mx
