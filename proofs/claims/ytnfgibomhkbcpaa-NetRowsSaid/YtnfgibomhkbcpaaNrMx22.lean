/-
 The machine with tries: code, calls, runs. Conditions: none.
-/
import Derived.Test.YtnfgibomhkbcpaaNrMx21
set_option linter.unusedSimpArgs false
set_option linter.unusedVariables false
namespace Go.Mx
open Go
def zyt(x:Option (Ex×TY))(k:KY):Option (Ex×TY):=
 match x with
 | some (.normal,T')=>k T'
 | x=>x
def zwL(b:Option Bool)(x y:KY)(T:TY):Option (Ex×TY):=
 match b with
 | some true=>x T
 | some false=>y T
 | none=>none
def zub(id:Nat)(x:Option (Ex×TY)):Option (Ex×TY):=
 match x with
 | some (.exit id',T')=>bif Nat.beq id' id then some (.normal,T')else some (.exit id',T')
 | x=>x
def zu9(rd:Option Nat)(H:HY):Bool:=
 match rd with
 | none=>true
 | some l=>match H.t.get l with
  | some (.loop ..)=>true
  | _=>false
theorem zs5{H:HY}{h:zak}(hh:zeB H h)(rd:Option Nat):zu9 rd H=zr9 rd h:=by
 cases rd with
 | none=>rfl
 | some l=>simp only[zu9,zr9,hh.2]; rfl
def zqY{α:Type}(rd:Option Nat)(T:TY)(k:List Df→HY→Option α):Option α:=
 match rd with
 | none=>zjP T.hp .dfr fun n H=>k (.coll n :: T.dfs) H
 | some _=>k T.dfs T.hp
theorem zo4{α:Type}{T:TY}{S:St}(hS:RY T S){rd:Option Nat}{k:List Df→HY→Option α}{x:α}(hc:zqY rd T k=some x):∃ H,zeB H (zbR rd S)∧k (zgP rd S) H=some x:=by
 cases rd with
 | none=>
  obtain⟨H,g1,g2⟩:=zgA hS.2.2.2 hc;exact⟨H,g1,by rw[hS.2.2.1]at g2; exact g2⟩
 | some l=>exact⟨T.hp,hS.2.2.2,by rw[← show T.dfs=zgP (some l) S from hS.2.2.1]; exact hc⟩
def zv8(T:TY)(ds:List Df)(n:Nat)(x:Option (CR×HY)):Option (Ex×TY):=
 match x with
 | some (.ret _,h)=>(match h.t.get n with
  | some (.loop true none _ _ _ _)=>zkH h n .dead fun h'=>some (.normal,⟨T.N,T.env,ds,h'⟩)
  | some (.loop false (some j) _ _ _ _)=>zkH h n .dead fun h'=>some (zq0 j,⟨T.N,T.env,ds,h'⟩)
  | _=>none)
 | some (.pan v,h)=>some (.panic v true,⟨T.N,T.env,ds,h⟩)
 | none=>none
def zuN(r:RecY)(B:Nat)(rd:Option Nat)(v:Option V)(ps:List Nat)(asg body:C)(T:TY):Option (Ex×TY):=
 match v with
 | some (.clo gf first cap)=>bif zu9 rd T.hp then zqY rd T fun ds H=>zcX (zvp T) fun env=>zjP H (.loop true none env ps asg body) fun n H'=>
   zcX (first ++ [.yld n]++ cap) fun args=>zv8 T ds n (r.call B gf args H')else none
 | _=>none
def zed(r:RecY)(B:Nat)(rd:Option Nat):C→KY
 | .skip=>fun T=>some (.normal,T)
 | .label _=>fun T=>some (.normal,T)
 | .reg dr bar os=>zj5 r B bar rd.isNone (!dr) os
 | .seq a b=>fun T=>zyt (zed r B rd a T) (zed r B rd b)
 | .cond x a b=>fun T=>zwL (zoA (evY T x)) (zed r B rd a) (zed r B rd b) T
 | .block id c=>fun T=>zub id (zed r B rd c T)
 | .loop c=>fun T=>zyt (zed r B rd c T) (r.code B rd (.loop c))
 | .scope c=>zed r B rd c
 | .exit id=>fun T=>some (.exit id,T)
 | .ret=>fun T=>some (.ret,T)
 | .zd4 x ps asg body=>fun T=>zuN r B rd (evY T x) ps asg body T
 | .bad=>fun _=>none
theorem zsI{T:TY}{S:St}(h:RY T S)(x:X):zoA (evY T x)=evB S.env x:=by simp only[zoA,evB,zh5 h]; rfl
theorem zcy{rY:RecY}{r:Rec}(hr:RRY rY r){B:Nat}{rd:Option Nat}:∀(c:C) (T T':TY) (S:St) (ex:Ex),RY T S→zed rY B rd c T=some (ex,T')→∃ S',exec r B rd c S=some (ex,S')∧RY T' S'
 | .skip,T,T',S,ex,hS,hc=>by simp only[zed,qae,qag]at hc; obtain⟨rfl,rfl⟩:=hc; exact⟨S,rfl,hS⟩
 | .label _,T,T',S,ex,hS,hc=>by simp only[zed,qae,qag]at hc; obtain⟨rfl,rfl⟩:=hc; exact⟨S,rfl,hS⟩
 | .exit _,T,T',S,ex,hS,hc=>by simp only[zed,qae,qag]at hc; obtain⟨rfl,rfl⟩:=hc; exact⟨S,rfl,hS⟩
 | .ret,T,T',S,ex,hS,hc=>by simp only[zed,qae,qag]at hc; obtain⟨rfl,rfl⟩:=hc; exact⟨S,rfl,hS⟩
 | .reg dr bar os,T,T',S,ex,hS,hc=>ziE hr os T S hS hc
 | .seq a b,T,T',S,ex,hS,hc=>by
  simp only[zed,zyt]at hc;simp only[exec];split at hc
  ·rename_i T1 hx;obtain⟨S1,g1,g2⟩:=zcy hr a T T1 S _ hS hx;rw[g1];exact zcy hr b T1 T' S1 ex g2 hc
  ·rename_i x hx;obtain⟨S1,g1,g2⟩:=zcy hr a T T' S ex hS hc;rw[g1];cases ex with
   | normal=>exact absurd hc (hx T')
   | _=>exact⟨S1,rfl,g2⟩
 | .cond x a b,T,T',S,ex,hS,hc=>by
  simp only[zed,zwL,zsI hS]at hc;simp only[exec];split at hc
  ·rename_i hb;rw[hb];exact zcy hr a T T' S ex hS hc
  ·rename_i hb;rw[hb];exact zcy hr b T T' S ex hS hc
  ·cases hc
 | .block id c,T,T',S,ex,hS,hc=>by
  simp only[zed,zub]at hc;simp only[exec];split at hc
  ·rename_i id' T1 hx;obtain⟨S1,g1,g2⟩:=zcy hr c T T1 S _ hS hx;rw[g1];simp only[zmA]at hc ⊢;cases hid:(id' == id)<;> simp only[hid,cond_true,cond_false,qae,qag]at hc ⊢<;>(obtain⟨rfl,rfl⟩:=hc; exact⟨S1,⟨rfl,rfl⟩,g2⟩)
  ·rename_i x hx;obtain⟨S1,g1,g2⟩:=zcy hr c T T' S ex hS hc;rw[g1];cases ex with
   | exit id'=>exact absurd hc (hx id' T')
   | _=>exact⟨S1,rfl,g2⟩
 | .loop c,T,T',S,ex,hS,hc=>by
  simp only[zed,zyt]at hc;simp only[exec];split at hc
  ·rename_i T1 hx;obtain⟨S1,g1,g2⟩:=zcy hr c T T1 S _ hS hx;rw[g1];exact hr.code _ _ _ _ _ _ _ g2 hc
  ·rename_i x hx;obtain⟨S1,g1,g2⟩:=zcy hr c T T' S ex hS hc;rw[g1];cases ex with
   | normal=>exact absurd hc (hx T')
   | _=>exact⟨S1,rfl,g2⟩
 | .scope c,T,T',S,ex,hS,hc=>zcy hr c T T' S ex hS hc
 | .zd4 x ps asg body,T,T',S,ex,hS,hc=>by
  simp only[zed,zuN,zh5 hS,zs5 hS.2.2.2,zcu,zsU hS]at hc;simp only[exec];split at hc
  ·rename_i gf first cap hx
   rw[hx];cases hok:zr9 rd S.heap with
   | false=>rw[hok,cond_false]at hc; cases hc
   | true=>
    rw[hok,cond_true]at hc;simp only[qa7,cond_false];obtain⟨H1,g1,g2⟩:=zo4 hS hc;obtain⟨H2,g3,g4⟩:=zgA g1 g2;cases hcall:rY.call B gf (first ++ [.yld (zbR rd S).length]++ cap) H2 with
    | none=>rw[hcall]at g4; cases g4
    | some res=>
     obtain⟨cr,H3⟩:=res;rw[hcall]at g4;obtain⟨h3,k1,k2⟩:=hr.call _ _ _ _ _ _ _ g3 hcall;rw[k1];cases cr with
     | ret v=>
      simp only[zv8]at g4;simp only[];rw[k2.2]at g4;split at g4
      ·rename_i hh;rw[hh];obtain⟨H4,m1,m2⟩:=zel k2 g4;simp only[qae,qag]at m2;obtain⟨rfl,rfl⟩:=m2;exact⟨_,rfl,hS.1,hS.2.1,rfl,m1⟩
      ·rename_i hh;rw[hh];obtain⟨H4,m1,m2⟩:=zel k2 g4;simp only[qae,qag]at m2;obtain⟨rfl,rfl⟩:=m2;exact⟨_,rfl,hS.1,hS.2.1,rfl,m1⟩
      ·cases g4
     | pan v=>
      simp only[zv8,qae,qag]at g4;obtain⟨rfl,rfl⟩:=g4;exact⟨_,rfl,hS.1,hS.2.1,rfl,k2⟩
  ·cases hc
 | .bad,T,T',S,ex,hS,hc=>by cases hc
def zh0(r:RecY)(B:Nat)(pv:Option V):List Df→HY→Option (Option V×HY)
 | [],h=>some (pv,h)
 | .coll d :: ds,h=>(match h.t.get d with
  | some .dfr=>bif Nat.ble B d then zkH h d .dead fun h'=>zh0 r B pv ds h' else none
  | _=>none)
 | .fn f args :: ds,h=>(match r.dcall B f args pv h with
  | some (pv',h')=>zh0 r B pv' ds h'
  | none=>none)
theorem zgk{rY:RecY}{r:Rec}(hr:RRY rY r){B:Nat}{pv':Option V}{H':HY}:∀(ds:List Df) (pv:Option V) (H:HY) (h:zak),zeB H h→zh0 rY B pv ds H=some (pv',H')→∃ h',leave r B pv ds h=some (pv',h')∧zeB H' h'
 | [],pv,H,h,hh,hc=>by
  simp only[zh0,qae,qag]at hc;obtain⟨rfl,rfl⟩:=hc;exact⟨h,rfl,hh⟩
 | .coll d :: ds,pv,H,h,hh,hc=>by
  simp only[zh0,hh.2]at hc;simp only[leave];split at hc
  ·rename_i hd;rw[hd];simp only[];cases hB:Nat.ble B d with
   | false=>rw[hB,cond_false]at hc; cases hc
   | true=>
    rw[hB,cond_true]at hc;simp only[cond_true];obtain⟨H1,g1,g2⟩:=zel hh hc;exact zgk hr ds pv H1 _ g1 g2
  ·cases hc
 | .fn f args :: ds,pv,H,h,hh,hc=>by
  simp only[zh0]at hc;simp only[leave];split at hc
  ·rename_i pv1 H1 hd;obtain⟨h1,g1,g2⟩:=hr.dcall _ _ _ _ _ _ _ _ hh hd;rw[g1];exact zgk hr ds pv1 H1 h1 g2 hc
  cases hc
def zjz(H:HY)(T:TY):RX→Option V
 | .tmp k=>ztJ T k
 | .cell k n=>zoC (ztJ T k) H n
def zkf{α:Type}(H:HY)(T:TY)(k:List V→Option α):List RX→Option α
 | []=>k []
 | x :: r=>match zjz H T x with
  | some v=>fcX v fun v'=>zkf H T (fun vs=>k (v' :: vs)) r
  | none=>none
theorem zpO{α:Type}{H:HY}{h:zak}(hh:zeB H h){T:TY}{S:St}(hS:RY T S):∀(l:List RX) (k:List V→Option α),zkf H T k l=(zcm h S.env l).bind k:=by
 have one:∀ x,zjz H T x=zfE h S.env x:=by
  intro x;rw[← zpm];cases x with
  | tmp k=>simp only[zjz,ziq,hS.2.1,zgj]
  | cell k n=>
   simp only[zjz,ziq,hS.2.1,zgj,zoC,zny hh,zqw];rfl
 intro l;induction l with
 | nil=>intro k; rfl
 | cons x r ih=>
  intro k;simp only[zkf,zcm,one,zuB,ih];cases zfE h S.env x<;>cases zcm h S.env r<;>rfl
def zrL(r:RecY)(B:Nat)(fn:Fn)(pv:Option V)(e:Bool)(T:TY):Option (CR×HY):=
 match zh0 r B pv T.dfs T.hp with
 | some (none,h)=>bif !e then none else zkf h T (fun vs=>some (.ret (zfJ vs),h)) fn.rs
 | some (some v,h)=>some (.pan v,h)
 | none=>none
theorem zjG{rY:RecY}{r:Rec}(hr:RRY rY r){B:Nat}{fn:Fn}{pv:Option V}{e:Bool}{T:TY}{S:St}{cr:CR}{H':HY}(hS:RY T S)(hc:zrL rY B fn pv e T=some (cr,H')):∃ h',fin r B fn pv e S=some (cr,h')∧zeB H' h':=by
 unfold zrL at hc;unfold fin;rw[hS.2.2.1]at hc;split at hc
 ·rename_i H hl;obtain⟨h,g1,g2⟩:=zgk hr _ _ _ _ hS.2.2.2 hl;rw[g1];cases e with
  | false=>simp only[qbI,cond_true]at hc; cases hc
  | true=>
   simp only[qa7,cond_false]at hc ⊢;rw[zpO g2 hS]at hc;cases hx:zcm h S.env fn.rs with
   | none=>rw[hx]at hc; cases hc
   | some vs=>
    rw[hx]at hc;simp only[qaa,qae,qag]at hc;obtain⟨rfl,rfl⟩:=hc;exact⟨h,rfl,g2⟩
 ·rename_i v H hl;obtain⟨h,g1,g2⟩:=zgk hr _ _ _ _ hS.2.2.2 hl;rw[g1];simp only[qae,qag]at hc;obtain⟨rfl,rfl⟩:=hc;exact⟨h,rfl,g2⟩
 cases hc
def zAD(r:RecY)(B:Nat)(fn:Fn)(x:Option (Ex×TY)):Option (CR×HY):=
 match x with
 | some (.normal,S)=>zrL r B fn none true S
 | some (.ret,S)=>zrL r B fn none true S
 | some (.panic v e,S)=>zrL r B fn (some v) e S
 | _=>none
def zq1(r:RecY)(fn:Fn)(B:Nat)(args:List V)(H:HY):Option (CR×HY):=
 bif Nat.ble args.length fn.N then zdg fn.N fun N=>zwC args 0 .leaf fun t=>zAD r B fn (zed r B none fn.c ⟨N,t,[],H⟩)else none
theorem zqm{args:List V}{N:Nat}(hN:args.length≤N){t:Tr V}(h:∀ j,t.get j=if 0≤j∧j<0+args.length then args[j - 0]? else(Tr.leaf:Tr V).get j){H:HY}{hp:zak}(hh:zeB H hp):
  RY ⟨N,t,[],H⟩ ⟨args ++ List.replicate (N - args.length) zaV,[],hp⟩:=by
 refine⟨by simp; omega,fun k=>?_,rfl,hh⟩;simp only[ztJ,h,qbd,qcQ];by_cases hk:k<args.length
 ·rw[if_pos (by omega),qcw,if_pos hk,qad hk]
 rw[if_neg (by omega),if_neg hk];simp only[Tr.get,zfs];by_cases hk2:k<N
 ·rw[if_pos (by omega)]; simp[hk2]
 rw[if_neg (by omega)]; simp[hk2]
theorem znY{rY:RecY}{r:Rec}(hr:RRY rY r){B:Nat}{fn:Fn}{args:List V}{H H':HY}{h:zak}(hh:zeB H h){cr:CR}(hc:zq1 rY fn B args H=some (cr,H')):∃ h',body r fn B args h=some (cr,h')∧zeB H' h':=by
 unfold zq1 at hc;unfold body;cases hle:Nat.ble args.length fn.N with
 | false=>rw[hle,cond_false]at hc; cases hc
 | true=>
  rw[hle,cond_true,zcj]at hc;simp only[cond_true];obtain⟨t,g1,g2⟩:=zjs _ _ _ _ hc;have hS:=zqm (qaf hle) g2 hh;cases hx:zed rY B none fn.c ⟨fn.N,t,[],H⟩with
  | none=>rw[hx]at g1; cases g1
  | some res=>
   obtain⟨ex,T'⟩:=res;obtain⟨S',k1,k2⟩:=zcy hr _ _ _ _ _ hS hx;rw[hx]at g1;rw[k1];cases ex with
   | normal=>exact zjG hr k2 g1
   | ret=>exact zjG hr k2 g1
   | panic v e=>exact zjG hr k2 g1
   | exit id=>cases g1
def zmW(H:HY)(x:Option (CR×HY)):Option (CR×HY):=
 match x with
 | some (.ret v,_)=>bif v.plain then some (.ret v,H)else none
 | some (.pan v,_)=>bif v.plain then some (.pan v,H)else none
 | none=>none
def zyp(r:RecY)(fn:Fn)(B:Nat)(args:List V)(H:HY):Option (CR×HY):=bif Nat.ble B H.n then zmW H (zq1 r fn H.n args H)else none
def zsl(r:RecY)(fns:Nat→Option Fn)(B:Nat)(f:Nat)(args:List V)(H:HY):Option (CR×HY):=
 match fns f with
 | some fn=>bif fn.p then zyp r fn B args H else zq1 r fn B args H
 | none=>none
theorem zsA{rY:RecY}{r:Rec}(hr:RRY rY r){fns:Nat→Option Fn}{B f:Nat}{args:List V}{H H':HY}{h:zak}(hh:zeB H h){cr:CR}(hc:zsl rY fns B f args H=some (cr,H')):∃ h',zhi r fns B f args h=some (cr,h')∧zeB H' h':=by
 unfold zsl at hc;unfold zhi;split at hc
 ·rename_i fn hfn;rw[hfn];cases hp:fn.p with
  | false=>
   rw[hp,cond_false]at hc;simp only[hp,cond_false];exact znY hr hh hc
  | true=>
   rw[hp,cond_true]at hc;simp only[hp,cond_true];unfold zyp at hc;rw[hh.1]at hc;cases hB:Nat.ble B h.length with
   | false=>rw[hB,cond_false]at hc; cases hc
   | true=>
    rw[hB,cond_true]at hc;simp only[cond_true];cases hb:zq1 rY fn h.length args H with
    | none=>rw[hb]at hc; cases hc
    | some y=>
     obtain⟨cr1,H1⟩:=y;rw[hb]at hc;obtain⟨h1,g1,_⟩:=znY hr hh hb;rw[g1];cases cr1 with
     | ret v=>
      simp only[zmW]at hc;simp only[forget];cases hv:v.plain with
      | false=>rw[hv,cond_false]at hc; cases hc
      | true=>
       rw[hv,cond_true]at hc;simp only[qae,qag]at hc;obtain⟨rfl,rfl⟩:=hc;exact⟨h,rfl,hh⟩
     | pan v=>
      simp only[zmW]at hc;simp only[forget];cases hv:v.plain with
      | false=>rw[hv,cond_false]at hc; cases hc
      | true=>
       rw[hv,cond_true]at hc;simp only[qae,qag]at hc;obtain⟨rfl,rfl⟩:=hc;exact⟨h,rfl,hh⟩
 cases hc
def zrw(d:List V→Option V→zak→Option (Option V×zak))(args:List V)(pv:Option V)(H:HY):Option (Option V×HY):=
 match d args pv (zr6 H)with
 | some (pv',h')=>zwC h' 0 .leaf fun t=>zdg h'.length fun n=>some (pv',⟨n,t⟩)
 | none=>none
theorem zrg{l:zak}{t:Tr Ob}(h:∀ j,t.get j=if 0≤j∧j<0+l.length then l[j - 0]? else(Tr.leaf:Tr Ob).get j):zeB ⟨l.length,t⟩ l:=by
 refine⟨rfl,fun k=>?_⟩;simp only[h];by_cases hk:k<l.length
 ·rw[if_pos (by omega),qcw]
 rw[if_neg (by omega),qa4 (by omega)]; rfl
theorem zrN{d:List V→Option V→zak→Option (Option V×zak)}{args:List V}{pv pv':Option V}{H H':HY}{h:zak}(hh:zeB H h)(hc:zrw d args pv H=some (pv',H')):∃ h',d args pv h=some (pv',h')∧zeB H' h':=by
 unfold zrw at hc;rw[zrK hh]at hc;split at hc
 ·rename_i pv1 h1 hd;obtain⟨t,g1,g2⟩:=zjs _ _ _ _ hc;simp only[zcj,qae,qag]at g1;obtain⟨rfl,rfl⟩:=g1;exact⟨h1,hd,zrg g2⟩
 cases hc
structure Ans where
 res:Nat→CR
 new:Option Ob
abbrev Dcd:=(Nat→Option (List V))→Nat→List V→Option Ans
def Ans.ap(h:zak)(a:Ans):CR×zak:=
 match a.new with
 | none=>(a.res h.length,h)
 | some o=>(a.res h.length,h ++ [o])
def zsG(D:Dcd):Orc:=fun _ f args h=>(D (zaB h) f args).map (Ans.ap h)
def zyR(H:HY)(a:Ans):Option (CR×HY):=
 match a.new with
 | none=>some (a.res H.n,H)
 | some o=>zdg H.n fun m=>Tr.put o 40 H.t m fun t'=>zdg (Nat.succ m) fun n'=>some (a.res m,⟨n',t'⟩)
theorem zv2{H H':HY}{h:zak}(hh:zeB H h){a:Ans}{cr:CR}(hc:zyR H a=some (cr,H')):∃ h',a.ap h=(cr,h')∧zeB H' h':=by
 unfold zyR at hc;unfold Ans.ap;cases hn:a.new with
 | none=>
  rw[hn]at hc;simp only[qae,qag]at hc;obtain⟨rfl,rfl⟩:=hc;exact⟨h,by rw[hh.1],hh⟩
 | some o=>
  rw[hn]at hc;simp only[zcj]at hc;have hc2:zjP H o (fun m H2=>some (a.res m,H2))=some (cr,H'):=by
   simp only[zjP,zcj,zmu]; exact hc
  obtain⟨H2,g1,g2⟩:=zgA hh hc2;simp only[qae,qag]at g2;obtain⟨rfl,rfl⟩:=g2;exact⟨_,rfl,g1⟩
def zzS(x:Option Ans)(H:HY)(k:HY→Option (CR×HY)):Option (CR×HY):=
 match x with
 | some a=>zyR H a
 | none=>k H
def RecY.none:RecY:=⟨fun _ _ _ _=>.none,fun _ _ _ _=>.none,fun _ _ _ _ _=>.none⟩
def zv9(D:Dcd)(fns:Nat→Option Fn):Nat→RecY
 | 0=>RecY.none
 | n+1=>⟨zed (zv9 D fns n),fun B f args H=>zzS (D (zqB H) f args) H (zsl (zv9 D fns n) fns B f args),fun B f=>zrw (zm7 (zrm (zsG D) fns n) fns B f)⟩
theorem znn(D:Dcd)(fns:Nat→Option Fn):∀ n,RRY (zv9 D fns n) (zrm (zsG D) fns n)
 | 0=>⟨fun _ _ _ _ _ _ _ _ h=>(by cases h),fun _ _ _ _ _ _ _ _ h=>(by cases h),fun _ _ _ _ _ _ _ _ _ h=>(by cases h)⟩
 | n+1=>by
  refine⟨fun B rd c T S ex T' hS hc=>zcy (znn D fns n) c T T' S ex hS hc,fun B f args H h cr H' hh hc=>?_,fun B f args pv H h pv' H' hh hc=>zrN hh hc⟩;simp only[zv9]at hc;simp only[zrm,zsG];rw[show zqB H=zaB h from funext (zny hh)]at hc;cases ho:D (zaB h) f args with
  | some y=>
   rw[ho]at hc;obtain⟨h',g1,g2⟩:=zv2 hh hc;exact⟨h',by simp only[qaM,zqp,g1],g2⟩
  | none=>
   rw[ho]at hc;exact zsA (znn D fns n) hh hc
def znz:Option (CR×HY)→Bool
 | some (.ret (.lit (.bool b)),_)=>b
 | _=>false
def HY.empty:HY:=⟨0,.leaf⟩
def noD:Dcd:=fun _ _ _=>none
theorem zxP(P:Program):zfY P (zsG noD):=fun _ _ _ _ _ _ h=>(by cases h)
theorem zkE{P:Program}(hm:P.follows .mixedOrders=true){fns:Nat→Option Fn}(htab:∀ f fn,fns f=some fn→zk5 P f fn){D:Dcd}(ho:zfY P (zsG D)){n f:Nat}
  (h:znz ((zv9 D fns n).call 0 f [] HY.empty)=true) (w:World):
  Calls P f #[] w fun e w'=>e=.returned (.bool true)∧Go.RowKit.Below w.heap.size w w':=by
 have hok:=zmG hm htab ho n;cases hc0:(zv9 D fns n).call 0 f [] HY.empty with
 | none=>rw[hc0]at h; cases h
 | some res=>
  rw[hc0]at h;obtain⟨cr,H'⟩:=res;obtain⟨h',hc,_⟩:=(znn D fns n).call _ _ _ _ [] _ _ ⟨rfl,fun k=>by simp[HY.empty,Tr.get]⟩ hc0;have hS:Sim P 0 w (fun _=>none) [] w:=⟨qam _,Go.RowKit.Below.refl _ _,by simp,by simp,by simp,by simp,by simp⟩;obtain⟨_,hcalls⟩:=(hok.call _ _ _ _ _ _ hc).1.1 w (fun _=>none) w #[] hS ⟨rfl,by simp⟩;have hw:CallsIn Fence.wide 0 P f #[] w (zev P 0 w (fun _=>none) cr h'):=hcalls;refine Calls.mono (callsIn_wide.1 hw) fun e w' hp=>?_
  obtain⟨ι',_,hS',hp⟩:=hp;unfold znz at h;split at h
  ·rename_i b h2 heq;cases heq;obtain⟨u,rfl,hv⟩:=hp;cases hv;subst h;exact⟨rfl,hS'.below⟩
  cases h
end Go.Mx
