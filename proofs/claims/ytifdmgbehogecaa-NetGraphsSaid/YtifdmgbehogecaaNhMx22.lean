/-
 The machine with tries: code, calls, runs. Conditions: none.
-/
import Derived.Test.YtifdmgbehogecaaNhMx21
set_option linter.unusedSimpArgs false
set_option linter.unusedVariables false
namespace Go.Mx
open Go
def zv8(x:Option (Ex×TY))(k:KY):Option (Ex×TY):=
 match x with
 | some (.normal,T')=>k T'
 | x=>x
def zuo(b:Option Bool)(x y:KY)(T:TY):Option (Ex×TY):=
 match b with
 | some true=>x T
 | some false=>y T
 | none=>none
def zr8(id:Nat)(x:Option (Ex×TY)):Option (Ex×TY):=
 match x with
 | some (.exit id',T')=>bif Nat.beq id' id then some (.normal,T')else some (.exit id',T')
 | x=>x
def zsU(rd:Option Nat)(H:HY):Bool:=
 match rd with
 | none=>true
 | some l=>match H.t.get l with
  | some (.loop ..)=>true
  | _=>false
theorem zrH{H:HY}{h:zaq}(hh:zer H h)(rd:Option Nat):zsU rd H=zpz rd h:=by
 cases rd with
 | none=>rfl
 | some l=>simp only[zsU,zpz,hh.2]; rfl
def zps{α:Type}(rd:Option Nat)(T:TY)(k:List Df→HY→Option α):Option α:=
 match rd with
 | none=>zjt T.hp .dfr fun n H=>k (.coll n :: T.dfs) H
 | some _=>k T.dfs T.hp
theorem znz{α:Type}{T:TY}{S:St}(hS:RY T S){rd:Option Nat}{k:List Df→HY→Option α}{x:α}(hc:zps rd T k=some x):∃ H,zer H (zbM rd S)∧k (zgl rd S) H=some x:=by
 cases rd with
 | none=>
  obtain⟨H,g1,g2⟩:=zfV hS.2.2.2 hc;exact⟨H,g1,by rw[hS.2.2.1]at g2; exact g2⟩
 | some l=>exact⟨T.hp,hS.2.2.2,by rw[← show T.dfs=zgl (some l) S from hS.2.2.1]; exact hc⟩
def ztd(T:TY)(ds:List Df)(n:Nat)(x:Option (CR×HY)):Option (Ex×TY):=
 match x with
 | some (.ret _,h)=>(match h.t.get n with
  | some (.loop true none _ _ _ _)=>zjG h n .dead fun h'=>some (.normal,⟨T.N,T.env,ds,h'⟩)
  | some (.loop false (some j) _ _ _ _)=>zjG h n .dead fun h'=>some (zqz j,⟨T.N,T.env,ds,h'⟩)
  | _=>none)
 | some (.pan v,h)=>some (.panic v true,⟨T.N,T.env,ds,h⟩)
 | none=>none
def zsc(r:RecY)(B:Nat)(rd:Option Nat)(v:Option V)(ps:List Nat)(asg body:C)(T:TY):Option (Ex×TY):=
 match v with
 | some (.clo gf first cap)=>bif zsU rd T.hp then zps rd T fun ds H=>zcO (ztH T) fun env=>zjt H (.loop true none env ps asg body) fun n H'=>
   zcO (first ++ [.yld n]++ cap) fun args=>ztd T ds n (r.call B gf args H')else none
 | _=>none
def zeb(r:RecY)(B:Nat)(rd:Option Nat):C→KY
 | .skip=>fun T=>some (.normal,T)
 | .label _=>fun T=>some (.normal,T)
 | .reg dr bar os=>zi8 r B bar rd.isNone (!dr) os
 | .seq a b=>fun T=>zv8 (zeb r B rd a T) (zeb r B rd b)
 | .cond x a b=>fun T=>zuo (zng (evY T x)) (zeb r B rd a) (zeb r B rd b) T
 | .block id c=>fun T=>zr8 id (zeb r B rd c T)
 | .loop c=>fun T=>zv8 (zeb r B rd c T) (r.code B rd (.loop c))
 | .scope c=>zeb r B rd c
 | .exit id=>fun T=>some (.exit id,T)
 | .ret=>fun T=>some (.ret,T)
 | .zeG x ps asg body=>fun T=>zsc r B rd (evY T x) ps asg body T
 | .bad=>fun _=>none
theorem zoP{T:TY}{S:St}(h:RY T S)(x:X):zng (evY T x)=evB S.env x:=by simp only[zng,evB,zhc h]; rfl
theorem zct{rY:RecY}{r:Rec}(hr:RRY rY r){B:Nat}{rd:Option Nat}:∀(c:C) (T T':TY) (S:St) (ex:Ex),RY T S→zeb rY B rd c T=some (ex,T')→∃ S',exec r B rd c S=some (ex,S')∧RY T' S'
 | .skip,T,T',S,ex,hS,hc=>by simp only[zeb,qad,qaf]at hc; obtain⟨rfl,rfl⟩:=hc; exact⟨S,rfl,hS⟩
 | .label _,T,T',S,ex,hS,hc=>by simp only[zeb,qad,qaf]at hc; obtain⟨rfl,rfl⟩:=hc; exact⟨S,rfl,hS⟩
 | .exit _,T,T',S,ex,hS,hc=>by simp only[zeb,qad,qaf]at hc; obtain⟨rfl,rfl⟩:=hc; exact⟨S,rfl,hS⟩
 | .ret,T,T',S,ex,hS,hc=>by simp only[zeb,qad,qaf]at hc; obtain⟨rfl,rfl⟩:=hc; exact⟨S,rfl,hS⟩
 | .reg dr bar os,T,T',S,ex,hS,hc=>zir hr os T S hS hc
 | .seq a b,T,T',S,ex,hS,hc=>by
  simp only[zeb,zv8]at hc;simp only[exec];split at hc
  ·rename_i T1 hx;obtain⟨S1,g1,g2⟩:=zct hr a T T1 S _ hS hx;rw[g1];exact zct hr b T1 T' S1 ex g2 hc
  ·rename_i x hx;obtain⟨S1,g1,g2⟩:=zct hr a T T' S ex hS hc;rw[g1];cases ex with
   | normal=>exact absurd hc (hx T')
   | _=>exact⟨S1,rfl,g2⟩
 | .cond x a b,T,T',S,ex,hS,hc=>by
  simp only[zeb,zuo,zoP hS]at hc;simp only[exec];split at hc
  ·rename_i hb;rw[hb];exact zct hr a T T' S ex hS hc
  ·rename_i hb;rw[hb];exact zct hr b T T' S ex hS hc
  ·cases hc
 | .block id c,T,T',S,ex,hS,hc=>by
  simp only[zeb,zr8]at hc;simp only[exec];split at hc
  ·rename_i id' T1 hx;obtain⟨S1,g1,g2⟩:=zct hr c T T1 S _ hS hx;rw[g1];simp only[zlx]at hc ⊢;cases hid:(id' == id)<;> simp only[hid,cond_true,cond_false,qad,qaf]at hc ⊢<;>(obtain⟨rfl,rfl⟩:=hc; exact⟨S1,⟨rfl,rfl⟩,g2⟩)
  ·rename_i x hx;obtain⟨S1,g1,g2⟩:=zct hr c T T' S ex hS hc;rw[g1];cases ex with
   | exit id'=>exact absurd hc (hx id' T')
   | _=>exact⟨S1,rfl,g2⟩
 | .loop c,T,T',S,ex,hS,hc=>by
  simp only[zeb,zv8]at hc;simp only[exec];split at hc
  ·rename_i T1 hx;obtain⟨S1,g1,g2⟩:=zct hr c T T1 S _ hS hx;rw[g1];exact hr.code _ _ _ _ _ _ _ g2 hc
  ·rename_i x hx;obtain⟨S1,g1,g2⟩:=zct hr c T T' S ex hS hc;rw[g1];cases ex with
   | normal=>exact absurd hc (hx T')
   | _=>exact⟨S1,rfl,g2⟩
 | .scope c,T,T',S,ex,hS,hc=>zct hr c T T' S ex hS hc
 | .zeG x ps asg body,T,T',S,ex,hS,hc=>by
  simp only[zeb,zsc,zhc hS,zrH hS.2.2.2,zcn,zrl hS]at hc;simp only[exec];split at hc
  ·rename_i gf first cap hx
   rw[hx];cases hok:zpz rd S.heap with
   | false=>rw[hok,cond_false]at hc; cases hc
   | true=>
    rw[hok,cond_true]at hc;simp only[qaM,cond_false];obtain⟨H1,g1,g2⟩:=znz hS hc;obtain⟨H2,g3,g4⟩:=zfV g1 g2;cases hcall:rY.call B gf (first ++ [.yld (zbM rd S).length]++ cap) H2 with
    | none=>rw[hcall]at g4; cases g4
    | some res=>
     obtain⟨cr,H3⟩:=res;rw[hcall]at g4;obtain⟨h3,k1,k2⟩:=hr.call _ _ _ _ _ _ _ g3 hcall;rw[k1];cases cr with
     | ret v=>
      simp only[ztd]at g4;simp only[];rw[k2.2]at g4;split at g4
      ·rename_i hh;rw[hh];obtain⟨H4,m1,m2⟩:=zeA k2 g4;simp only[qad,qaf]at m2;obtain⟨rfl,rfl⟩:=m2;exact⟨_,rfl,hS.1,hS.2.1,rfl,m1⟩
      ·rename_i hh;rw[hh];obtain⟨H4,m1,m2⟩:=zeA k2 g4;simp only[qad,qaf]at m2;obtain⟨rfl,rfl⟩:=m2;exact⟨_,rfl,hS.1,hS.2.1,rfl,m1⟩
      ·cases g4
     | pan v=>
      simp only[ztd,qad,qaf]at g4;obtain⟨rfl,rfl⟩:=g4;exact⟨_,rfl,hS.1,hS.2.1,rfl,k2⟩
  ·cases hc
 | .bad,T,T',S,ex,hS,hc=>by cases hc
def zhy(r:RecY)(B:Nat)(pv:Option V):List Df→HY→Option (Option V×HY)
 | [],h=>some (pv,h)
 | .coll d :: ds,h=>(match h.t.get d with
  | some .dfr=>bif Nat.ble B d then zjG h d .dead fun h'=>zhy r B pv ds h' else none
  | _=>none)
 | .fn f args :: ds,h=>(match r.dcall B f args pv h with
  | some (pv',h')=>zhy r B pv' ds h'
  | none=>none)
theorem zfS{rY:RecY}{r:Rec}(hr:RRY rY r){B:Nat}{pv':Option V}{H':HY}:∀(ds:List Df) (pv:Option V) (H:HY) (h:zaq),zer H h→zhy rY B pv ds H=some (pv',H')→∃ h',leave r B pv ds h=some (pv',h')∧zer H' h'
 | [],pv,H,h,hh,hc=>by
  simp only[zhy,qad,qaf]at hc;obtain⟨rfl,rfl⟩:=hc;exact⟨h,rfl,hh⟩
 | .coll d :: ds,pv,H,h,hh,hc=>by
  simp only[zhy,hh.2]at hc;simp only[leave];split at hc
  ·rename_i hd;rw[hd];simp only[];cases hB:Nat.ble B d with
   | false=>rw[hB,cond_false]at hc; cases hc
   | true=>
    rw[hB,cond_true]at hc;simp only[cond_true];obtain⟨H1,g1,g2⟩:=zeA hh hc;exact zfS hr ds pv H1 _ g1 g2
  ·cases hc
 | .fn f args :: ds,pv,H,h,hh,hc=>by
  simp only[zhy]at hc;simp only[leave];split at hc
  ·rename_i pv1 H1 hd;obtain⟨h1,g1,g2⟩:=hr.dcall _ _ _ _ _ _ _ _ hh hd;rw[g1];exact zfS hr ds pv1 H1 h1 g2 hc
  cases hc
def ziZ(H:HY)(T:TY):RX→Option V
 | .tmp k=>zrB T k
 | .cell k n=>zmy (zrB T k) H n
def zi2{α:Type}(H:HY)(T:TY)(k:List V→Option α):List RX→Option α
 | []=>k []
 | x :: r=>match ziZ H T x with
  | some v=>fcX v fun v'=>zi2 H T (fun vs=>k (v' :: vs)) r
  | none=>none
theorem znH{α:Type}{H:HY}{h:zaq}(hh:zer H h){T:TY}{S:St}(hS:RY T S):∀(l:List RX) (k:List V→Option α),zi2 H T k l=(zck h S.env l).bind k:=by
 have one:∀ x,ziZ H T x=zfm h S.env x:=by
  intro x;rw[← znD];cases x with
  | tmp k=>simp only[ziZ,zhm,hS.2.1,zfU]
  | cell k n=>
   simp only[ziZ,zhm,hS.2.1,zfU,zmy,zlY hh,zpF];rfl
 intro l;induction l with
 | nil=>intro k; rfl
 | cons x r ih=>
  intro k;simp only[zi2,zck,one,zsy,ih];cases zfm h S.env x<;>cases zck h S.env r<;>rfl
def zpM(r:RecY)(B:Nat)(fn:Fn)(pv:Option V)(e:Bool)(T:TY):Option (CR×HY):=
 match zhy r B pv T.dfs T.hp with
 | some (none,h)=>bif !e then none else zi2 h T (fun vs=>some (.ret (zfB vs),h)) fn.rs
 | some (some v,h)=>some (.pan v,h)
 | none=>none
theorem zjq{rY:RecY}{r:Rec}(hr:RRY rY r){B:Nat}{fn:Fn}{pv:Option V}{e:Bool}{T:TY}{S:St}{cr:CR}{H':HY}(hS:RY T S)(hc:zpM rY B fn pv e T=some (cr,H')):∃ h',fin r B fn pv e S=some (cr,h')∧zer H' h':=by
 unfold zpM at hc;unfold fin;rw[hS.2.2.1]at hc;split at hc
 ·rename_i H hl;obtain⟨h,g1,g2⟩:=zfS hr _ _ _ _ hS.2.2.2 hl;rw[g1];cases e with
  | false=>simp only[qbw,cond_true]at hc; cases hc
  | true=>
   simp only[qaM,cond_false]at hc ⊢;rw[znH g2 hS]at hc;cases hx:zck h S.env fn.rs with
   | none=>rw[hx]at hc; cases hc
   | some vs=>
    rw[hx]at hc;simp only[qaa,qad,qaf]at hc;obtain⟨rfl,rfl⟩:=hc;exact⟨h,rfl,g2⟩
 ·rename_i v H hl;obtain⟨h,g1,g2⟩:=zfS hr _ _ _ _ hS.2.2.2 hl;rw[g1];simp only[qad,qaf]at hc;obtain⟨rfl,rfl⟩:=hc;exact⟨h,rfl,g2⟩
 cases hc
def zxP(r:RecY)(B:Nat)(fn:Fn)(x:Option (Ex×TY)):Option (CR×HY):=
 match x with
 | some (.normal,S)=>zpM r B fn none true S
 | some (.ret,S)=>zpM r B fn none true S
 | some (.panic v e,S)=>zpM r B fn (some v) e S
 | _=>none
def zpO(r:RecY)(fn:Fn)(B:Nat)(args:List V)(H:HY):Option (CR×HY):=
 bif Nat.ble args.length fn.N then zdi fn.N fun N=>ztU args 0 .leaf fun t=>zxP r B fn (zeb r B none fn.c ⟨N,t,[],H⟩)else none
theorem zpX{args:List V}{N:Nat}(hN:args.length≤N){t:Tr V}(h:∀ j,t.get j=if 0≤j∧j<0+args.length then args[j - 0]? else(Tr.leaf:Tr V).get j){H:HY}{hp:zaq}(hh:zer H hp):
  RY ⟨N,t,[],H⟩ ⟨args ++ List.replicate (N - args.length) zaR,[],hp⟩:=by
 refine⟨by simp; omega,fun k=>?_,rfl,hh⟩;simp only[zrB,h,qbm,qbE];by_cases hk:k<args.length
 ·rw[if_pos (by omega),qcN,if_pos hk,qae hk]
 rw[if_neg (by omega),if_neg hk];simp only[Tr.get,zfa];by_cases hk2:k<N
 ·rw[if_pos (by omega)]; simp[hk2]
 rw[if_neg (by omega)]; simp[hk2]
theorem zmN{rY:RecY}{r:Rec}(hr:RRY rY r){B:Nat}{fn:Fn}{args:List V}{H H':HY}{h:zaq}(hh:zer H h){cr:CR}(hc:zpO rY fn B args H=some (cr,H')):∃ h',body r fn B args h=some (cr,h')∧zer H' h':=by
 unfold zpO at hc;unfold body;cases hle:Nat.ble args.length fn.N with
 | false=>rw[hle,cond_false]at hc; cases hc
 | true=>
  rw[hle,cond_true,zch]at hc;simp only[cond_true];obtain⟨t,g1,g2⟩:=ziS _ _ _ _ hc;have hS:=zpX (qah hle) g2 hh;cases hx:zeb rY B none fn.c ⟨fn.N,t,[],H⟩with
  | none=>rw[hx]at g1; cases g1
  | some res=>
   obtain⟨ex,T'⟩:=res;obtain⟨S',k1,k2⟩:=zct hr _ _ _ _ _ hS hx;rw[hx]at g1;rw[k1];cases ex with
   | normal=>exact zjq hr k2 g1
   | ret=>exact zjq hr k2 g1
   | panic v e=>exact zjq hr k2 g1
   | exit id=>cases g1
def zlv(H:HY)(x:Option (CR×HY)):Option (CR×HY):=
 match x with
 | some (.ret v,_)=>bif v.plain then some (.ret v,H)else none
 | some (.pan v,_)=>bif v.plain then some (.pan v,H)else none
 | none=>none
def zt5(r:RecY)(fn:Fn)(B:Nat)(args:List V)(H:HY):Option (CR×HY):=bif Nat.ble B H.n then zlv H (zpO r fn H.n args H)else none
def zoU(r:RecY)(fns:Nat→Option Fn)(B:Nat)(f:Nat)(args:List V)(H:HY):Option (CR×HY):=
 match fns f with
 | some fn=>bif fn.p then zt5 r fn B args H else zpO r fn B args H
 | none=>none
theorem zoy{rY:RecY}{r:Rec}(hr:RRY rY r){fns:Nat→Option Fn}{B f:Nat}{args:List V}{H H':HY}{h:zaq}(hh:zer H h){cr:CR}(hc:zoU rY fns B f args H=some (cr,H')):∃ h',zg2 r fns B f args h=some (cr,h')∧zer H' h':=by
 unfold zoU at hc;unfold zg2;split at hc
 ·rename_i fn hfn;rw[hfn];cases hp:fn.p with
  | false=>
   rw[hp,cond_false]at hc;simp only[hp,cond_false];exact zmN hr hh hc
  | true=>
   rw[hp,cond_true]at hc;simp only[hp,cond_true];unfold zt5 at hc;rw[hh.1]at hc;cases hB:Nat.ble B h.length with
   | false=>rw[hB,cond_false]at hc; cases hc
   | true=>
    rw[hB,cond_true]at hc;simp only[cond_true];cases hb:zpO rY fn h.length args H with
    | none=>rw[hb]at hc; cases hc
    | some y=>
     obtain⟨cr1,H1⟩:=y;rw[hb]at hc;obtain⟨h1,g1,_⟩:=zmN hr hh hb;rw[g1];cases cr1 with
     | ret v=>
      simp only[zlv]at hc;simp only[forget];cases hv:v.plain with
      | false=>rw[hv,cond_false]at hc; cases hc
      | true=>
       rw[hv,cond_true]at hc;simp only[qad,qaf]at hc;obtain⟨rfl,rfl⟩:=hc;exact⟨h,rfl,hh⟩
     | pan v=>
      simp only[zlv]at hc;simp only[forget];cases hv:v.plain with
      | false=>rw[hv,cond_false]at hc; cases hc
      | true=>
       rw[hv,cond_true]at hc;simp only[qad,qaf]at hc;obtain⟨rfl,rfl⟩:=hc;exact⟨h,rfl,hh⟩
 cases hc
def zoL(d:List V→Option V→zaq→Option (Option V×zaq))(args:List V)(pv:Option V)(H:HY):Option (Option V×HY):=
 match d args pv (zqd H)with
 | some (pv',h')=>ztU h' 0 .leaf fun t=>zdi h'.length fun n=>some (pv',⟨n,t⟩)
 | none=>none
theorem zp6{l:zaq}{t:Tr Ob}(h:∀ j,t.get j=if 0≤j∧j<0+l.length then l[j - 0]? else(Tr.leaf:Tr Ob).get j):zer ⟨l.length,t⟩ l:=by
 refine⟨rfl,fun k=>?_⟩;simp only[h];by_cases hk:k<l.length
 ·rw[if_pos (by omega),qcN]
 rw[if_neg (by omega),qa7 (by omega)]; rfl
theorem zqJ{d:List V→Option V→zaq→Option (Option V×zaq)}{args:List V}{pv pv':Option V}{H H':HY}{h:zaq}(hh:zer H h)(hc:zoL d args pv H=some (pv',H')):∃ h',d args pv h=some (pv',h')∧zer H' h':=by
 unfold zoL at hc;rw[zqH hh]at hc;split at hc
 ·rename_i pv1 h1 hd;obtain⟨t,g1,g2⟩:=ziS _ _ _ _ hc;simp only[zch,qad,qaf]at g1;obtain⟨rfl,rfl⟩:=g1;exact⟨h1,hd,zp6 g2⟩
 cases hc
structure Ans where
 res:Nat→CR
 new:Option Ob
abbrev Dcd:=(Nat→Option (List V))→Nat→List V→Option Ans
def Ans.ap(h:zaq)(a:Ans):CR×zaq:=
 match a.new with
 | none=>(a.res h.length,h)
 | some o=>(a.res h.length,h ++ [o])
def zoH(D:Dcd):Orc:=fun _ f args h=>(D (zaN h) f args).map (Ans.ap h)
def zwp(H:HY)(a:Ans):Option (CR×HY):=
 match a.new with
 | none=>some (a.res H.n,H)
 | some o=>zdi H.n fun m=>Tr.put o 40 H.t m fun t'=>zdi (Nat.succ m) fun n'=>some (a.res m,⟨n',t'⟩)
theorem ztb{H H':HY}{h:zaq}(hh:zer H h){a:Ans}{cr:CR}(hc:zwp H a=some (cr,H')):∃ h',a.ap h=(cr,h')∧zer H' h':=by
 unfold zwp at hc;unfold Ans.ap;cases hn:a.new with
 | none=>
  rw[hn]at hc;simp only[qad,qaf]at hc;obtain⟨rfl,rfl⟩:=hc;exact⟨h,by rw[hh.1],hh⟩
 | some o=>
  rw[hn]at hc;simp only[zch]at hc;have hc2:zjt H o (fun m H2=>some (a.res m,H2))=some (cr,H'):=by
   simp only[zjt,zch,zlK]; exact hc
  obtain⟨H2,g1,g2⟩:=zfV hh hc2;simp only[qad,qaf]at g2;obtain⟨rfl,rfl⟩:=g2;exact⟨_,rfl,g1⟩
def zxC(x:Option Ans)(H:HY)(k:HY→Option (CR×HY)):Option (CR×HY):=
 match x with
 | some a=>zwp H a
 | none=>k H
def RecY.none:RecY:=⟨fun _ _ _ _=>.none,fun _ _ _ _=>.none,fun _ _ _ _ _=>.none⟩
def zsT(D:Dcd)(fns:Nat→Option Fn):Nat→RecY
 | 0=>RecY.none
 | n+1=>⟨zeb (zsT D fns n),fun B f args H=>zxC (D (zoI H) f args) H (zoU (zsT D fns n) fns B f args),fun B f=>zoL (zlu (zqL (zoH D) fns n) fns B f)⟩
theorem zlC(D:Dcd)(fns:Nat→Option Fn):∀ n,RRY (zsT D fns n) (zqL (zoH D) fns n)
 | 0=>⟨fun _ _ _ _ _ _ _ _ h=>(by cases h),fun _ _ _ _ _ _ _ _ h=>(by cases h),fun _ _ _ _ _ _ _ _ _ h=>(by cases h)⟩
 | n+1=>by
  refine⟨fun B rd c T S ex T' hS hc=>zct (zlC D fns n) c T T' S ex hS hc,fun B f args H h cr H' hh hc=>?_,fun B f args pv H h pv' H' hh hc=>zqJ hh hc⟩;simp only[zsT]at hc;simp only[zqL,zoH];rw[show zoI H=zaN h from funext (zlY hh)]at hc;cases ho:D (zaN h) f args with
  | some y=>
   rw[ho]at hc;obtain⟨h',g1,g2⟩:=ztb hh hc;exact⟨h',by simp only[qaK,zwi,g1],g2⟩
  | none=>
   rw[ho]at hc;exact zoy (zlC D fns n) hh hc
def zl3:Option (CR×HY)→Bool
 | some (.ret (.lit (.bool b)),_)=>b
 | _=>false
def HY.empty:HY:=⟨0,.leaf⟩
def noD:Dcd:=fun _ _ _=>none
theorem zuH(P:Program):zot P (zoH noD):=fun _ _ _ _ _ _ h=>(by cases h)
theorem zje{P:Program}(hm:P.follows .mixedOrders=true){fns:Nat→Option Fn}(htab:∀ f fn,fns f=some fn→zmH P f fn){D:Dcd}(ho:zot P (zoH D)){n f:Nat}
  (h:zl3 ((zsT D fns n).call 0 f [] HY.empty)=true) (w:World):
  Calls P f #[] w fun e w'=>e=.returned (.bool true)∧Go.RowKit.Below w.heap.size w w':=by
 have hok:=zmb hm htab ho n;cases hc0:(zsT D fns n).call 0 f [] HY.empty with
 | none=>rw[hc0]at h; cases h
 | some res=>
  rw[hc0]at h;obtain⟨cr,H'⟩:=res;obtain⟨h',hc,_⟩:=(zlC D fns n).call _ _ _ _ [] _ _ ⟨rfl,fun k=>by simp[HY.empty,Tr.get]⟩ hc0;have hS:Sim P 0 w (fun _=>none) [] w:=⟨qal _,Go.RowKit.Below.refl _ _,by simp,by simp,by simp,by simp,by simp⟩;obtain⟨_,hcalls⟩:=(hok.call _ _ _ _ _ _ hc).1 w (fun _=>none) w #[] hS ⟨rfl,by simp⟩;have hw:CallsIn Fence.wide 0 P f #[] w (znE P 0 w (fun _=>none) cr h'):=hcalls;refine Calls.mono (callsIn_wide.1 hw) fun e w' hp=>?_
  obtain⟨ι',_,hS',hp⟩:=hp;unfold zl3 at h;split at h
  ·rename_i b h2 heq;cases heq;obtain⟨u,rfl,hv⟩:=hp;cases hv;subst h;exact⟨rfl,hS'.below⟩
  cases h
end Go.Mx
