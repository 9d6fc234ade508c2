/-
 The machine with tries: code, calls, runs. Conditions: none.
-/
import Derived.Test.YtcfdkhbflhdjeaaNcMx21
set_option linter.unusedSimpArgs false
set_option linter.unusedVariables false
namespace Go.Mx
open Go
def zvY(x:Option (Ex×TY))(k:KY):Option (Ex×TY):=
 match x with
 | some (.normal,T')=>k T'
 | x=>x
def zu2(b:Option Bool)(x y:KY)(T:TY):Option (Ex×TY):=
 match b with
 | some true=>x T
 | some false=>y T
 | none=>none
def zsi(id:Nat)(x:Option (Ex×TY)):Option (Ex×TY):=
 match x with
 | some (.exit id',T')=>bif Nat.beq id' id then some (.normal,T')else some (.exit id',T')
 | x=>x
def zsZ(rd:Option Nat)(H:HY):Bool:=
 match rd with
 | none=>true
 | some l=>match H.t.get l with
  | some (.loop ..)=>true
  | _=>false
theorem zrq{H:HY}{h:zap}(hh:zeu H h)(rd:Option Nat):zsZ rd H=zo5 rd h:=by
 cases rd with
 | none=>rfl
 | some l=>simp only[zsZ,zo5,hh.2]; rfl
def zo3{α:Type}(rd:Option Nat)(T:TY)(k:List Df→HY→Option α):Option α:=
 match rd with
 | none=>zjh T.hp .dfr fun n H=>k (.coll n :: T.dfs) H
 | some _=>k T.dfs T.hp
theorem znO{α:Type}{T:TY}{S:St}(hS:RY T S){rd:Option Nat}{k:List Df→HY→Option α}{x:α}(hc:zo3 rd T k=some x):∃ H,zeu H (zbC rd S)∧k (zgq rd S) H=some x:=by
 cases rd with
 | none=>
  obtain⟨H,g1,g2⟩:=zfD hS.2.2.2 hc;exact⟨H,g1,by rw[hS.2.2.1]at g2; exact g2⟩
 | some l=>exact⟨T.hp,hS.2.2.2,by rw[← show T.dfs=zgq (some l) S from hS.2.2.1]; exact hc⟩
def zsU(T:TY)(ds:List Df)(n:Nat)(x:Option (CR×HY)):Option (Ex×TY):=
 match x with
 | some (.ret _,h)=>(match h.t.get n with
  | some (.loop true none _ _ _ _)=>zjq h n .dead fun h'=>some (.normal,⟨T.N,T.env,ds,h'⟩)
  | some (.loop false (some j) _ _ _ _)=>zjq h n .dead fun h'=>some (zor j,⟨T.N,T.env,ds,h'⟩)
  | _=>none)
 | some (.pan v,h)=>some (.panic v true,⟨T.N,T.env,ds,h⟩)
 | none=>none
def zsz(r:RecY)(B:Nat)(rd:Option Nat)(v:Option V)(ps:List Nat)(asg body:C)(T:TY):Option (Ex×TY):=
 match v with
 | some (.clo gf first cap)=>bif zsZ rd T.hp then zo3 rd T fun ds H=>zcK (zty T) fun env=>zjh H (.loop true none env ps asg body) fun n H'=>
   zcK (first ++ [.yld n]++ cap) fun args=>zsU T ds n (r.call B gf args H')else none
 | _=>none
def zd7(r:RecY)(B:Nat)(rd:Option Nat):C→KY
 | .skip=>fun T=>some (.normal,T)
 | .label _=>fun T=>some (.normal,T)
 | .reg dr bar os=>zi7 r B bar rd.isNone (!dr) os
 | .seq a b=>fun T=>zvY (zd7 r B rd a T) (zd7 r B rd b)
 | .cond x a b=>fun T=>zu2 (zm4 (evY T x)) (zd7 r B rd a) (zd7 r B rd b) T
 | .block id c=>fun T=>zsi id (zd7 r B rd c T)
 | .loop c=>fun T=>zvY (zd7 r B rd c T) (r.code B rd (.loop c))
 | .scope c=>zd7 r B rd c
 | .exit id=>fun T=>some (.exit id,T)
 | .ret=>fun T=>some (.ret,T)
 | .zeC x ps asg body=>fun T=>zsz r B rd (evY T x) ps asg body T
 | .bad=>fun _=>none
theorem zpp{T:TY}{S:St}(h:RY T S)(x:X):zm4 (evY T x)=evB S.env x:=by simp only[zm4,evB,zhG h]; rfl
theorem zcl{rY:RecY}{r:Rec}(hr:RRY rY r){B:Nat}{rd:Option Nat}:∀(c:C) (T T':TY) (S:St) (ex:Ex),RY T S→zd7 rY B rd c T=some (ex,T')→∃ S',exec r B rd c S=some (ex,S')∧RY T' S'
 | .skip,T,T',S,ex,hS,hc=>by simp only[zd7,qad,qaf]at hc; obtain⟨rfl,rfl⟩:=hc; exact⟨S,rfl,hS⟩
 | .label _,T,T',S,ex,hS,hc=>by simp only[zd7,qad,qaf]at hc; obtain⟨rfl,rfl⟩:=hc; exact⟨S,rfl,hS⟩
 | .exit _,T,T',S,ex,hS,hc=>by simp only[zd7,qad,qaf]at hc; obtain⟨rfl,rfl⟩:=hc; exact⟨S,rfl,hS⟩
 | .ret,T,T',S,ex,hS,hc=>by simp only[zd7,qad,qaf]at hc; obtain⟨rfl,rfl⟩:=hc; exact⟨S,rfl,hS⟩
 | .reg dr bar os,T,T',S,ex,hS,hc=>zii hr os T S hS hc
 | .seq a b,T,T',S,ex,hS,hc=>by
  simp only[zd7,zvY]at hc;simp only[exec];split at hc
  ·rename_i T1 hx;obtain⟨S1,g1,g2⟩:=zcl hr a T T1 S _ hS hx;rw[g1];exact zcl hr b T1 T' S1 ex g2 hc
  ·rename_i x hx;obtain⟨S1,g1,g2⟩:=zcl hr a T T' S ex hS hc;rw[g1];cases ex with
   | normal=>exact absurd hc (hx T')
   | _=>exact⟨S1,rfl,g2⟩
 | .cond x a b,T,T',S,ex,hS,hc=>by
  simp only[zd7,zu2,zpp hS]at hc;simp only[exec];split at hc
  ·rename_i hb;rw[hb];exact zcl hr a T T' S ex hS hc
  ·rename_i hb;rw[hb];exact zcl hr b T T' S ex hS hc
  ·cases hc
 | .block id c,T,T',S,ex,hS,hc=>by
  simp only[zd7,zsi]at hc;simp only[exec];split at hc
  ·rename_i id' T1 hx;obtain⟨S1,g1,g2⟩:=zcl hr c T T1 S _ hS hx;rw[g1];simp only[zl7]at hc ⊢;cases hid:(id' == id)<;> simp only[hid,cond_true,cond_false,qad,qaf]at hc ⊢<;>(obtain⟨rfl,rfl⟩:=hc; exact⟨S1,⟨rfl,rfl⟩,g2⟩)
  ·rename_i x hx;obtain⟨S1,g1,g2⟩:=zcl hr c T T' S ex hS hc;rw[g1];cases ex with
   | exit id'=>exact absurd hc (hx id' T')
   | _=>exact⟨S1,rfl,g2⟩
 | .loop c,T,T',S,ex,hS,hc=>by
  simp only[zd7,zvY]at hc;simp only[exec];split at hc
  ·rename_i T1 hx;obtain⟨S1,g1,g2⟩:=zcl hr c T T1 S _ hS hx;rw[g1];exact hr.code _ _ _ _ _ _ _ g2 hc
  ·rename_i x hx;obtain⟨S1,g1,g2⟩:=zcl hr c T T' S ex hS hc;rw[g1];cases ex with
   | normal=>exact absurd hc (hx T')
   | _=>exact⟨S1,rfl,g2⟩
 | .scope c,T,T',S,ex,hS,hc=>zcl hr c T T' S ex hS hc
 | .zeC x ps asg body,T,T',S,ex,hS,hc=>by
  simp only[zd7,zsz,zhG hS,zrq hS.2.2.2,zck,zrc hS]at hc;simp only[exec];split at hc
  ·rename_i gf first cap hx
   rw[hx];cases hok:zo5 rd S.heap with
   | false=>rw[hok,cond_false]at hc; cases hc
   | true=>
    rw[hok,cond_true]at hc;simp only[qaS,cond_false];obtain⟨H1,g1,g2⟩:=znO hS hc;obtain⟨H2,g3,g4⟩:=zfD g1 g2;cases hcall:rY.call B gf (first ++ [.yld (zbC rd S).length]++ cap) H2 with
    | none=>rw[hcall]at g4; cases g4
    | some res=>
     obtain⟨cr,H3⟩:=res;rw[hcall]at g4;obtain⟨h3,k1,k2⟩:=hr.call _ _ _ _ _ _ _ g3 hcall;rw[k1];cases cr with
     | ret v=>
      simp only[zsU]at g4;simp only[];rw[k2.2]at g4;split at g4
      ·rename_i hh;rw[hh];obtain⟨H4,m1,m2⟩:=zet k2 g4;simp only[qad,qaf]at m2;obtain⟨rfl,rfl⟩:=m2;exact⟨_,rfl,hS.1,hS.2.1,rfl,m1⟩
      ·rename_i hh;rw[hh];obtain⟨H4,m1,m2⟩:=zet k2 g4;simp only[qad,qaf]at m2;obtain⟨rfl,rfl⟩:=m2;exact⟨_,rfl,hS.1,hS.2.1,rfl,m1⟩
      ·cases g4
     | pan v=>
      simp only[zsU,qad,qaf]at g4;obtain⟨rfl,rfl⟩:=g4;exact⟨_,rfl,hS.1,hS.2.1,rfl,k2⟩
  ·cases hc
 | .bad,T,T',S,ex,hS,hc=>by cases hc
def zhi(r:RecY)(B:Nat)(pv:Option V):List Df→HY→Option (Option V×HY)
 | [],h=>some (pv,h)
 | .coll d :: ds,h=>(match h.t.get d with
  | some .dfr=>bif Nat.ble B d then zjq h d .dead fun h'=>zhi r B pv ds h' else none
  | _=>none)
 | .fn f args :: ds,h=>(match r.dcall B f args pv h with
  | some (pv',h')=>zhi r B pv' ds h'
  | none=>none)
theorem zfP{rY:RecY}{r:Rec}(hr:RRY rY r){B:Nat}{pv':Option V}{H':HY}:∀(ds:List Df) (pv:Option V) (H:HY) (h:zap),zeu H h→zhi rY B pv ds H=some (pv',H')→∃ h',leave r B pv ds h=some (pv',h')∧zeu H' h'
 | [],pv,H,h,hh,hc=>by
  simp only[zhi,qad,qaf]at hc;obtain⟨rfl,rfl⟩:=hc;exact⟨h,rfl,hh⟩
 | .coll d :: ds,pv,H,h,hh,hc=>by
  simp only[zhi,hh.2]at hc;simp only[leave];split at hc
  ·rename_i hd;rw[hd];simp only[];cases hB:Nat.ble B d with
   | false=>rw[hB,cond_false]at hc; cases hc
   | true=>
    rw[hB,cond_true]at hc;simp only[cond_true];obtain⟨H1,g1,g2⟩:=zet hh hc;exact zfP hr ds pv H1 _ g1 g2
  ·cases hc
 | .fn f args :: ds,pv,H,h,hh,hc=>by
  simp only[zhi]at hc;simp only[leave];split at hc
  ·rename_i pv1 H1 hd;obtain⟨h1,g1,g2⟩:=hr.dcall _ _ _ _ _ _ _ _ hh hd;rw[g1];exact zfP hr ds pv1 H1 h1 g2 hc
  cases hc
def zjK(H:HY)(T:TY):RX→Option V
 | .tmp k=>zrO T k
 | .cell k n=>zmr (zrO T k) H n
def zju{α:Type}(H:HY)(T:TY)(k:List V→Option α):List RX→Option α
 | []=>k []
 | x :: r=>match zjK H T x with
  | some v=>fcX v fun v'=>zju H T (fun vs=>k (v' :: vs)) r
  | none=>none
theorem znt{α:Type}{H:HY}{h:zap}(hh:zeu H h){T:TY}{S:St}(hS:RY T S):∀(l:List RX) (k:List V→Option α),zju H T k l=(zcd h S.env l).bind k:=by
 have one:∀ x,zjK H T x=zfn h S.env x:=by
  intro x;rw[← zoa];cases x with
  | tmp k=>simp only[zjK,zgZ,hS.2.1,zf1]
  | cell k n=>
   simp only[zjK,zgZ,hS.2.1,zf1,zmr,zl1 hh,zpv];rfl
 intro l;induction l with
 | nil=>intro k; rfl
 | cons x r ih=>
  intro k;simp only[zju,zcd,one,zsy,ih];cases zfn h S.env x<;>cases zcd h S.env r<;>rfl
def zpS(r:RecY)(B:Nat)(fn:Fn)(pv:Option V)(e:Bool)(T:TY):Option (CR×HY):=
 match zhi r B pv T.dfs T.hp with
 | some (none,h)=>bif !e then none else zju h T (fun vs=>some (.ret (zfC vs),h)) fn.rs
 | some (some v,h)=>some (.pan v,h)
 | none=>none
theorem zjr{rY:RecY}{r:Rec}(hr:RRY rY r){B:Nat}{fn:Fn}{pv:Option V}{e:Bool}{T:TY}{S:St}{cr:CR}{H':HY}(hS:RY T S)(hc:zpS rY B fn pv e T=some (cr,H')):∃ h',fin r B fn pv e S=some (cr,h')∧zeu H' h':=by
 unfold zpS at hc;unfold fin;rw[hS.2.2.1]at hc;split at hc
 ·rename_i H hl;obtain⟨h,g1,g2⟩:=zfP hr _ _ _ _ hS.2.2.2 hl;rw[g1];cases e with
  | false=>simp only[qbd,cond_true]at hc; cases hc
  | true=>
   simp only[qaS,cond_false]at hc ⊢;rw[znt g2 hS]at hc;cases hx:zcd h S.env fn.rs with
   | none=>rw[hx]at hc; cases hc
   | some vs=>
    rw[hx]at hc;simp only[qaa,qad,qaf]at hc;obtain⟨rfl,rfl⟩:=hc;exact⟨h,rfl,g2⟩
 ·rename_i v H hl;obtain⟨h,g1,g2⟩:=zfP hr _ _ _ _ hS.2.2.2 hl;rw[g1];simp only[qad,qaf]at hc;obtain⟨rfl,rfl⟩:=hc;exact⟨h,rfl,g2⟩
 cases hc
def zxi(r:RecY)(B:Nat)(fn:Fn)(x:Option (Ex×TY)):Option (CR×HY):=
 match x with
 | some (.normal,S)=>zpS r B fn none true S
 | some (.ret,S)=>zpS r B fn none true S
 | some (.panic v e,S)=>zpS r B fn (some v) e S
 | _=>none
def zom(r:RecY)(fn:Fn)(B:Nat)(args:List V)(H:HY):Option (CR×HY):=
 bif Nat.ble args.length fn.N then zc2 fn.N fun N=>zt3 args 0 .leaf fun t=>zxi r B fn (zd7 r B none fn.c ⟨N,t,[],H⟩)else none
theorem zpb{args:List V}{N:Nat}(hN:args.length≤N){t:Tr V}(h:∀ j,t.get j=if 0≤j∧j<0+args.length then args[j - 0]? else(Tr.leaf:Tr V).get j){H:HY}{hp:zap}(hh:zeu H hp):
  RY ⟨N,t,[],H⟩ ⟨args ++ List.replicate (N - args.length) zaP,[],hp⟩:=by
 refine⟨by simp; omega,fun k=>?_,rfl,hh⟩;simp only[zrO,h,qbf,qcq];by_cases hk:k<args.length
 ·rw[if_pos (by omega),qcw,if_pos hk,qae hk]
 rw[if_neg (by omega),if_neg hk];simp only[Tr.get,ze7];by_cases hk2:k<N
 ·rw[if_pos (by omega)]; simp[hk2]
 rw[if_neg (by omega)]; simp[hk2]
theorem zna{rY:RecY}{r:Rec}(hr:RRY rY r){B:Nat}{fn:Fn}{args:List V}{H H':HY}{h:zap}(hh:zeu H h){cr:CR}(hc:zom rY fn B args H=some (cr,H')):∃ h',body r fn B args h=some (cr,h')∧zeu H' h':=by
 unfold zom at hc;unfold body;cases hle:Nat.ble args.length fn.N with
 | false=>rw[hle,cond_false]at hc; cases hc
 | true=>
  rw[hle,cond_true,zcb]at hc;simp only[cond_true];obtain⟨t,g1,g2⟩:=ziS _ _ _ _ hc;have hS:=zpb (qah hle) g2 hh;cases hx:zd7 rY B none fn.c ⟨fn.N,t,[],H⟩with
  | none=>rw[hx]at g1; cases g1
  | some res=>
   obtain⟨ex,T'⟩:=res;obtain⟨S',k1,k2⟩:=zcl hr _ _ _ _ _ hS hx;rw[hx]at g1;rw[k1];cases ex with
   | normal=>exact zjr hr k2 g1
   | ret=>exact zjr hr k2 g1
   | panic v e=>exact zjr hr k2 g1
   | exit id=>cases g1
def zmg(H:HY)(x:Option (CR×HY)):Option (CR×HY):=
 match x with
 | some (.ret v,_)=>bif v.plain then some (.ret v,H)else none
 | some (.pan v,_)=>bif v.plain then some (.pan v,H)else none
 | none=>none
def zvC(r:RecY)(fn:Fn)(B:Nat)(args:List V)(H:HY):Option (CR×HY):=bif Nat.ble B H.n then zmg H (zom r fn H.n args H)else none
def zoU(r:RecY)(fns:Nat→Option Fn)(B:Nat)(f:Nat)(args:List V)(H:HY):Option (CR×HY):=
 match fns f with
 | some fn=>bif fn.p then zvC r fn B args H else zom r fn B args H
 | none=>none
theorem zpJ{rY:RecY}{r:Rec}(hr:RRY rY r){fns:Nat→Option Fn}{B f:Nat}{args:List V}{H H':HY}{h:zap}(hh:zeu H h){cr:CR}(hc:zoU rY fns B f args H=some (cr,H')):∃ h',zhA r fns B f args h=some (cr,h')∧zeu H' h':=by
 unfold zoU at hc;unfold zhA;split at hc
 ·rename_i fn hfn;rw[hfn];cases hp:fn.p with
  | false=>
   rw[hp,cond_false]at hc;simp only[hp,cond_false];exact zna hr hh hc
  | true=>
   rw[hp,cond_true]at hc;simp only[hp,cond_true];unfold zvC at hc;rw[hh.1]at hc;cases hB:Nat.ble B h.length with
   | false=>rw[hB,cond_false]at hc; cases hc
   | true=>
    rw[hB,cond_true]at hc;simp only[cond_true];cases hb:zom rY fn h.length args H with
    | none=>rw[hb]at hc; cases hc
    | some y=>
     obtain⟨cr1,H1⟩:=y;rw[hb]at hc;obtain⟨h1,g1,_⟩:=zna hr hh hb;rw[g1];cases cr1 with
     | ret v=>
      simp only[zmg]at hc;simp only[forget];cases hv:v.plain with
      | false=>rw[hv,cond_false]at hc; cases hc
      | true=>
       rw[hv,cond_true]at hc;simp only[qad,qaf]at hc;obtain⟨rfl,rfl⟩:=hc;exact⟨h,rfl,hh⟩
     | pan v=>
      simp only[zmg]at hc;simp only[forget];cases hv:v.plain with
      | false=>rw[hv,cond_false]at hc; cases hc
      | true=>
       rw[hv,cond_true]at hc;simp only[qad,qaf]at hc;obtain⟨rfl,rfl⟩:=hc;exact⟨h,rfl,hh⟩
 cases hc
def zpC(d:List V→Option V→zap→Option (Option V×zap))(args:List V)(pv:Option V)(H:HY):Option (Option V×HY):=
 match d args pv (zoQ H)with
 | some (pv',h')=>zt3 h' 0 .leaf fun t=>zc2 h'.length fun n=>some (pv',⟨n,t⟩)
 | none=>none
theorem zot{l:zap}{t:Tr Ob}(h:∀ j,t.get j=if 0≤j∧j<0+l.length then l[j - 0]? else(Tr.leaf:Tr Ob).get j):zeu ⟨l.length,t⟩ l:=by
 refine⟨rfl,fun k=>?_⟩;simp only[h];by_cases hk:k<l.length
 ·rw[if_pos (by omega),qcw]
 rw[if_neg (by omega),qa5 (by omega)]; rfl
theorem zph{d:List V→Option V→zap→Option (Option V×zap)}{args:List V}{pv pv':Option V}{H H':HY}{h:zap}(hh:zeu H h)(hc:zpC d args pv H=some (pv',H')):∃ h',d args pv h=some (pv',h')∧zeu H' h':=by
 unfold zpC at hc;rw[zpI hh]at hc;split at hc
 ·rename_i pv1 h1 hd;obtain⟨t,g1,g2⟩:=ziS _ _ _ _ hc;simp only[zcb,qad,qaf]at g1;obtain⟨rfl,rfl⟩:=g1;exact⟨h1,hd,zot g2⟩
 cases hc
structure Ans where
 res:Nat→CR
 new:Option Ob
abbrev Dcd:=(Nat→Option (List V))→Nat→List V→Option Ans
def Ans.ap(h:zap)(a:Ans):CR×zap:=
 match a.new with
 | none=>(a.res h.length,h)
 | some o=>(a.res h.length,h ++ [o])
def zoC(D:Dcd):Orc:=fun _ f args h=>(D (zaM h) f args).map (Ans.ap h)
def zwp(H:HY)(a:Ans):Option (CR×HY):=
 match a.new with
 | none=>some (a.res H.n,H)
 | some o=>zc2 H.n fun m=>Tr.put o 40 H.t m fun t'=>zc2 (Nat.succ m) fun n'=>some (a.res m,⟨n',t'⟩)
theorem ztt{H H':HY}{h:zap}(hh:zeu H h){a:Ans}{cr:CR}(hc:zwp H a=some (cr,H')):∃ h',a.ap h=(cr,h')∧zeu H' h':=by
 unfold zwp at hc;unfold Ans.ap;cases hn:a.new with
 | none=>
  rw[hn]at hc;simp only[qad,qaf]at hc;obtain⟨rfl,rfl⟩:=hc;exact⟨h,by rw[hh.1],hh⟩
 | some o=>
  rw[hn]at hc;simp only[zcb]at hc;have hc2:zjh H o (fun m H2=>some (a.res m,H2))=some (cr,H'):=by
   simp only[zjh,zcb,zlO]; exact hc
  obtain⟨H2,g1,g2⟩:=zfD hh hc2;simp only[qad,qaf]at g2;obtain⟨rfl,rfl⟩:=g2;exact⟨_,rfl,g1⟩
def zxe(x:Option Ans)(H:HY)(k:HY→Option (CR×HY)):Option (CR×HY):=
 match x with
 | some a=>zwp H a
 | none=>k H
def RecY.none:RecY:=⟨fun _ _ _ _=>.none,fun _ _ _ _=>.none,fun _ _ _ _ _=>.none⟩
def ztf(D:Dcd)(fns:Nat→Option Fn):Nat→RecY
 | 0=>RecY.none
 | n+1=>⟨zd7 (ztf D fns n),fun B f args H=>zxe (D (zqE H) f args) H (zoU (ztf D fns n) fns B f args),fun B f=>zpC (zll (zqP (zoC D) fns n) fns B f)⟩
theorem zln(D:Dcd)(fns:Nat→Option Fn):∀ n,RRY (ztf D fns n) (zqP (zoC D) fns n)
 | 0=>⟨fun _ _ _ _ _ _ _ _ h=>(by cases h),fun _ _ _ _ _ _ _ _ h=>(by cases h),fun _ _ _ _ _ _ _ _ _ h=>(by cases h)⟩
 | n+1=>by
  refine⟨fun B rd c T S ex T' hS hc=>zcl (zln D fns n) c T T' S ex hS hc,fun B f args H h cr H' hh hc=>?_,fun B f args pv H h pv' H' hh hc=>zph hh hc⟩;simp only[ztf]at hc;simp only[zqP,zoC];rw[show zqE H=zaM h from funext (zl1 hh)]at hc;cases ho:D (zaM h) f args with
  | some y=>
   rw[ho]at hc;obtain⟨h',g1,g2⟩:=ztt hh hc;exact⟨h',by simp only[qaI,zwa,g1],g2⟩
  | none=>
   rw[ho]at hc;exact zpJ (zln D fns n) hh hc
def zlZ:Option (CR×HY)→Bool
 | some (.ret (.lit (.bool b)),_)=>b
 | _=>false
def HY.empty:HY:=⟨0,.leaf⟩
def noD:Dcd:=fun _ _ _=>none
theorem zuZ(P:Program):zqI P (zoC noD):=fun _ _ _ _ _ _ h=>(by cases h)
theorem zjj{P:Program}(hm:P.follows .mixedOrders=true){fns:Nat→Option Fn}(htab:∀ f fn,fns f=some fn→zms P f fn){D:Dcd}(ho:zqI P (zoC D)){n f:Nat}
  (h:zlZ ((ztf D fns n).call 0 f [] HY.empty)=true) (w:World):
  Calls P f #[] w fun e w'=>e=.returned (.bool true)∧Go.RowKit.Below w.heap.size w w':=by
 have hok:=zlX hm htab ho n;cases hc0:(ztf D fns n).call 0 f [] HY.empty with
 | none=>rw[hc0]at h; cases h
 | some res=>
  rw[hc0]at h;obtain⟨cr,H'⟩:=res;obtain⟨h',hc,_⟩:=(zln D fns n).call _ _ _ _ [] _ _ ⟨rfl,fun k=>by simp[HY.empty,Tr.get]⟩ hc0;have hS:Sim P 0 w (fun _=>none) [] w:=⟨qak _,Go.RowKit.Below.refl _ _,by simp,by simp,by simp,by simp,by simp⟩;obtain⟨_,hcalls⟩:=(hok.call _ _ _ _ _ _ hc).1 w (fun _=>none) w #[] hS ⟨rfl,by simp⟩;have hw:CallsIn Fence.wide 0 P f #[] w (zn8 P 0 w (fun _=>none) cr h'):=hcalls;refine Calls.mono (callsIn_wide.1 hw) fun e w' hp=>?_
  obtain⟨ι',_,hS',hp⟩:=hp;unfold zlZ at h;split at h
  ·rename_i b h2 heq;cases heq;obtain⟨u,rfl,hv⟩:=hp;cases hv;subst h;exact⟨rfl,hS'.below⟩
  cases h
end Go.Mx
