/-
 The machine with tries: code, calls, runs. Conditions: none.
-/
import Derived.Test.YtnfgibomhkbcpaaNtMx21
set_option linter.unusedSimpArgs false
set_option linter.unusedVariables false
namespace Go.Mx
open Go
def zzM(x:Option (Ex×TY))(k:KY):Option (Ex×TY):=
 match x with
 | some (.normal,T')=>k T'
 | x=>x
def zzc(b:Option Bool)(x y:KY)(T:TY):Option (Ex×TY):=
 match b with
 | some true=>x T
 | some false=>y T
 | none=>none
def zvQ(id:Nat)(x:Option (Ex×TY)):Option (Ex×TY):=
 match x with
 | some (.exit id',T')=>bif Nat.beq id' id then some (.normal,T')else some (.exit id',T')
 | x=>x
def zxA(rd:Option Nat)(H:HY):Bool:=
 match rd with
 | none=>true
 | some l=>match H.t.get l with
  | some (.loop ..)=>true
  | _=>false
theorem zt5{H:HY}{h:zal}(hh:zeJ H h)(rd:Option Nat):zxA rd H=zqQ rd h:=by
 cases rd with
 | none=>rfl
 | some l=>simp only[zxA,zqQ,hh.2]; rfl
def ztt{α:Type}(rd:Option Nat)(T:TY)(k:List Df→HY→Option α):Option α:=
 match rd with
 | none=>zkh T.hp .dfr fun n H=>k (.coll n :: T.dfs) H
 | some _=>k T.dfs T.hp
theorem zpE{α:Type}{T:TY}{S:St}(hS:RY T S){rd:Option Nat}{k:List Df→HY→Option α}{x:α}(hc:ztt rd T k=some x):∃ H,zeJ H (zbT rd S)∧k (zha rd S) H=some x:=by
 cases rd with
 | none=>
  obtain⟨H,g1,g2⟩:=zgi hS.2.2.2 hc;exact⟨H,g1,by rw[hS.2.2.1]at g2; exact g2⟩
 | some l=>exact⟨T.hp,hS.2.2.2,by rw[← show T.dfs=zha (some l) S from hS.2.2.1]; exact hc⟩
def zwo(T:TY)(ds:List Df)(n:Nat)(x:Option (CR×HY)):Option (Ex×TY):=
 match x with
 | some (.ret _,h)=>(match h.t.get n with
  | some (.loop true none _ _ _ _)=>zkY h n .dead fun h'=>some (.normal,⟨T.N,T.env,ds,h'⟩)
  | some (.loop false (some j) _ _ _ _)=>zkY h n .dead fun h'=>some (zrU j,⟨T.N,T.env,ds,h'⟩)
  | _=>none)
 | some (.pan v,h)=>some (.panic v true,⟨T.N,T.env,ds,h⟩)
 | none=>none
def zvX(r:RecY)(B:Nat)(rd:Option Nat)(v:Option V)(ps:List Nat)(asg body:C)(T:TY):Option (Ex×TY):=
 match v with
 | some (.clo gf first cap)=>bif zxA rd T.hp then ztt rd T fun ds H=>zc4 (zwN T) fun env=>zkh H (.loop true none env ps asg body) fun n H'=>
   zc4 (first ++ [.yld n]++ cap) fun args=>zwo T ds n (r.call B gf args H')else none
 | _=>none
def zej(r:RecY)(B:Nat)(rd:Option Nat):C→KY
 | .skip=>fun T=>some (.normal,T)
 | .label _=>fun T=>some (.normal,T)
 | .reg dr bar os=>zkM r B bar rd.isNone (!dr) os
 | .seq a b=>fun T=>zzM (zej r B rd a T) (zej r B rd b)
 | .cond x a b=>fun T=>zzc (zo6 (evY T x)) (zej r B rd a) (zej r B rd b) T
 | .block id c=>fun T=>zvQ id (zej r B rd c T)
 | .loop c=>fun T=>zzM (zej r B rd c T) (r.code B rd (.loop c))
 | .scope c=>zej r B rd c
 | .exit id=>fun T=>some (.exit id,T)
 | .ret=>fun T=>some (.ret,T)
 | .zec x ps asg body=>fun T=>zvX r B rd (evY T x) ps asg body T
 | .bad=>fun _=>none
theorem zsF{T:TY}{S:St}(h:RY T S)(x:X):zo6 (evY T x)=evB S.env x:=by simp only[zo6,evB,zie h]; rfl
theorem zcH{rY:RecY}{r:Rec}(hr:RRY rY r){B:Nat}{rd:Option Nat}:∀(c:C) (T T':TY) (S:St) (ex:Ex),RY T S→zej rY B rd c T=some (ex,T')→∃ S',exec r B rd c S=some (ex,S')∧RY T' S'
 | .skip,T,T',S,ex,hS,hc=>by simp only[zej,qae,qag]at hc; obtain⟨rfl,rfl⟩:=hc; exact⟨S,rfl,hS⟩
 | .label _,T,T',S,ex,hS,hc=>by simp only[zej,qae,qag]at hc; obtain⟨rfl,rfl⟩:=hc; exact⟨S,rfl,hS⟩
 | .exit _,T,T',S,ex,hS,hc=>by simp only[zej,qae,qag]at hc; obtain⟨rfl,rfl⟩:=hc; exact⟨S,rfl,hS⟩
 | .ret,T,T',S,ex,hS,hc=>by simp only[zej,qae,qag]at hc; obtain⟨rfl,rfl⟩:=hc; exact⟨S,rfl,hS⟩
 | .reg dr bar os,T,T',S,ex,hS,hc=>zjk hr os T S hS hc
 | .seq a b,T,T',S,ex,hS,hc=>by
  simp only[zej,zzM]at hc;simp only[exec];split at hc
  ·rename_i T1 hx;obtain⟨S1,g1,g2⟩:=zcH hr a T T1 S _ hS hx;rw[g1];exact zcH hr b T1 T' S1 ex g2 hc
  ·rename_i x hx;obtain⟨S1,g1,g2⟩:=zcH hr a T T' S ex hS hc;rw[g1];cases ex with
   | normal=>exact absurd hc (hx T')
   | _=>exact⟨S1,rfl,g2⟩
 | .cond x a b,T,T',S,ex,hS,hc=>by
  simp only[zej,zzc,zsF hS]at hc;simp only[exec];split at hc
  ·rename_i hb;rw[hb];exact zcH hr a T T' S ex hS hc
  ·rename_i hb;rw[hb];exact zcH hr b T T' S ex hS hc
  ·cases hc
 | .block id c,T,T',S,ex,hS,hc=>by
  simp only[zej,zvQ]at hc;simp only[exec];split at hc
  ·rename_i id' T1 hx;obtain⟨S1,g1,g2⟩:=zcH hr c T T1 S _ hS hx;rw[g1];simp only[znz]at hc ⊢;cases hid:(id' == id)<;> simp only[hid,cond_true,cond_false,qae,qag]at hc ⊢<;>(obtain⟨rfl,rfl⟩:=hc; exact⟨S1,⟨rfl,rfl⟩,g2⟩)
  ·rename_i x hx;obtain⟨S1,g1,g2⟩:=zcH hr c T T' S ex hS hc;rw[g1];cases ex with
   | exit id'=>exact absurd hc (hx id' T')
   | _=>exact⟨S1,rfl,g2⟩
 | .loop c,T,T',S,ex,hS,hc=>by
  simp only[zej,zzM]at hc;simp only[exec];split at hc
  ·rename_i T1 hx;obtain⟨S1,g1,g2⟩:=zcH hr c T T1 S _ hS hx;rw[g1];exact hr.code _ _ _ _ _ _ _ g2 hc
  ·rename_i x hx;obtain⟨S1,g1,g2⟩:=zcH hr c T T' S ex hS hc;rw[g1];cases ex with
   | normal=>exact absurd hc (hx T')
   | _=>exact⟨S1,rfl,g2⟩
 | .scope c,T,T',S,ex,hS,hc=>zcH hr c T T' S ex hS hc
 | .zec x ps asg body,T,T',S,ex,hS,hc=>by
  simp only[zej,zvX,zie hS,zt5 hS.2.2.2,zcE,zuD hS]at hc;simp only[exec];split at hc
  ·rename_i gf first cap hx
   rw[hx];cases hok:zqQ rd S.heap with
   | false=>rw[hok,cond_false]at hc; cases hc
   | true=>
    rw[hok,cond_true]at hc;simp only[qa7,cond_false];obtain⟨H1,g1,g2⟩:=zpE hS hc;obtain⟨H2,g3,g4⟩:=zgi g1 g2;cases hcall:rY.call B gf (first ++ [.yld (zbT rd S).length]++ cap) H2 with
    | none=>rw[hcall]at g4; cases g4
    | some res=>
     obtain⟨cr,H3⟩:=res;rw[hcall]at g4;obtain⟨h3,k1,k2⟩:=hr.call _ _ _ _ _ _ _ g3 hcall;rw[k1];cases cr with
     | ret v=>
      simp only[zwo]at g4;simp only[];rw[k2.2]at g4;split at g4
      ·rename_i hh;rw[hh];obtain⟨H4,m1,m2⟩:=zeB k2 g4;simp only[qae,qag]at m2;obtain⟨rfl,rfl⟩:=m2;exact⟨_,rfl,hS.1,hS.2.1,rfl,m1⟩
      ·rename_i hh;rw[hh];obtain⟨H4,m1,m2⟩:=zeB k2 g4;simp only[qae,qag]at m2;obtain⟨rfl,rfl⟩:=m2;exact⟨_,rfl,hS.1,hS.2.1,rfl,m1⟩
      ·cases g4
     | pan v=>
      simp only[zwo,qae,qag]at g4;obtain⟨rfl,rfl⟩:=g4;exact⟨_,rfl,hS.1,hS.2.1,rfl,k2⟩
  ·cases hc
 | .bad,T,T',S,ex,hS,hc=>by cases hc
def ziG(r:RecY)(B:Nat)(pv:Option V):List Df→HY→Option (Option V×HY)
 | [],h=>some (pv,h)
 | .coll d :: ds,h=>(match h.t.get d with
  | some .dfr=>bif Nat.ble B d then zkY h d .dead fun h'=>ziG r B pv ds h' else none
  | _=>none)
 | .fn f args :: ds,h=>(match r.dcall B f args pv h with
  | some (pv',h')=>ziG r B pv' ds h'
  | none=>none)
theorem zgm{rY:RecY}{r:Rec}(hr:RRY rY r){B:Nat}{pv':Option V}{H':HY}:∀(ds:List Df) (pv:Option V) (H:HY) (h:zal),zeJ H h→ziG rY B pv ds H=some (pv',H')→∃ h',leave r B pv ds h=some (pv',h')∧zeJ H' h'
 | [],pv,H,h,hh,hc=>by
  simp only[ziG,qae,qag]at hc;obtain⟨rfl,rfl⟩:=hc;exact⟨h,rfl,hh⟩
 | .coll d :: ds,pv,H,h,hh,hc=>by
  simp only[ziG,hh.2]at hc;simp only[leave];split at hc
  ·rename_i hd;rw[hd];simp only[];cases hB:Nat.ble B d with
   | false=>rw[hB,cond_false]at hc; cases hc
   | true=>
    rw[hB,cond_true]at hc;simp only[cond_true];obtain⟨H1,g1,g2⟩:=zeB hh hc;exact zgm hr ds pv H1 _ g1 g2
  ·cases hc
 | .fn f args :: ds,pv,H,h,hh,hc=>by
  simp only[ziG]at hc;simp only[leave];split at hc
  ·rename_i pv1 H1 hd;obtain⟨h1,g1,g2⟩:=hr.dcall _ _ _ _ _ _ _ _ hh hd;rw[g1];exact zgm hr ds pv1 H1 h1 g2 hc
  cases hc
def zkp(H:HY)(T:TY):RX→Option V
 | .tmp k=>zt6 T k
 | .cell k n=>zo8 (zt6 T k) H n
def zkQ{α:Type}(H:HY)(T:TY)(k:List V→Option α):List RX→Option α
 | []=>k []
 | x :: r=>match zkp H T x with
  | some v=>fcX v fun v'=>zkQ H T (fun vs=>k (v' :: vs)) r
  | none=>none
theorem zpR{α:Type}{H:HY}{h:zal}(hh:zeJ H h){T:TY}{S:St}(hS:RY T S):∀(l:List RX) (k:List V→Option α),zkQ H T k l=(zcs h S.env l).bind k:=by
 have one:∀ x,zkp H T x=zfY h S.env x:=by
  intro x;rw[← zqn];cases x with
  | tmp k=>simp only[zkp,zh1,hS.2.1,zgj]
  | cell k n=>
   simp only[zkp,zh1,hS.2.1,zgj,zo8,znY hh,zqZ];rfl
 intro l;induction l with
 | nil=>intro k; rfl
 | cons x r ih=>
  intro k;simp only[zkQ,zcs,one,zvJ,ih];cases zfY h S.env x<;>cases zcs h S.env r<;>rfl
def zso(r:RecY)(B:Nat)(fn:Fn)(pv:Option V)(e:Bool)(T:TY):Option (CR×HY):=
 match ziG r B pv T.dfs T.hp with
 | some (none,h)=>bif !e then none else zkQ h T (fun vs=>some (.ret (zgb vs),h)) fn.rs
 | some (some v,h)=>some (.pan v,h)
 | none=>none
theorem zk9{rY:RecY}{r:Rec}(hr:RRY rY r){B:Nat}{fn:Fn}{pv:Option V}{e:Bool}{T:TY}{S:St}{cr:CR}{H':HY}(hS:RY T S)(hc:zso rY B fn pv e T=some (cr,H')):∃ h',fin r B fn pv e S=some (cr,h')∧zeJ H' h':=by
 unfold zso at hc;unfold fin;rw[hS.2.2.1]at hc;split at hc
 ·rename_i H hl;obtain⟨h,g1,g2⟩:=zgm hr _ _ _ _ hS.2.2.2 hl;rw[g1];cases e with
  | false=>simp only[qbG,cond_true]at hc; cases hc
  | true=>
   simp only[qa7,cond_false]at hc ⊢;rw[zpR g2 hS]at hc;cases hx:zcs h S.env fn.rs with
   | none=>rw[hx]at hc; cases hc
   | some vs=>
    rw[hx]at hc;simp only[qaa,qae,qag]at hc;obtain⟨rfl,rfl⟩:=hc;exact⟨h,rfl,g2⟩
 ·rename_i v H hl;obtain⟨h,g1,g2⟩:=zgm hr _ _ _ _ hS.2.2.2 hl;rw[g1];simp only[qae,qag]at hc;obtain⟨rfl,rfl⟩:=hc;exact⟨h,rfl,g2⟩
 cases hc
def zBq(r:RecY)(B:Nat)(fn:Fn)(x:Option (Ex×TY)):Option (CR×HY):=
 match x with
 | some (.normal,S)=>zso r B fn none true S
 | some (.ret,S)=>zso r B fn none true S
 | some (.panic v e,S)=>zso r B fn (some v) e S
 | _=>none
def zs3(r:RecY)(fn:Fn)(B:Nat)(args:List V)(H:HY):Option (CR×HY):=
 bif Nat.ble args.length fn.N then zdw fn.N fun N=>zxU args 0 .leaf fun t=>zBq r B fn (zej r B none fn.c ⟨N,t,[],H⟩)else none
theorem zsO{args:List V}{N:Nat}(hN:args.length≤N){t:Tr V}(h:∀ j,t.get j=if 0≤j∧j<0+args.length then args[j - 0]? else(Tr.leaf:Tr V).get j){H:HY}{hp:zal}(hh:zeJ H hp):
  RY ⟨N,t,[],H⟩ ⟨args ++ List.replicate (N - args.length) zaT,[],hp⟩:=by
 refine⟨by simp; omega,fun k=>?_,rfl,hh⟩;simp only[zt6,h,qbi,List.getElem?_replicate];by_cases hk:k<args.length
 ·rw[if_pos (by omega),qcy,if_pos hk,qad hk]
 rw[if_neg (by omega),if_neg hk];simp only[Tr.get,zfA];by_cases hk2:k<N
 ·rw[if_pos (by omega)]; simp[hk2]
 rw[if_neg (by omega)]; simp[hk2]
theorem zog{rY:RecY}{r:Rec}(hr:RRY rY r){B:Nat}{fn:Fn}{args:List V}{H H':HY}{h:zal}(hh:zeJ H h){cr:CR}(hc:zs3 rY fn B args H=some (cr,H')):∃ h',body r fn B args h=some (cr,h')∧zeJ H' h':=by
 unfold zs3 at hc;unfold body;cases hle:Nat.ble args.length fn.N with
 | false=>rw[hle,cond_false]at hc; cases hc
 | true=>
  rw[hle,cond_true,zcm]at hc;simp only[cond_true];obtain⟨t,g1,g2⟩:=zkN _ _ _ _ hc;have hS:=zsO (qaf hle) g2 hh;cases hx:zej rY B none fn.c ⟨fn.N,t,[],H⟩with
  | none=>rw[hx]at g1; cases g1
  | some res=>
   obtain⟨ex,T'⟩:=res;obtain⟨S',k1,k2⟩:=zcH hr _ _ _ _ _ hS hx;rw[hx]at g1;rw[k1];cases ex with
   | normal=>exact zk9 hr k2 g1
   | ret=>exact zk9 hr k2 g1
   | panic v e=>exact zk9 hr k2 g1
   | exit id=>cases g1
def znd(H:HY)(x:Option (CR×HY)):Option (CR×HY):=
 match x with
 | some (.ret v,_)=>bif v.plain then some (.ret v,H)else none
 | some (.pan v,_)=>bif v.plain then some (.pan v,H)else none
 | none=>none
def zzx(r:RecY)(fn:Fn)(B:Nat)(args:List V)(H:HY):Option (CR×HY):=bif Nat.ble B H.n then znd H (zs3 r fn H.n args H)else none
def zqP(r:RecY)(fns:Nat→Option Fn)(B:Nat)(f:Nat)(args:List V)(H:HY):Option (CR×HY):=
 match fns f with
 | some fn=>bif fn.p then zzx r fn B args H else zs3 r fn B args H
 | none=>none
theorem zs1{rY:RecY}{r:Rec}(hr:RRY rY r){fns:Nat→Option Fn}{B f:Nat}{args:List V}{H H':HY}{h:zal}(hh:zeJ H h){cr:CR}(hc:zqP rY fns B f args H=some (cr,H')):∃ h',zhz r fns B f args h=some (cr,h')∧zeJ H' h':=by
 unfold zqP at hc;unfold zhz;split at hc
 ·rename_i fn hfn;rw[hfn];cases hp:fn.p with
  | false=>
   rw[hp,cond_false]at hc;simp only[hp,cond_false];exact zog hr hh hc
  | true=>
   rw[hp,cond_true]at hc;simp only[hp,cond_true];unfold zzx at hc;rw[hh.1]at hc;cases hB:Nat.ble B h.length with
   | false=>rw[hB,cond_false]at hc; cases hc
   | true=>
    rw[hB,cond_true]at hc;simp only[cond_true];cases hb:zs3 rY fn h.length args H with
    | none=>rw[hb]at hc; cases hc
    | some y=>
     obtain⟨cr1,H1⟩:=y;rw[hb]at hc;obtain⟨h1,g1,_⟩:=zog hr hh hb;rw[g1];cases cr1 with
     | ret v=>
      simp only[znd]at hc;simp only[forget];cases hv:v.plain with
      | false=>rw[hv,cond_false]at hc; cases hc
      | true=>
       rw[hv,cond_true]at hc;simp only[qae,qag]at hc;obtain⟨rfl,rfl⟩:=hc;exact⟨h,rfl,hh⟩
     | pan v=>
      simp only[znd]at hc;simp only[forget];cases hv:v.plain with
      | false=>rw[hv,cond_false]at hc; cases hc
      | true=>
       rw[hv,cond_true]at hc;simp only[qae,qag]at hc;obtain⟨rfl,rfl⟩:=hc;exact⟨h,rfl,hh⟩
 cases hc
def zsx(d:List V→Option V→zal→Option (Option V×zal))(args:List V)(pv:Option V)(H:HY):Option (Option V×HY):=
 match d args pv (zru H)with
 | some (pv',h')=>zxU h' 0 .leaf fun t=>zdw h'.length fun n=>some (pv',⟨n,t⟩)
 | none=>none
theorem zr0{l:zal}{t:Tr Ob}(h:∀ j,t.get j=if 0≤j∧j<0+l.length then l[j - 0]? else(Tr.leaf:Tr Ob).get j):zeJ ⟨l.length,t⟩ l:=by
 refine⟨rfl,fun k=>?_⟩;simp only[h];by_cases hk:k<l.length
 ·rw[if_pos (by omega),qcy]
 rw[if_neg (by omega),qa9 (by omega)]; rfl
theorem zsj{d:List V→Option V→zal→Option (Option V×zal)}{args:List V}{pv pv':Option V}{H H':HY}{h:zal}(hh:zeJ H h)(hc:zsx d args pv H=some (pv',H')):∃ h',d args pv h=some (pv',h')∧zeJ H' h':=by
 unfold zsx at hc;rw[zrX hh]at hc;split at hc
 ·rename_i pv1 h1 hd;obtain⟨t,g1,g2⟩:=zkN _ _ _ _ hc;simp only[zcm,qae,qag]at g1;obtain⟨rfl,rfl⟩:=g1;exact⟨h1,hd,zr0 g2⟩
 cases hc
structure Ans where
 res:Nat→CR
 new:Option Ob
abbrev Dcd:=(Nat→Option (List V))→Nat→List V→Option Ans
def Ans.ap(h:zal)(a:Ans):CR×zal:=
 match a.new with
 | none=>(a.res h.length,h)
 | some o=>(a.res h.length,h ++ [o])
def ztv(D:Dcd):Orc:=fun _ f args h=>(D (zax h) f args).map (Ans.ap h)
def zzX(H:HY)(a:Ans):Option (CR×HY):=
 match a.new with
 | none=>some (a.res H.n,H)
 | some o=>zdw H.n fun m=>Tr.put o 40 H.t m fun t'=>zdw (Nat.succ m) fun n'=>some (a.res m,⟨n',t'⟩)
theorem zwl{H H':HY}{h:zal}(hh:zeJ H h){a:Ans}{cr:CR}(hc:zzX H a=some (cr,H')):∃ h',a.ap h=(cr,h')∧zeJ H' h':=by
 unfold zzX at hc;unfold Ans.ap;cases hn:a.new with
 | none=>
  rw[hn]at hc;simp only[qae,qag]at hc;obtain⟨rfl,rfl⟩:=hc;exact⟨h,by rw[hh.1],hh⟩
 | some o=>
  rw[hn]at hc;simp only[zcm]at hc;have hc2:zkh H o (fun m H2=>some (a.res m,H2))=some (cr,H'):=by
   simp only[zkh,zcm,znV]; exact hc
  obtain⟨H2,g1,g2⟩:=zgi hh hc2;simp only[qae,qag]at g2;obtain⟨rfl,rfl⟩:=g2;exact⟨_,rfl,g1⟩
def zBC(x:Option Ans)(H:HY)(k:HY→Option (CR×HY)):Option (CR×HY):=
 match x with
 | some a=>zzX H a
 | none=>k H
def RecY.none:RecY:=⟨fun _ _ _ _=>.none,fun _ _ _ _=>.none,fun _ _ _ _ _=>.none⟩
def zxb(D:Dcd)(fns:Nat→Option Fn):Nat→RecY
 | 0=>RecY.none
 | n+1=>⟨zej (zxb D fns n),fun B f args H=>zBC (D (zrB H) f args) H (zqP (zxb D fns n) fns B f args),fun B f=>zsx (zn8 (zr1 (ztv D) fns n) fns B f)⟩
theorem zn6(D:Dcd)(fns:Nat→Option Fn):∀ n,RRY (zxb D fns n) (zr1 (ztv D) fns n)
 | 0=>⟨fun _ _ _ _ _ _ _ _ h=>(by cases h),fun _ _ _ _ _ _ _ _ h=>(by cases h),fun _ _ _ _ _ _ _ _ _ h=>(by cases h)⟩
 | n+1=>by
  refine⟨fun B rd c T S ex T' hS hc=>zcH (zn6 D fns n) c T T' S ex hS hc,fun B f args H h cr H' hh hc=>?_,fun B f args pv H h pv' H' hh hc=>zsj hh hc⟩;simp only[zxb]at hc;simp only[zr1,ztv];rw[show zrB H=zax h from funext (znY hh)]at hc;cases ho:D (zax h) f args with
  | some y=>
   rw[ho]at hc;obtain⟨h',g1,g2⟩:=zwl hh hc;exact⟨h',by simp only[qaP,zqC,g1],g2⟩
  | none=>
   rw[ho]at hc;exact zs1 (zn6 D fns n) hh hc
def znI:Option (CR×HY)→Bool
 | some (.ret (.lit (.bool b)),_)=>b
 | _=>false
def HY.empty:HY:=⟨0,.leaf⟩
def noD:Dcd:=fun _ _ _=>none
theorem zzy(P:Program):zgC P (ztv noD):=fun _ _ _ _ _ _ h=>(by cases h)
theorem zkw{P:Program}(hm:P.follows .mixedOrders=true){fns:Nat→Option Fn}(htab:∀ f fn,fns f=some fn→zmU P f fn){D:Dcd}(ho:zgC P (ztv D)){n f:Nat}
  (h:znI ((zxb D fns n).call 0 f [] HY.empty)=true) (w:World):
  Calls P f #[] w fun e w'=>e=.returned (.bool true)∧Go.RowKit.Below w.heap.size w w':=by
 have hok:=znW hm htab ho n;cases hc0:(zxb D fns n).call 0 f [] HY.empty with
 | none=>rw[hc0]at h; cases h
 | some res=>
  rw[hc0]at h;obtain⟨cr,H'⟩:=res;obtain⟨h',hc,_⟩:=(zn6 D fns n).call _ _ _ _ [] _ _ ⟨rfl,fun k=>by simp[HY.empty,Tr.get]⟩ hc0;have hS:Sim P 0 w (fun _=>none) [] w:=⟨qal _,Go.RowKit.Below.refl _ _,by simp,by simp,by simp,by simp,by simp⟩;obtain⟨_,hcalls⟩:=(hok.call _ _ _ _ _ _ hc).1.1 w (fun _=>none) w #[] hS ⟨rfl,by simp⟩;have hw:CallsIn Fence.wide 0 P f #[] w (zeH P 0 w (fun _=>none) cr h'):=hcalls;refine Calls.mono (callsIn_wide.1 hw) fun e w' hp=>?_
  obtain⟨ι',_,hS',hp⟩:=hp;unfold znI at h;split at h
  ·rename_i b h2 heq;cases heq;obtain⟨u,rfl,hv⟩:=hp;cases hv;subst h;exact⟨rfl,hS'.below⟩
  cases h
end Go.Mx
