/-
 The library's functions that make a list of one's own out of another: what they come to, one's own memory seen. Conditions: none.
-/
import Derived.Test.YtnfgibomhkbcpaaFgDm
set_option linter.unusedSimpArgs false
set_option linter.unusedVariables false
namespace Go.Dc
open Go Go.Mx Go.Lx Go.Proofs
section
variable {c:Cx} {L:List LB} {H:zan} {B:Nat} {k0:Nat} {S:LSt} {Q:LX→LSt→Prop} {bar e:Bool}
theorem zgI(hH:RelH c L H):c.le c:=⟨fun _ _ h=>h,fun _ _ h=>h,fun β y hy=>⟨y,hy,Lc.up.refl y⟩,hH.apart⟩
theorem ziy{n f:Nat}{a:V}{r:List V}{h:zan}{x:CR×zan}(hl:zje B f (a :: r) h=some x):(mC.run (n+1)).call B f (a :: r) h=some x:=by
 show zo1 (mC.orc B f (a :: r) h) (zhz (zqc mC.orc mC.fns n) mC.fns B f (a :: r) h)=_;rw[zpu,hl];rfl
theorem znG{B:Nat}{args:List V}{h:zan}{x:CR×zan}(hl:zeb B 49 args h=some x):zje B 49 args h=some x:=by
 have h0:zmS B 49 args h=none:=by unfold zmS; rw[if_neg (by decide)]
 unfold zje;rw[h0,hl];rfl
theorem zqy{B:Nat}{args:List V}{h:zan}{x:CR×zan}(hl:zoX B 103 args h=some x):zje B 103 args h=some x:=by
 have h0:zmS B 103 args h=none:=by unfold zmS; rw[if_neg (by decide)]
 have h1:zeb B 103 args h=none:=by unfold zeb; rw[if_neg (by decide)]
 unfold zje;rw[h0,h1,hl];rfl
theorem zrg{B:Nat}{args:List V}{h:zan}{x:CR×zan}(hl:zpX B 133 args h=some x):zje B 133 args h=some x:=by
 have h0:zmS B 133 args h=none:=by unfold zmS; rw[if_neg (by decide)]
 have h1:zeb B 133 args h=none:=by unfold zeb; rw[if_neg (by decide)]
 have h2:zoX B 133 args h=none:=by unfold zoX; rw[if_neg (by decide)]
 unfold zje;rw[h0,h1,h2,hl];rfl
theorem zqC{B:Nat}{args:List V}{h:zan}{x:CR×zan}(hl:zrs B 50 args h=some x):zje B 50 args h=some x:=by
 have h0:zmS B 50 args h=none:=by unfold zmS; rw[if_neg (by decide)]
 have h1:zeb B 50 args h=none:=by unfold zeb; rw[if_neg (by decide)]
 have h2:zoX B 50 args h=none:=by unfold zoX; rw[if_neg (by decide)]
 have h3:zpX B 50 args h=none:=by unfold zpX; rw[if_neg (by decide)]
 unfold zje;rw[h0,h1,h2,h3,hl];rfl
theorem zoV{xs:List Int}{ds:List D}{vs:List V}(hd:ds=xs.map fun x=>.lit (.int .i64 x))(hr:Rs c ds vs):vs.mapM zl9=some xs∧vs=xs.map fun x=>.lit (.int .i64 x):=by
 subst hd;induction xs generalizing vs with
 | nil=>
  have:vs=[]:=qay.1 (by simpa using hr.1.symm);subst this;exact⟨rfl,rfl⟩
 | cons x r ih=>
  obtain⟨v,vs',rfl,h1,h2⟩:=hr.inv;cases zhu h1;obtain⟨g1,g2⟩:=ih h2;refine⟨?_,by rw[qaB,g2]⟩;rw[qbN,g1];rfl
theorem zfU(t:Bool)(xs:List Int):(xs.map ((eI .i64).c t)).flatten=xs.map fun x=>.lit (.int .i64 x):=by
 induction xs with
 | nil=>rfl
 | cons x r ih=>rw[qaB,qa7,ih]; rfl
theorem zmL{t:Bool}{xs ys:List Int}(g:zc6 8 xs=some ys)(Qp:D→List LB→Prop):
  zdW mC bar 49 [fzE t (eI .i64) xs] L (fun d L'=>d=.sl L.length 0 1 ys.length none ys.length∧L'=L ++ [.els 1 (ys.map ((eI .i64).c true))]) Qp:=by
 have hle:=zm1 g;rw[zoO g];intro c B H vs hH hB hr;obtain⟨v,vs',rfl,h1,h2⟩:=hr.inv;have hvs:vs'=[]:=qay.1 (by simpa using h2.1.symm);subst hvs;generalize hB2:(bif bar then H.length else B)=B2;have hn1:(0:Nat)<1:=by decide
 have nilc:∀ v',v'=.lit (.slice none 0 0)→xs=[]→EvF mC B2 49 [v'] H fun cr H'=>∃ c' d L',Step c H c' H'∧RelH c' L' H'∧c.le c'∧match cr with | .ret v=>R c' d v∧(d=.sl L.length 0 1 xs.length none xs.length∧L'=L ++ [.els 1 (xs.map ((eI .i64).c true))])| .pan v=>R c' d v∧Qp d L':=by
  intro v' hv hx;subst hv;subst hx;obtain⟨g1,g2,g3⟩:=hH.new (x:=.ghost) (lb:=.els 1 []) (o:=[]) (.inl ⟨rfl,rfl⟩) fun c' hle hρ=>⟨hn1,.inl ⟨rfl,hρ⟩⟩
  rw[qa6]at g1 g2;refine⟨1,.ret (.lit (.slice none 0 0)),H,fun n hn=>?_,_,_,_,g2,g1,g3,.slg (zay _ _ _),rfl,rfl⟩;obtain⟨n,rfl⟩:∃ k,n=k+1:=⟨n - 1,by omega⟩;rfl
 have newc:∀(cs:List V),Rs c (xs.map fun x=>.lit (.int .i64 x)) cs→(∀ n,(mC.run (n+1)).call B2 49 [v] H=some (.ret (.sl H.length 0 1 xs.length none),H ++ [.blk cs]))→
   EvF mC B2 49 [v] H fun cr H'=>∃ c' d L',Step c H c' H'∧RelH c' L' H'∧c.le c'∧match cr with | .ret v=>R c' d v∧(d=.sl L.length 0 1 xs.length none xs.length∧L'=L ++ [.els 1 (xs.map ((eI .i64).c true))])| .pan v=>R c' d v∧Qp d L':=by
  intro cs hcs hrun;have hE:Els c 1 (xs.map ((eI .i64).c true)) cs:=⟨fun cells hm=>by obtain⟨x,_,rfl⟩:=qaK.1 hm; rfl,by rw[zfU]; exact hcs⟩;obtain⟨g1,g2,g3⟩:=hH.new (x:=.list H.length xs.length) (lb:=.els 1 (xs.map ((eI .i64).c true))) (o:=[.blk cs]) (.inr ⟨cs,rfl,rfl⟩) fun c' hle hρ=>⟨hn1,.inr ⟨_,cs,by rw[qba]; exact hρ,by simp,hE.mono hle⟩⟩
  refine⟨1,.ret (.sl H.length 0 1 xs.length none),H ++ [.blk cs],fun n hn=>?_,_,_,_,g2,g1,g3,.sl (zay _ _ _) (.inr ⟨rfl,rfl⟩),rfl,rfl⟩;obtain⟨n,rfl⟩:∃ k,n=k+1:=⟨n - 1,by omega⟩;exact hrun n
 have hel:(fzE t (eI .i64) xs)=.fz t 1 (xs.map ((eI .i64).c t)):=rfl;rw[hel]at h1;generalize hes:xs.map ((eI .i64).c t)=es at h1;have hlen:es.length=xs.length:=by rw[← hes,qba]
 cases h1 with
 | fzn=>exact nilc _ rfl (qay.1 (by rw[← hlen]; rfl))
 | fz0=>
  have hx:xs=[]:=qay.1 (by rw[← hlen]; rfl);subst hx;exact newc [] (Rs.nil c) fun n=>rfl
 | fz k1 k2 k3 k4 k5 k6=>
  rename_i b o cap cs;have hE:=zqe (b:=b) hH k4 k5 k6;have hrs:=hE.rel;rw[← hes,zfU,hes,Nat.mul_one]at hrs;obtain⟨q1,q2⟩:=zoV rfl hrs;refine newc _ hrs fun n=>?_
  have hlib:zje B2 49 [.sl b o 1 es.length cap] H=some (.ret (.sl H.length 0 1 xs.length none),H ++ [.blk ((cs.drop o).take es.length)]):=by
   refine znG ?_;unfold zeb;rw[if_pos rfl];cases hl:es.length with
   | zero=>rw[hl]at hlen; rw[← hlen]; simp
   | succ m=>
    simp only;rw[za7 (hH.look k1)];simp only;rw[hl]at k4 hlen;have hm:zap=140737488355328:=rfl;rw[if_pos ⟨by trivial,by omega,by rw[hlen]; omega⟩,← hl,q1];simp only;rw[hl,hlen]
  exact ziy hlib
theorem EvL.clone{k:List K}{d:Option Nat}{xs:List X}{g:Option (Nat×Bool)}{l:List O}{t:Bool}{zs ys:List Int}(hg:zc6 8 zs=some ys)(hw:zbb S.env g=some true)(hx:zfg S.env xs=some [fzE t (eI .i64) zs])
  (hk:wp mC k0 (.ops bar e l :: k) (LSt.put ⟨S.N,S.env,S.heap ++ [.els 1 (ys.map ((eI .i64).c true))]⟩ d (.sl S.heap.length 0 1 ys.length none ys.length)) Q):EvL mC k0 (.ops bar e (⟨d,.call 49 xs,g⟩:: l):: k) S Q:=
 EvL.call (Qp1:=fun _ _=>False) hw hx (zmL hg _) (fun r L' h=>by obtain⟨rfl,rfl⟩:=h; exact hk) fun _ _ h=>h.elim
theorem zq5{xs ys:List Int}{β b:Nat}{t:Bool}{m:Nat}{cs:List V}(hH:RelH c L H)(hβ:L[β]? = some (.els 1 (xs.map ((eI .i64).c t))))(hρ:c.ρ β=some (.list b m))(hm:m=xs.length)(hc:H[b]? = some (.blk cs))(hl:ys.length=xs.length):
  RelH c (L.set β (.els 1 (ys.map ((eI .i64).c true)))) (H.set b (.blk (ys.map zfh)))∧Step c H c (H.set b (.blk (ys.map zfh))):=
 hH.write hρ rfl hc fun H' hb=>⟨by decide,.inr ⟨b,_,by rw[qba,hl,← hm]; exact hρ,hb,fun cells hm=>(by obtain⟨x,_,rfl⟩:=qaK.1 hm; rfl),by
  have:(ys.map ((eI .i64).c true)).flatten=(ys.map fun x=>Value.int .i64 x).map .lit:=by rw[zfU]; simp
  rw[this];have h2:ys.map zfh=(ys.map fun x=>Value.int .i64 x).map .lit:=by simp[zfh]
  rw[h2]
  exact Rs.lits _⟩⟩
theorem zgz{α:Type}{l:List α}{i:Nat}{x:α}(h:l[i]? = some x):l.set i x=l:=by
 obtain⟨h1,rfl⟩:=qaa.1 h;exact List.set_getElem_self h1
theorem ziq{xs:List Int}{β n st:Nat}{t:Bool}{v:V}(hH:RelH c L H)(hβ:L[β]? = some (.els 1 (xs.map ((eI .i64).c t))))(hr:R c (.sl β 0 1 n none st) v)(hn:n=xs.length)(hst:st=xs.length):
  (xs=[]∧v=.lit (.slice none 0 0))∨∃ b,c.ρ β=some (.list b xs.length)∧v=.sl b 0 1 xs.length none∧H[b]? = some (.blk (xs.map zfh)):=by
 subst hn;subst hst;obtain⟨_,⟨q1,q2⟩| ⟨b,cs,hρ,hc,hE⟩⟩:=hH.obj β _ hβ
 ·have hx:xs=[]:=by simpa using q1
  refine .inl ⟨hx,?_⟩;rcases zpQ hr with⟨_,_,p1,_⟩| ⟨_,p2⟩
  ·rw[q2]at p1; cases p1
  exact p2
 rw[qba]at hρ;have hv:=zfw hr hρ;refine .inr ⟨b,hρ,by simpa using hv,?_⟩;have hrs:=hE.rel;rw[zfU]at hrs;obtain⟨_,q2⟩:=zoV rfl hrs;rw[hc,q2];rfl
def zhp(b:Nat)(xs:List Int):Option (List Int):=if xs.length * b≤zap then some (zeh xs)else none
theorem zjL{b:Nat}{xs ys:List Int}(h:zhp b xs=some ys):xs.length * b≤zap∧ys=zeh xs:=by
 unfold zhp at h;split at h
 ·rename_i hc; cases h; exact⟨hc,rfl⟩
 cases h
theorem zkg{b:Nat}{xs ys:List Int}(h:zhp b xs=some ys):ys.length=xs.length:=by rw[(zjL h).2,zhk]
theorem zj1:zeh []=[]:=by simp[zeh]
theorem zn7{β n st:Nat}{t:Bool}{xs ys:List Int}(hg:zhp 8 xs=some ys)(hβ:L[β]? = some (.els 1 (xs.map ((eI .i64).c t))))(hn:n=xs.length)(hst:st=xs.length)(Qp:D→List LB→Prop):
  zdW mC false 50 [.sl β 0 1 n none st] L (fun d L'=>d=.tup []∧L'=L.set β (.els 1 (ys.map ((eI .i64).c true)))) Qp:=by
 intro c B H vs hH hB hr;obtain⟨hbig,rfl⟩:=zjL hg;have hmb:zap=140737488355328:=rfl;obtain⟨v,vs',rfl,h1,h2⟩:=hr.inv;have hvs:vs'=[]:=qay.1 (by simpa using h2.1.symm);subst hvs;rcases ziq hH hβ h1 hn hst with⟨rfl,rfl⟩| ⟨b,hρ,rfl,hb⟩
 ·refine⟨1,.ret (.tup []),H,fun n hn=>?_,c,.tup [],L,.refl c H,hH,zgI hH,.tup rfl fun i d v h=>by simp at h,rfl,by rw[show(([]:List Int).map ((eI .i64).c t))=(zeh []).map ((eI .i64).c true)from by rw[zj1]; rfl]at hβ; exact(zgz hβ).symm⟩;obtain⟨n,rfl⟩:∃ k,n=k+1:=⟨n - 1,by omega⟩;rfl
 have hBb:B≤b:=qav hB (hH.own β _ b hρ rfl).1;obtain⟨g1,g2⟩:=zq5 hH hβ hρ rfl hb (ys:=zeh xs) (zhk xs);refine⟨1,.ret (.tup []),_,fun n hn=>?_,c,.tup [],_,g2,g1,zgI hH,.tup rfl fun i d v h=>by simp at h,rfl,rfl⟩;obtain⟨n,rfl⟩:∃ k,n=k+1:=⟨n - 1,by omega⟩;have hlib:zje B 50 [.sl b 0 1 xs.length none] H=some (.ret (.tup []),H.set b (.blk ((zeh xs).map zfh))):=by
  refine zqC ?_;unfold zrs;rw[if_pos rfl];cases hl:xs.length with
  | zero=>
   have hx:xs=[]:=qay.1 hl;subst hx;show some (CR.ret (.tup []),H)=_;have:(zeh []).map zfh=([]:List Int).map zfh:=by rw[zj1]
   rw[this,zgz hb]
  | succ m=>
   simp only;rw[za7 hb];simp only;rw[zgW];simp only;rw[if_pos ⟨⟨hBb,hl.symm⟩,by omega⟩]
 exact ziy hlib
theorem EvL.sort{k:List K}{d:Option Nat}{xs:List X}{g:Option (Nat×Bool)}{l:List O}{t:Bool}{β n st:Nat}{zs ys:List Int}(hg:zhp 8 zs=some ys)(hw:zbb S.env g=some true)(hx:zfg S.env xs=some [.sl β 0 1 n none st])
  (hβ:S.heap[β]? = some (.els 1 (zs.map ((eI .i64).c t)))) (hn:n=zs.length) (hst:st=zs.length)
  (hk:wp mC k0 (.ops false e l :: k) (LSt.put ⟨S.N,S.env,S.heap.set β (.els 1 (ys.map ((eI .i64).c true)))⟩ d (.tup [])) Q):EvL mC k0 (.ops false e (⟨d,.call 50 xs,g⟩:: l):: k) S Q:=
 EvL.call (Qp1:=fun _ _=>False) hw hx (zn7 hg hβ hn hst _) (fun r L' h=>by obtain⟨rfl,rfl⟩:=h; exact hk) fun _ _ h=>h.elim
def zkU(xs ys:List Int):List Int:=List.replicate (xs.length - ys.length) 0
def zrp(xs:List Int):Option (List Int):=some (Go.Lib.compact xs)
theorem zl4{xs ys:List Int}(h:zrp xs=some ys):ys=Go.Lib.compact xs∧ys.length≤xs.length:=by cases h; exact⟨rfl,zhO xs⟩
theorem zku{xs ys:List Int}(h:ys.length≤xs.length):(ys ++ zkU xs ys).length=xs.length:=by unfold zkU; rw[qat,List.length_replicate]; omega
theorem zjw{β n st:Nat}{t:Bool}{xs ys:List Int}(hg:zrp xs=some ys)(hβ:L[β]? = some (.els 1 (xs.map ((eI .i64).c t))))(hn:n=xs.length)(hst:st=xs.length)(Qp:D→List LB→Prop):
  zdW mC false 133 [.sl β 0 1 n none st] L (fun d L'=>d=.sl β 0 1 ys.length none xs.length∧L'=L.set β (.els 1 ((ys ++ zkU xs ys).map ((eI .i64).c true)))) Qp:=by
 intro c B H vs hH hB hr;obtain⟨hy,hle⟩:=zl4 hg;obtain⟨v,vs',rfl,h1,h2⟩:=hr.inv;have hvs:vs'=[]:=qay.1 (by simpa using h2.1.symm);subst hvs;have hpl:=zku hle;have h1':=h1;rcases ziq hH hβ h1 hn hst with⟨hx,rfl⟩| ⟨b,hρ,rfl,hb⟩
 ·have hye:ys=[]:=qay.1 (by rw[hx]at hle; simpa using hle);have hpe:ys ++ zkU xs ys=[]:=qay.1 (by rw[hpl,hx]; rfl);rw[hn,hst,hx]at h1';refine⟨1,.ret (.lit (.slice none 0 0)),H,fun n hn=>?_,c,.sl β 0 1 0 none 0,L,.refl c H,hH,zgI hH,h1',by rw[hye,hx]; rfl,?_⟩
  ·obtain⟨n,rfl⟩:∃ k,n=k+1:=⟨n - 1,by omega⟩;rfl
  rw[hpe];rw[hx]at hβ;exact(zgz hβ).symm
 have hBb:B≤b:=qav hB (hH.own β _ b hρ rfl).1;obtain⟨g1,g2⟩:=zq5 hH hβ hρ rfl hb (ys:=ys ++ zkU xs ys) hpl;refine⟨1,.ret (.sl b 0 1 ys.length none),_,fun n hn=>?_,c,_,_,g2,g1,zgI hH,.sl hρ (.inr ⟨rfl,by simp⟩),rfl,rfl⟩;obtain⟨n,rfl⟩:∃ k,n=k+1:=⟨n - 1,by omega⟩;have hlib:zje B 133 [.sl b 0 1 xs.length none] H=some (.ret (.sl b 0 1 ys.length none),H.set b (.blk ((ys ++ zkU xs ys).map zfh))):=by
  refine zrg ?_;unfold zpX;rw[if_pos rfl];cases hl:xs.length with
  | zero=>
   have hx:xs=[]:=qay.1 hl;have hye:ys=[]:=qay.1 (by rw[hx]at hle; simpa using hle);have hpe:ys ++ zkU xs ys=[]:=qay.1 (by rw[hpl,hx]; rfl);rw[hpe,hye];rw[hx]at hb;show some (CR.ret (.sl b 0 1 0 none),H)=_;have:([]:List Int).map zfh=[]:=rfl;rw[zgz hb];rfl
  | succ m=>
   simp only;rw[za7 hb];simp only;rw[zgW];simp only;rw[if_pos ⟨hBb,hl.symm⟩,hy];rfl
 exact ziy hlib
theorem EvL.zsk{k:List K}{d:Option Nat}{f:Nat}{xs:List X}{g:Option (Nat×Bool)}{l:List O}{ds:List D}{r:D}{L':List LB}{S1:LSt}(hw:zbb S.env g=some true)(hx:zfg S.env xs=some ds)(hc:zdW mC (zl1 bar f) f ds S.heap (fun d L1=>d=r∧L1=L') fun _ _=>False)
  (hs:LSt.put ⟨S.N,S.env,L'⟩ d r=some S1) (hk:EvL mC k0 (.ops bar e l :: k) S1 Q):EvL mC k0 (.ops bar e (⟨d,.call f xs,g⟩:: l):: k) S Q:=by
 intro c0 H0 c B rd M hd hway hr hB;obtain⟨vs,g1,g2⟩:=zbO hr hx;refine EvO.call (zb5 hr hw) rfl g1 (EvF.mono (hc c B M.heap vs hr.heap hB g2) ?_);rintro cr H' ⟨c',r',L1,h1,h2,h3,h4⟩;cases cr with
 | ret v=>
  obtain⟨h4,rfl,rfl⟩:=h4;exact hk c0 H0 c' B rd _ hd (by cases d<;>exact hway.go h1 h3 hr.heap rfl) (zc4 hr h3 h2 h4 hs) (by rw[h1.base]; exact hB)
 | pan v=>exact h4.2.elim
theorem EvL.compact{k:List K}{d:Option Nat}{xs:List X}{g:Option (Nat×Bool)}{l:List O}{t:Bool}{β n st:Nat}{zs ys:List Int}(hg:zrp zs=some ys)(hw:zbb S.env g=some true)(hx:zfg S.env xs=some [.sl β 0 1 n none st])
  (hβ:S.heap[β]? = some (.els 1 (zs.map ((eI .i64).c t)))) (hn:n=zs.length) (hst:st=zs.length)
  {S1:LSt} (hs:LSt.put ⟨S.N,S.env,S.heap.set β (.els 1 ((ys ++ zkU zs ys).map ((eI .i64).c true)))⟩ d (.sl β 0 1 ys.length none zs.length)=some S1) (hk:EvL mC k0 (.ops false e l :: k) S1 Q):EvL mC k0 (.ops false e (⟨d,.call 133 xs,g⟩:: l):: k) S Q:=
 EvL.zsk hw hx (zjw hg hβ hn hst _) hs hk
def zpw(xs:List Int)(i j:Int):Option (List Int):=if(0≤i∧i≤j∧j≤xs.length)∧0<xs.length then some (xs.take i.toNat ++ xs.drop j.toNat)else none
theorem zl8{xs ys:List Int}{i j:Int}(h:zpw xs i j=some ys):((0≤i∧i≤j∧j≤xs.length)∧0<xs.length)∧ys=xs.take i.toNat ++ xs.drop j.toNat:=by
 unfold zpw at h;split at h
 ·rename_i hc; cases h; exact⟨hc,rfl⟩
 cases h
theorem zkR{β n st:Nat}{t:Bool}{xs ys:List Int}{i j:Int}(hg:zpw xs i j=some ys)(hβ:L[β]? = some (.els 1 (xs.map ((eI .i64).c t))))(hn:n=xs.length)(hst:st=xs.length)(Qp:D→List LB→Prop):
  zdW mC false 103 [.sl β 0 1 n none st,.lit (.int .i64 i),.lit (.int .i64 j)] L (fun d L'=>d=.sl β 0 1 ys.length none xs.length∧L'=L.set β (.els 1 ((ys ++ zkU xs ys).map ((eI .i64).c true)))) Qp:=by
 intro c B H vs hH hB hr;obtain⟨⟨⟨hi,hij,hj⟩,h0⟩,hy⟩:=zl8 hg;obtain⟨v,vs',rfl,h1,hr⟩:=hr.inv;obtain⟨v1,vs',rfl,h2,hr⟩:=hr.inv;obtain⟨v2,vs',rfl,h3,hr⟩:=hr.inv;have hvs:vs'=[]:=qay.1 (by simpa using hr.1.symm);subst hvs;cases zhu h2;cases zhu h3;have hyl:ys.length=xs.length - (j.toNat - i.toNat):=by rw[hy]; simp; omega
 have hpl:=zku (xs:=xs) (ys:=ys) (by omega);rcases ziq hH hβ h1 hn hst with⟨hx,rfl⟩| ⟨b,hρ,rfl,hb⟩
 ·rw[hx]at h0; simp at h0
 have hBb:B≤b:=qav hB (hH.own β _ b hρ rfl).1;obtain⟨g1,g2⟩:=zq5 hH hβ hρ rfl hb (ys:=ys ++ zkU xs ys) hpl;refine⟨1,.ret (.sl b 0 1 ys.length none),_,fun n hn=>?_,c,_,_,g2,g1,zgI hH,.sl hρ (.inr ⟨rfl,by simp⟩),rfl,rfl⟩;obtain⟨n,rfl⟩:∃ k,n=k+1:=⟨n - 1,by omega⟩;have hlib:zje B 103 [.sl b 0 1 xs.length none,.lit (.int .i64 i),.lit (.int .i64 j)] H=some (.ret (.sl b 0 1 ys.length none),H.set b (.blk ((ys ++ zkU xs ys).map zfh))):=by
  refine zqy ?_;unfold zoX;rw[if_pos rfl];simp only;rw[za7 hb];simp only;rw[zgW];simp only;have hp:zkU xs ys=List.replicate (j.toNat - i.toNat) 0:=by unfold zkU; congr 1; omega
  rw[if_pos ⟨⟨hBb,by trivial,h0⟩,hi,hij,hj⟩,hp,hyl,hy]
 exact ziy hlib
theorem EvL.delete{k:List K}{d:Option Nat}{xs:List X}{g:Option (Nat×Bool)}{l:List O}{t:Bool}{β n st:Nat}{i j:Int}{zs ys:List Int}(hg:zpw zs i j=some ys)(hw:zbb S.env g=some true)(hx:zfg S.env xs=some [.sl β 0 1 n none st,.lit (.int .i64 i),.lit (.int .i64 j)])
  (hβ:S.heap[β]? = some (.els 1 (zs.map ((eI .i64).c t)))) (hn:n=zs.length) (hst:st=zs.length)
  {S1:LSt} (hs:LSt.put ⟨S.N,S.env,S.heap.set β (.els 1 ((ys ++ zkU zs ys).map ((eI .i64).c true)))⟩ d (.sl β 0 1 ys.length none zs.length)=some S1) (hk:EvL mC k0 (.ops false e l :: k) S1 Q):EvL mC k0 (.ops false e (⟨d,.call 103 xs,g⟩:: l):: k) S Q:=
 EvL.zsk hw hx (zkR hg hβ hn hst _) hs hk
theorem ziX{xs ys:List Int}{i j:Int}(h:zpw xs i j=some ys):ys.length≤xs.length:=by
 obtain⟨⟨⟨hi,hij,hj⟩,h0⟩,hy⟩:=zl8 h;rw[hy]; simp; omega
theorem zqI{xs ys:List Int}(h:zrp xs=some ys):ys.length≤xs.length:=(zl4 h).2
theorem zg5{F:Nat→Bool}{s t t':Bool}{β st:Nat}{xs ys:List Int}(hle:ys.length≤xs.length)(hF:F β=true)(he:L[β]? = some (.els 1 ((ys ++ zkU xs ys).map ((eI .i64).c t))))(hst:st=xs.length)(h:s=true∨t'=true→t=true):
  Mz L F s (.sl β 0 1 ys.length none st) (fzE t' (eI .i64) ys):=by
 have hpl:=zku hle;refine .sl hF (zkD (.inl he) (by rw[qba,hpl,hst])) (by rw[qba,hpl]; omega) (fun k hk=>nomatch hk) (by simp) (fun i cells cells' h1 h2=>?_) fun i k cells cells' d d' h1 h2 h3 h4=>?_
 all_goals
  rw[qaQ,List.map_append]at h1;have hi:i<ys.length:=by have:=(qaa.1 h2).1; simpa using this
  rw[qak (by simpa using hi)]at h1;obtain⟨x,_,rfl,rfl⟩:=zc8 h1 h2
 ·rfl
 refine(eI .i64).mz x (fun hx=>h ?_) k d d' h3 h4;rcases hx with hx | hx
 ·cases s with
  | true=>exact .inl rfl
  | false=>exact .inr (by simpa using hx)
 exact .inr hx
end
end Go.Dc
