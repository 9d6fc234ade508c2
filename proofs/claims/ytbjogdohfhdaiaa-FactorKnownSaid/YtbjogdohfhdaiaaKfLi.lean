/-
 The library's functions that make a list of one's own out of another: what they come to, one's own memory seen. Conditions: none.
-/
import Derived.Test.YtbjogdohfhdaiaaKfDm
set_option linter.unusedSimpArgs false
set_option linter.unusedVariables false
namespace Go.Dc
open Go Go.Mx Go.Lx Go.Proofs
section
variable {c:Cx} {L:List LB} {H:zap} {B:Nat} {k0:Nat} {S:LSt} {Q:LX→LSt→Prop} {bar e:Bool}
theorem zgZ(hH:RelH c L H):c.le c:=⟨fun _ _ h=>h,fun _ _ h=>h,fun β y hy=>⟨y,hy,Lc.up.refl y⟩,hH.apart⟩
theorem zif{n f:Nat}{a:V}{r:List V}{h:zap}{x:CR×zap}(hl:ziY B f (a :: r) h=some x):(mC.run (n+1)).call B f (a :: r) h=some x:=by
 show zos (mC.orc B f (a :: r) h) (zhk (zpo mC.orc mC.fns n) mC.fns B f (a :: r) h)=_;rw[zo2,hl];rfl
theorem zoj{B:Nat}{args:List V}{h:zap}{x:CR×zap}(hl:zd1 B 25 args h=some x):ziY B 25 args h=some x:=by
 have h0:zmz B 25 args h=none:=by unfold zmz; rw[if_neg (by decide)]
 unfold ziY;rw[h0,hl];rfl
theorem zqz{B:Nat}{args:List V}{h:zap}{x:CR×zap}(hl:zor B 91 args h=some x):ziY B 91 args h=some x:=by
 have h0:zmz B 91 args h=none:=by unfold zmz; rw[if_neg (by decide)]
 have h1:zd1 B 91 args h=none:=by unfold zd1; rw[if_neg (by decide)]
 unfold ziY;rw[h0,h1,hl];rfl
theorem zqi{B:Nat}{args:List V}{h:zap}{x:CR×zap}(hl:zpv B 118 args h=some x):ziY B 118 args h=some x:=by
 have h0:zmz B 118 args h=none:=by unfold zmz; rw[if_neg (by decide)]
 have h1:zd1 B 118 args h=none:=by unfold zd1; rw[if_neg (by decide)]
 have h2:zor B 118 args h=none:=by unfold zor; rw[if_neg (by decide)]
 unfold ziY;rw[h0,h1,h2,hl];rfl
theorem zqf{B:Nat}{args:List V}{h:zap}{x:CR×zap}(hl:zq3 B 117 args h=some x):ziY B 117 args h=some x:=by
 have h0:zmz B 117 args h=none:=by unfold zmz; rw[if_neg (by decide)]
 have h1:zd1 B 117 args h=none:=by unfold zd1; rw[if_neg (by decide)]
 have h2:zor B 117 args h=none:=by unfold zor; rw[if_neg (by decide)]
 have h3:zpv B 117 args h=none:=by unfold zpv; rw[if_neg (by decide)]
 unfold ziY;rw[h0,h1,h2,h3,hl];rfl
theorem zmW{xs:List Int}{ds:List D}{vs:List V}(hd:ds=xs.map fun x=>.lit (.int .i64 x))(hr:Rs c ds vs):vs.mapM zlI=some xs∧vs=xs.map fun x=>.lit (.int .i64 x):=by
 subst hd;induction xs generalizing vs with
 | nil=>
  have:vs=[]:=qaw.1 (by simpa using hr.1.symm);subst this;exact⟨rfl,rfl⟩
 | cons x r ih=>
  obtain⟨v,vs',rfl,h1,h2⟩:=hr.inv;cases zhb h1;obtain⟨g1,g2⟩:=ih h2;refine⟨?_,by rw[qay,g2]⟩;rw[qbK,g1];rfl
theorem zfx(t:Bool)(xs:List Int):(xs.map ((eI .i64).c t)).flatten=xs.map fun x=>.lit (.int .i64 x):=by
 induction xs with
 | nil=>rfl
 | cons x r ih=>rw[qay,qa3,ih]; rfl
theorem zmq{t:Bool}{xs ys:List Int}(g:zda 8 xs=some ys)(Qp:D→List LB→Prop):
  zdX mC bar 25 [fzE t (eI .i64) xs] L (fun d L'=>d=.sl L.length 0 1 ys.length none ys.length∧L'=L ++ [.els 1 (ys.map ((eI .i64).c true))]) Qp:=by
 have hle:=zm2 g;rw[zoh g];intro c B H vs hH hB hr;obtain⟨v,vs',rfl,h1,h2⟩:=hr.inv;have hvs:vs'=[]:=qaw.1 (by simpa using h2.1.symm);subst hvs;generalize hB2:(bif bar then H.length else B)=B2;have hn1:(0:Nat)<1:=by decide
 have nilc:∀ v',v'=.lit (.slice none 0 0)→xs=[]→EvF mC B2 25 [v'] H fun cr H'=>∃ c' d L',Step c H c' H'∧RelH c' L' H'∧c.le c'∧match cr with | .ret v=>R c' d v∧(d=.sl L.length 0 1 xs.length none xs.length∧L'=L ++ [.els 1 (xs.map ((eI .i64).c true))])| .pan v=>R c' d v∧Qp d L':=by
  intro v' hv hx;subst hv;subst hx;obtain⟨g1,g2,g3⟩:=hH.new (x:=.ghost) (lb:=.els 1 []) (o:=[]) (.inl ⟨rfl,rfl⟩) fun c' hle hρ=>⟨hn1,.inl ⟨rfl,hρ⟩⟩
  rw[qa9]at g1 g2;refine⟨1,.ret (.lit (.slice none 0 0)),H,fun n hn=>?_,_,_,_,g2,g1,g3,.slg (zaM _ _ _),rfl,rfl⟩;obtain⟨n,rfl⟩:∃ k,n=k+1:=⟨n - 1,by omega⟩;rfl
 have newc:∀(cs:List V),Rs c (xs.map fun x=>.lit (.int .i64 x)) cs→(∀ n,(mC.run (n+1)).call B2 25 [v] H=some (.ret (.sl H.length 0 1 xs.length none),H ++ [.blk cs]))→
   EvF mC B2 25 [v] H fun cr H'=>∃ c' d L',Step c H c' H'∧RelH c' L' H'∧c.le c'∧match cr with | .ret v=>R c' d v∧(d=.sl L.length 0 1 xs.length none xs.length∧L'=L ++ [.els 1 (xs.map ((eI .i64).c true))])| .pan v=>R c' d v∧Qp d L':=by
  intro cs hcs hrun;have hE:Els c 1 (xs.map ((eI .i64).c true)) cs:=⟨fun cells hm=>by obtain⟨x,_,rfl⟩:=qaQ.1 hm; rfl,by rw[zfx]; exact hcs⟩;obtain⟨g1,g2,g3⟩:=hH.new (x:=.list H.length xs.length) (lb:=.els 1 (xs.map ((eI .i64).c true))) (o:=[.blk cs]) (.inr ⟨cs,rfl,rfl⟩) fun c' hle hρ=>⟨hn1,.inr ⟨_,cs,by rw[qbc]; exact hρ,by simp,hE.mono hle⟩⟩
  refine⟨1,.ret (.sl H.length 0 1 xs.length none),H ++ [.blk cs],fun n hn=>?_,_,_,_,g2,g1,g3,.sl (zaM _ _ _) (.inr ⟨rfl,rfl⟩),rfl,rfl⟩;obtain⟨n,rfl⟩:∃ k,n=k+1:=⟨n - 1,by omega⟩;exact hrun n
 have hel:(fzE t (eI .i64) xs)=.fz t 1 (xs.map ((eI .i64).c t)):=rfl;rw[hel]at h1;generalize hes:xs.map ((eI .i64).c t)=es at h1;have hlen:es.length=xs.length:=by rw[← hes,qbc]
 cases h1 with
 | fzn=>exact nilc _ rfl (qaw.1 (by rw[← hlen]; rfl))
 | fz0=>
  have hx:xs=[]:=qaw.1 (by rw[← hlen]; rfl);subst hx;exact newc [] (Rs.nil c) fun n=>rfl
 | fz k1 k2 k3 k4 k5 k6=>
  rename_i b o cap cs;have hE:=zpG (b:=b) hH k4 k5 k6;have hrs:=hE.rel;rw[← hes,zfx,hes,Nat.mul_one]at hrs;obtain⟨q1,q2⟩:=zmW rfl hrs;refine newc _ hrs fun n=>?_
  have hlib:ziY B2 25 [.sl b o 1 es.length cap] H=some (.ret (.sl H.length 0 1 xs.length none),H ++ [.blk ((cs.drop o).take es.length)]):=by
   refine zoj ?_;unfold zd1;rw[if_pos rfl];cases hl:es.length with
   | zero=>rw[hl]at hlen; rw[← hlen]; simp
   | succ m=>
    simp only;rw[zbe (hH.look k1)];simp only;rw[hl]at k4 hlen;have hm:zar=140737488355328:=rfl;rw[if_pos ⟨by trivial,by omega,by rw[hlen]; omega⟩,← hl,q1];simp only;rw[hl,hlen]
  exact zif hlib
theorem EvL.clone{k:List K}{d:Option Nat}{xs:List X}{g:Option (Nat×Bool)}{l:List O}{t:Bool}{zs ys:List Int}(hg:zda 8 zs=some ys)(hw:zaZ S.env g=some true)(hx:ze0 S.env xs=some [fzE t (eI .i64) zs])
  (hk:wp mC k0 (.ops bar e l :: k) (LSt.put ⟨S.N,S.env,S.heap ++ [.els 1 (ys.map ((eI .i64).c true))]⟩ d (.sl S.heap.length 0 1 ys.length none ys.length)) Q):EvL mC k0 (.ops bar e (⟨d,.call 25 xs,g⟩:: l):: k) S Q:=
 EvL.call (Qp1:=fun _ _=>False) hw hx (zmq hg _) (fun r L' h=>by obtain⟨rfl,rfl⟩:=h; exact hk) fun _ _ h=>h.elim
theorem zpM{xs ys:List Int}{β b:Nat}{t:Bool}{m:Nat}{cs:List V}(hH:RelH c L H)(hβ:L[β]? = some (.els 1 (xs.map ((eI .i64).c t))))(hρ:c.ρ β=some (.list b m))(hm:m=xs.length)(hc:H[b]? = some (.blk cs))(hl:ys.length=xs.length):
  RelH c (L.set β (.els 1 (ys.map ((eI .i64).c true)))) (H.set b (.blk (ys.map zeY)))∧Step c H c (H.set b (.blk (ys.map zeY))):=
 hH.write hρ rfl hc fun H' hb=>⟨by decide,.inr ⟨b,_,by rw[qbc,hl,← hm]; exact hρ,hb,fun cells hm=>(by obtain⟨x,_,rfl⟩:=qaQ.1 hm; rfl),by
  have:(ys.map ((eI .i64).c true)).flatten=(ys.map fun x=>Value.int .i64 x).map .lit:=by rw[zfx]; simp
  rw[this];have h2:ys.map zeY=(ys.map fun x=>Value.int .i64 x).map .lit:=by simp[zeY]
  rw[h2]
  exact Rs.lits _⟩⟩
theorem zgh{α:Type}{l:List α}{i:Nat}{x:α}(h:l[i]? = some x):l.set i x=l:=by
 obtain⟨h1,rfl⟩:=qaa.1 h;exact List.set_getElem_self h1
theorem ziM{xs:List Int}{β n st:Nat}{t:Bool}{v:V}(hH:RelH c L H)(hβ:L[β]? = some (.els 1 (xs.map ((eI .i64).c t))))(hr:R c (.sl β 0 1 n none st) v)(hn:n=xs.length)(hst:st=xs.length):
  (xs=[]∧v=.lit (.slice none 0 0))∨∃ b,c.ρ β=some (.list b xs.length)∧v=.sl b 0 1 xs.length none∧H[b]? = some (.blk (xs.map zeY)):=by
 subst hn;subst hst;obtain⟨_,⟨q1,q2⟩| ⟨b,cs,hρ,hc,hE⟩⟩:=hH.obj β _ hβ
 ·have hx:xs=[]:=by simpa using q1
  refine .inl ⟨hx,?_⟩;rcases zpe hr with⟨_,_,p1,_⟩| ⟨_,p2⟩
  ·rw[q2]at p1; cases p1
  exact p2
 rw[qbc]at hρ;have hv:=ze4 hr hρ;refine .inr ⟨b,hρ,by simpa using hv,?_⟩;have hrs:=hE.rel;rw[zfx]at hrs;obtain⟨_,q2⟩:=zmW rfl hrs;rw[hc,q2];rfl
def zhh(b:Nat)(xs:List Int):Option (List Int):=if xs.length * b≤zar then some (zd7 xs)else none
theorem zjN{b:Nat}{xs ys:List Int}(h:zhh b xs=some ys):xs.length * b≤zar∧ys=zd7 xs:=by
 unfold zhh at h;split at h
 ·rename_i hc; cases h; exact⟨hc,rfl⟩
 cases h
theorem zjU{b:Nat}{xs ys:List Int}(h:zhh b xs=some ys):ys.length=xs.length:=by rw[(zjN h).2,zha]
theorem zi5:zd7 []=[]:=by simp[zd7]
theorem zn4{β n st:Nat}{t:Bool}{xs ys:List Int}(hg:zhh 8 xs=some ys)(hβ:L[β]? = some (.els 1 (xs.map ((eI .i64).c t))))(hn:n=xs.length)(hst:st=xs.length)(Qp:D→List LB→Prop):
  zdX mC false 117 [.sl β 0 1 n none st] L (fun d L'=>d=.tup []∧L'=L.set β (.els 1 (ys.map ((eI .i64).c true)))) Qp:=by
 intro c B H vs hH hB hr;obtain⟨hbig,rfl⟩:=zjN hg;have hmb:zar=140737488355328:=rfl;obtain⟨v,vs',rfl,h1,h2⟩:=hr.inv;have hvs:vs'=[]:=qaw.1 (by simpa using h2.1.symm);subst hvs;rcases ziM hH hβ h1 hn hst with⟨rfl,rfl⟩| ⟨b,hρ,rfl,hb⟩
 ·refine⟨1,.ret (.tup []),H,fun n hn=>?_,c,.tup [],L,.refl c H,hH,zgZ hH,.tup rfl fun i d v h=>by simp at h,rfl,by rw[show(([]:List Int).map ((eI .i64).c t))=(zd7 []).map ((eI .i64).c true)from by rw[zi5]; rfl]at hβ; exact(zgh hβ).symm⟩;obtain⟨n,rfl⟩:∃ k,n=k+1:=⟨n - 1,by omega⟩;rfl
 have hBb:B≤b:=qav hB (hH.own β _ b hρ rfl).1;obtain⟨g1,g2⟩:=zpM hH hβ hρ rfl hb (ys:=zd7 xs) (zha xs);refine⟨1,.ret (.tup []),_,fun n hn=>?_,c,.tup [],_,g2,g1,zgZ hH,.tup rfl fun i d v h=>by simp at h,rfl,rfl⟩;obtain⟨n,rfl⟩:∃ k,n=k+1:=⟨n - 1,by omega⟩;have hlib:ziY B 117 [.sl b 0 1 xs.length none] H=some (.ret (.tup []),H.set b (.blk ((zd7 xs).map zeY))):=by
  refine zqf ?_;unfold zq3;rw[if_pos rfl];cases hl:xs.length with
  | zero=>
   have hx:xs=[]:=qaw.1 hl;subst hx;show some (CR.ret (.tup []),H)=_;have:(zd7 []).map zeY=([]:List Int).map zeY:=by rw[zi5]
   rw[this,zgh hb]
  | succ m=>
   simp only;rw[zbe hb];simp only;rw[zgG];simp only;rw[if_pos ⟨⟨hBb,hl.symm⟩,by omega⟩]
 exact zif hlib
theorem EvL.sort{k:List K}{d:Option Nat}{xs:List X}{g:Option (Nat×Bool)}{l:List O}{t:Bool}{β n st:Nat}{zs ys:List Int}(hg:zhh 8 zs=some ys)(hw:zaZ S.env g=some true)(hx:ze0 S.env xs=some [.sl β 0 1 n none st])
  (hβ:S.heap[β]? = some (.els 1 (zs.map ((eI .i64).c t)))) (hn:n=zs.length) (hst:st=zs.length)
  (hk:wp mC k0 (.ops false e l :: k) (LSt.put ⟨S.N,S.env,S.heap.set β (.els 1 (ys.map ((eI .i64).c true)))⟩ d (.tup [])) Q):EvL mC k0 (.ops false e (⟨d,.call 117 xs,g⟩:: l):: k) S Q:=
 EvL.call (Qp1:=fun _ _=>False) hw hx (zn4 hg hβ hn hst _) (fun r L' h=>by obtain⟨rfl,rfl⟩:=h; exact hk) fun _ _ h=>h.elim
def zks(xs ys:List Int):List Int:=List.replicate (xs.length - ys.length) 0
def zq0(xs:List Int):Option (List Int):=some (Go.Lib.compact xs)
theorem zlq{xs ys:List Int}(h:zq0 xs=some ys):ys=Go.Lib.compact xs∧ys.length≤xs.length:=by cases h; exact⟨rfl,zhI xs⟩
theorem zkI{xs ys:List Int}(h:ys.length≤xs.length):(ys ++ zks xs ys).length=xs.length:=by unfold zks; rw[qas,qb3]; omega
theorem zjH{β n st:Nat}{t:Bool}{xs ys:List Int}(hg:zq0 xs=some ys)(hβ:L[β]? = some (.els 1 (xs.map ((eI .i64).c t))))(hn:n=xs.length)(hst:st=xs.length)(Qp:D→List LB→Prop):
  zdX mC false 118 [.sl β 0 1 n none st] L (fun d L'=>d=.sl β 0 1 ys.length none xs.length∧L'=L.set β (.els 1 ((ys ++ zks xs ys).map ((eI .i64).c true)))) Qp:=by
 intro c B H vs hH hB hr;obtain⟨hy,hle⟩:=zlq hg;obtain⟨v,vs',rfl,h1,h2⟩:=hr.inv;have hvs:vs'=[]:=qaw.1 (by simpa using h2.1.symm);subst hvs;have hpl:=zkI hle;have h1':=h1;rcases ziM hH hβ h1 hn hst with⟨hx,rfl⟩| ⟨b,hρ,rfl,hb⟩
 ·have hye:ys=[]:=qaw.1 (by rw[hx]at hle; simpa using hle);have hpe:ys ++ zks xs ys=[]:=qaw.1 (by rw[hpl,hx]; rfl);rw[hn,hst,hx]at h1';refine⟨1,.ret (.lit (.slice none 0 0)),H,fun n hn=>?_,c,.sl β 0 1 0 none 0,L,.refl c H,hH,zgZ hH,h1',by rw[hye,hx]; rfl,?_⟩
  ·obtain⟨n,rfl⟩:∃ k,n=k+1:=⟨n - 1,by omega⟩;rfl
  rw[hpe];rw[hx]at hβ;exact(zgh hβ).symm
 have hBb:B≤b:=qav hB (hH.own β _ b hρ rfl).1;obtain⟨g1,g2⟩:=zpM hH hβ hρ rfl hb (ys:=ys ++ zks xs ys) hpl;refine⟨1,.ret (.sl b 0 1 ys.length none),_,fun n hn=>?_,c,_,_,g2,g1,zgZ hH,.sl hρ (.inr ⟨rfl,by simp⟩),rfl,rfl⟩;obtain⟨n,rfl⟩:∃ k,n=k+1:=⟨n - 1,by omega⟩;have hlib:ziY B 118 [.sl b 0 1 xs.length none] H=some (.ret (.sl b 0 1 ys.length none),H.set b (.blk ((ys ++ zks xs ys).map zeY))):=by
  refine zqi ?_;unfold zpv;rw[if_pos rfl];cases hl:xs.length with
  | zero=>
   have hx:xs=[]:=qaw.1 hl;have hye:ys=[]:=qaw.1 (by rw[hx]at hle; simpa using hle);have hpe:ys ++ zks xs ys=[]:=qaw.1 (by rw[hpl,hx]; rfl);rw[hpe,hye];rw[hx]at hb;show some (CR.ret (.sl b 0 1 0 none),H)=_;have:([]:List Int).map zeY=[]:=rfl;rw[zgh hb];rfl
  | succ m=>
   simp only;rw[zbe hb];simp only;rw[zgG];simp only;rw[if_pos ⟨hBb,hl.symm⟩,hy];rfl
 exact zif hlib
theorem EvL.zr0{k:List K}{d:Option Nat}{f:Nat}{xs:List X}{g:Option (Nat×Bool)}{l:List O}{ds:List D}{r:D}{L':List LB}{S1:LSt}(hw:zaZ S.env g=some true)(hx:ze0 S.env xs=some ds)(hc:zdX mC (zlN bar f) f ds S.heap (fun d L1=>d=r∧L1=L') fun _ _=>False)
  (hs:LSt.put ⟨S.N,S.env,L'⟩ d r=some S1) (hk:EvL mC k0 (.ops bar e l :: k) S1 Q):EvL mC k0 (.ops bar e (⟨d,.call f xs,g⟩:: l):: k) S Q:=by
 intro c0 H0 c B rd M hd hway hr hB;obtain⟨vs,g1,g2⟩:=zbW hr hx;refine EvO.call (zbO hr hw) rfl g1 (EvF.mono (hc c B M.heap vs hr.heap hB g2) ?_);rintro cr H' ⟨c',r',L1,h1,h2,h3,h4⟩;cases cr with
 | ret v=>
  obtain⟨h4,rfl,rfl⟩:=h4;exact hk c0 H0 c' B rd _ hd (by cases d<;>exact hway.go h1 h3 hr.heap rfl) (zcF hr h3 h2 h4 hs) (by rw[h1.base]; exact hB)
 | pan v=>exact h4.2.elim
theorem EvL.compact{k:List K}{d:Option Nat}{xs:List X}{g:Option (Nat×Bool)}{l:List O}{t:Bool}{β n st:Nat}{zs ys:List Int}(hg:zq0 zs=some ys)(hw:zaZ S.env g=some true)(hx:ze0 S.env xs=some [.sl β 0 1 n none st])
  (hβ:S.heap[β]? = some (.els 1 (zs.map ((eI .i64).c t)))) (hn:n=zs.length) (hst:st=zs.length)
  {S1:LSt} (hs:LSt.put ⟨S.N,S.env,S.heap.set β (.els 1 ((ys ++ zks zs ys).map ((eI .i64).c true)))⟩ d (.sl β 0 1 ys.length none zs.length)=some S1) (hk:EvL mC k0 (.ops false e l :: k) S1 Q):EvL mC k0 (.ops false e (⟨d,.call 118 xs,g⟩:: l):: k) S Q:=
 EvL.zr0 hw hx (zjH hg hβ hn hst _) hs hk
def zoE(xs:List Int)(i j:Int):Option (List Int):=if(0≤i∧i≤j∧j≤xs.length)∧0<xs.length then some (xs.take i.toNat ++ xs.drop j.toNat)else none
theorem zk9{xs ys:List Int}{i j:Int}(h:zoE xs i j=some ys):((0≤i∧i≤j∧j≤xs.length)∧0<xs.length)∧ys=xs.take i.toNat ++ xs.drop j.toNat:=by
 unfold zoE at h;split at h
 ·rename_i hc; cases h; exact⟨hc,rfl⟩
 cases h
theorem zkO{β n st:Nat}{t:Bool}{xs ys:List Int}{i j:Int}(hg:zoE xs i j=some ys)(hβ:L[β]? = some (.els 1 (xs.map ((eI .i64).c t))))(hn:n=xs.length)(hst:st=xs.length)(Qp:D→List LB→Prop):
  zdX mC false 91 [.sl β 0 1 n none st,.lit (.int .i64 i),.lit (.int .i64 j)] L (fun d L'=>d=.sl β 0 1 ys.length none xs.length∧L'=L.set β (.els 1 ((ys ++ zks xs ys).map ((eI .i64).c true)))) Qp:=by
 intro c B H vs hH hB hr;obtain⟨⟨⟨hi,hij,hj⟩,h0⟩,hy⟩:=zk9 hg;obtain⟨v,vs',rfl,h1,hr⟩:=hr.inv;obtain⟨v1,vs',rfl,h2,hr⟩:=hr.inv;obtain⟨v2,vs',rfl,h3,hr⟩:=hr.inv;have hvs:vs'=[]:=qaw.1 (by simpa using hr.1.symm);subst hvs;cases zhb h2;cases zhb h3;have hyl:ys.length=xs.length - (j.toNat - i.toNat):=by rw[hy]; simp; omega
 have hpl:=zkI (xs:=xs) (ys:=ys) (by omega);rcases ziM hH hβ h1 hn hst with⟨hx,rfl⟩| ⟨b,hρ,rfl,hb⟩
 ·rw[hx]at h0; simp at h0
 have hBb:B≤b:=qav hB (hH.own β _ b hρ rfl).1;obtain⟨g1,g2⟩:=zpM hH hβ hρ rfl hb (ys:=ys ++ zks xs ys) hpl;refine⟨1,.ret (.sl b 0 1 ys.length none),_,fun n hn=>?_,c,_,_,g2,g1,zgZ hH,.sl hρ (.inr ⟨rfl,by simp⟩),rfl,rfl⟩;obtain⟨n,rfl⟩:∃ k,n=k+1:=⟨n - 1,by omega⟩;have hlib:ziY B 91 [.sl b 0 1 xs.length none,.lit (.int .i64 i),.lit (.int .i64 j)] H=some (.ret (.sl b 0 1 ys.length none),H.set b (.blk ((ys ++ zks xs ys).map zeY))):=by
  refine zqz ?_;unfold zor;rw[if_pos rfl];simp only;rw[zbe hb];simp only;rw[zgG];simp only;have hp:zks xs ys=List.replicate (j.toNat - i.toNat) 0:=by unfold zks; congr 1; omega
  rw[if_pos ⟨⟨hBb,by trivial,h0⟩,hi,hij,hj⟩,hp,hyl,hy]
 exact zif hlib
theorem EvL.delete{k:List K}{d:Option Nat}{xs:List X}{g:Option (Nat×Bool)}{l:List O}{t:Bool}{β n st:Nat}{i j:Int}{zs ys:List Int}(hg:zoE zs i j=some ys)(hw:zaZ S.env g=some true)(hx:ze0 S.env xs=some [.sl β 0 1 n none st,.lit (.int .i64 i),.lit (.int .i64 j)])
  (hβ:S.heap[β]? = some (.els 1 (zs.map ((eI .i64).c t)))) (hn:n=zs.length) (hst:st=zs.length)
  {S1:LSt} (hs:LSt.put ⟨S.N,S.env,S.heap.set β (.els 1 ((ys ++ zks zs ys).map ((eI .i64).c true)))⟩ d (.sl β 0 1 ys.length none zs.length)=some S1) (hk:EvL mC k0 (.ops false e l :: k) S1 Q):EvL mC k0 (.ops false e (⟨d,.call 91 xs,g⟩:: l):: k) S Q:=
 EvL.zr0 hw hx (zkO hg hβ hn hst _) hs hk
theorem ziP{xs ys:List Int}{i j:Int}(h:zoE xs i j=some ys):ys.length≤xs.length:=by
 obtain⟨⟨⟨hi,hij,hj⟩,h0⟩,hy⟩:=zk9 h;rw[hy]; simp; omega
theorem zqO{xs ys:List Int}(h:zq0 xs=some ys):ys.length≤xs.length:=(zlq h).2
theorem zg4{F:Nat→Bool}{s t t':Bool}{β st:Nat}{xs ys:List Int}(hle:ys.length≤xs.length)(hF:F β=true)(he:L[β]? = some (.els 1 ((ys ++ zks xs ys).map ((eI .i64).c t))))(hst:st=xs.length)(h:s=true∨t'=true→t=true):
  Mz L F s (.sl β 0 1 ys.length none st) (fzE t' (eI .i64) ys):=by
 have hpl:=zkI hle;refine .sl hF (zkj (.inl he) (by rw[qbc,hpl,hst])) (by rw[qbc,hpl]; omega) (fun k hk=>nomatch hk) (by simp) (fun i cells cells' h1 h2=>?_) fun i k cells cells' d d' h1 h2 h3 h4=>?_
 all_goals
  rw[qaM,List.map_append]at h1;have hi:i<ys.length:=by have:=(qaa.1 h2).1; simpa using this
  rw[qal (by simpa using hi)]at h1;obtain⟨x,_,rfl,rfl⟩:=zdd h1 h2
 ·rfl
 refine(eI .i64).mz x (fun hx=>h ?_) k d d' h3 h4;rcases hx with hx | hx
 ·cases s with
  | true=>exact .inl rfl
  | false=>exact .inr (by simpa using hx)
 exact .inr hx
end
end Go.Dc
