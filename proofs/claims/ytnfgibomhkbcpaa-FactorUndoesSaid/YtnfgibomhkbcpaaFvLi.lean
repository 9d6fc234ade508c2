/-
 The library's functions that make a list of one's own out of another: what they come to, one's own memory seen. Conditions: none.
-/
import Derived.Test.YtnfgibomhkbcpaaFvDm
set_option linter.unusedSimpArgs false
set_option linter.unusedVariables false
namespace Go.Dc
open Go Go.Mx Go.Lx Go.Proofs
section
variable {c:Cx} {L:List LB} {H:zao} {B:Nat} {k0:Nat} {S:LSt} {Q:LX→LSt→Prop} {bar e:Bool}
theorem zg5(hH:RelH c L H):c.le c:=⟨fun _ _ h=>h,fun _ _ h=>h,fun β y hy=>⟨y,hy,Lc.up.refl y⟩,hH.apart⟩
theorem ziI{n f:Nat}{a:V}{r:List V}{h:zao}{x:CR×zao}(hl:zjk B f (a :: r) h=some x):(mC.run (n+1)).call B f (a :: r) h=some x:=by
 show zo2 (mC.orc B f (a :: r) h) (zhu (zp4 mC.orc mC.fns n) mC.fns B f (a :: r) h)=_;rw[zpJ,hl];rfl
theorem znZ{B:Nat}{args:List V}{h:zao}{x:CR×zao}(hl:zeb B 49 args h=some x):zjk B 49 args h=some x:=by
 have h0:zm1 B 49 args h=none:=by unfold zm1; rw[if_neg (by decide)]
 unfold zjk;rw[h0,hl];rfl
theorem zq9{B:Nat}{args:List V}{h:zao}{x:CR×zao}(hl:zoZ B 103 args h=some x):zjk B 103 args h=some x:=by
 have h0:zm1 B 103 args h=none:=by unfold zm1; rw[if_neg (by decide)]
 have h1:zeb B 103 args h=none:=by unfold zeb; rw[if_neg (by decide)]
 unfold zjk;rw[h0,h1,hl];rfl
theorem zqH{B:Nat}{args:List V}{h:zao}{x:CR×zao}(hl:zqa B 133 args h=some x):zjk B 133 args h=some x:=by
 have h0:zm1 B 133 args h=none:=by unfold zm1; rw[if_neg (by decide)]
 have h1:zeb B 133 args h=none:=by unfold zeb; rw[if_neg (by decide)]
 have h2:zoZ B 133 args h=none:=by unfold zoZ; rw[if_neg (by decide)]
 unfold zjk;rw[h0,h1,h2,hl];rfl
theorem zqR{B:Nat}{args:List V}{h:zao}{x:CR×zao}(hl:zrM B 50 args h=some x):zjk B 50 args h=some x:=by
 have h0:zm1 B 50 args h=none:=by unfold zm1; rw[if_neg (by decide)]
 have h1:zeb B 50 args h=none:=by unfold zeb; rw[if_neg (by decide)]
 have h2:zoZ B 50 args h=none:=by unfold zoZ; rw[if_neg (by decide)]
 have h3:zqa B 50 args h=none:=by unfold zqa; rw[if_neg (by decide)]
 unfold zjk;rw[h0,h1,h2,h3,hl];rfl
theorem zos{xs:List Int}{ds:List D}{vs:List V}(hd:ds=xs.map fun x=>.lit (.int .i64 x))(hr:Rs c ds vs):vs.mapM zlZ=some xs∧vs=xs.map fun x=>.lit (.int .i64 x):=by
 subst hd;induction xs generalizing vs with
 | nil=>
  have:vs=[]:=qaz.1 (by simpa using hr.1.symm);subst this;exact⟨rfl,rfl⟩
 | cons x r ih=>
  obtain⟨v,vs',rfl,h1,h2⟩:=hr.inv;cases zhx h1;obtain⟨g1,g2⟩:=ih h2;refine⟨?_,by rw[qaA,g2]⟩;rw[qbO,g1];rfl
theorem zfO(t:Bool)(xs:List Int):(xs.map ((eI .i64).c t)).flatten=xs.map fun x=>.lit (.int .i64 x):=by
 induction xs with
 | nil=>rfl
 | cons x r ih=>rw[qaA,qba,ih]; rfl
theorem zmN{t:Bool}{xs ys:List Int}(g:zc7 8 xs=some ys)(Qp:D→List LB→Prop):
  zd2 mC bar 49 [fzE t (eI .i64) xs] L (fun d L'=>d=.sl L.length 0 1 ys.length none ys.length∧L'=L ++ [.els 1 (ys.map ((eI .i64).c true))]) Qp:=by
 have hle:=zn9 g;rw[zoq g];intro c B H vs hH hB hr;obtain⟨v,vs',rfl,h1,h2⟩:=hr.inv;have hvs:vs'=[]:=qaz.1 (by simpa using h2.1.symm);subst hvs;generalize hB2:(bif bar then H.length else B)=B2;have hn1:(0:Nat)<1:=by decide
 have nilc:∀ v',v'=.lit (.slice none 0 0)→xs=[]→EvF mC B2 49 [v'] H fun cr H'=>∃ c' d L',Step c H c' H'∧RelH c' L' H'∧c.le c'∧match cr with | .ret v=>R c' d v∧(d=.sl L.length 0 1 xs.length none xs.length∧L'=L ++ [.els 1 (xs.map ((eI .i64).c true))])| .pan v=>R c' d v∧Qp d L':=by
  intro v' hv hx;subst hv;subst hx;obtain⟨g1,g2,g3⟩:=hH.new (x:=.ghost) (lb:=.els 1 []) (o:=[]) (.inl ⟨rfl,rfl⟩) fun c' hle hρ=>⟨hn1,.inl ⟨rfl,hρ⟩⟩
  rw[qa9]at g1 g2;refine⟨1,.ret (.lit (.slice none 0 0)),H,fun n hn=>?_,_,_,_,g2,g1,g3,.slg (zax _ _ _),rfl,rfl⟩;obtain⟨n,rfl⟩:∃ k,n=k+1:=⟨n - 1,by omega⟩;rfl
 have newc:∀(cs:List V),Rs c (xs.map fun x=>.lit (.int .i64 x)) cs→(∀ n,(mC.run (n+1)).call B2 49 [v] H=some (.ret (.sl H.length 0 1 xs.length none),H ++ [.blk cs]))→
   EvF mC B2 49 [v] H fun cr H'=>∃ c' d L',Step c H c' H'∧RelH c' L' H'∧c.le c'∧match cr with | .ret v=>R c' d v∧(d=.sl L.length 0 1 xs.length none xs.length∧L'=L ++ [.els 1 (xs.map ((eI .i64).c true))])| .pan v=>R c' d v∧Qp d L':=by
  intro cs hcs hrun;have hE:Els c 1 (xs.map ((eI .i64).c true)) cs:=⟨fun cells hm=>by obtain⟨x,_,rfl⟩:=qaH.1 hm; rfl,by rw[zfO]; exact hcs⟩;obtain⟨g1,g2,g3⟩:=hH.new (x:=.list H.length xs.length) (lb:=.els 1 (xs.map ((eI .i64).c true))) (o:=[.blk cs]) (.inr ⟨cs,rfl,rfl⟩) fun c' hle hρ=>⟨hn1,.inr ⟨_,cs,by rw[qbe]; exact hρ,by simp,hE.mono hle⟩⟩
  refine⟨1,.ret (.sl H.length 0 1 xs.length none),H ++ [.blk cs],fun n hn=>?_,_,_,_,g2,g1,g3,.sl (zax _ _ _) (.inr ⟨rfl,rfl⟩),rfl,rfl⟩;obtain⟨n,rfl⟩:∃ k,n=k+1:=⟨n - 1,by omega⟩;exact hrun n
 have hel:(fzE t (eI .i64) xs)=.fz t 1 (xs.map ((eI .i64).c t)):=rfl;rw[hel]at h1;generalize hes:xs.map ((eI .i64).c t)=es at h1;have hlen:es.length=xs.length:=by rw[← hes,qbe]
 cases h1 with
 | fzn=>exact nilc _ rfl (qaz.1 (by rw[← hlen]; rfl))
 | fz0=>
  have hx:xs=[]:=qaz.1 (by rw[← hlen]; rfl);subst hx;exact newc [] (Rs.nil c) fun n=>rfl
 | fz k1 k2 k3 k4 k5 k6=>
  rename_i b o cap cs;have hE:=zpT (b:=b) hH k4 k5 k6;have hrs:=hE.rel;rw[← hes,zfO,hes,Nat.mul_one]at hrs;obtain⟨q1,q2⟩:=zos rfl hrs;refine newc _ hrs fun n=>?_
  have hlib:zjk B2 49 [.sl b o 1 es.length cap] H=some (.ret (.sl H.length 0 1 xs.length none),H ++ [.blk ((cs.drop o).take es.length)]):=by
   refine znZ ?_;unfold zeb;rw[if_pos rfl];cases hl:es.length with
   | zero=>rw[hl]at hlen; rw[← hlen]; simp
   | succ m=>
    simp only;rw[za9 (hH.look k1)];simp only;rw[hl]at k4 hlen;have hm:zap=140737488355328:=rfl;rw[if_pos ⟨by trivial,by omega,by rw[hlen]; omega⟩,← hl,q1];simp only;rw[hl,hlen]
  exact ziI hlib
theorem EvL.clone{k:List K}{d:Option Nat}{xs:List X}{g:Option (Nat×Bool)}{l:List O}{t:Bool}{zs ys:List Int}(hg:zc7 8 zs=some ys)(hw:zbe S.env g=some true)(hx:zfh S.env xs=some [fzE t (eI .i64) zs])
  (hk:wp mC k0 (.ops bar e l :: k) (LSt.put ⟨S.N,S.env,S.heap ++ [.els 1 (ys.map ((eI .i64).c true))]⟩ d (.sl S.heap.length 0 1 ys.length none ys.length)) Q):EvL mC k0 (.ops bar e (⟨d,.call 49 xs,g⟩:: l):: k) S Q:=
 EvL.call (Qp1:=fun _ _=>False) hw hx (zmN hg _) (fun r L' h=>by obtain⟨rfl,rfl⟩:=h; exact hk) fun _ _ h=>h.elim
theorem zqM{xs ys:List Int}{β b:Nat}{t:Bool}{m:Nat}{cs:List V}(hH:RelH c L H)(hβ:L[β]? = some (.els 1 (xs.map ((eI .i64).c t))))(hρ:c.ρ β=some (.list b m))(hm:m=xs.length)(hc:H[b]? = some (.blk cs))(hl:ys.length=xs.length):
  RelH c (L.set β (.els 1 (ys.map ((eI .i64).c true)))) (H.set b (.blk (ys.map zfi)))∧Step c H c (H.set b (.blk (ys.map zfi))):=
 hH.write hρ rfl hc fun H' hb=>⟨by decide,.inr ⟨b,_,by rw[qbe,hl,← hm]; exact hρ,hb,fun cells hm=>(by obtain⟨x,_,rfl⟩:=qaH.1 hm; rfl),by
  have:(ys.map ((eI .i64).c true)).flatten=(ys.map fun x=>Value.int .i64 x).map .lit:=by rw[zfO]; simp
  rw[this];have h2:ys.map zfi=(ys.map fun x=>Value.int .i64 x).map .lit:=by simp[zfi]
  rw[h2]
  exact Rs.lits _⟩⟩
theorem zgy{α:Type}{l:List α}{i:Nat}{x:α}(h:l[i]? = some x):l.set i x=l:=by
 obtain⟨h1,rfl⟩:=qaa.1 h;exact List.set_getElem_self h1
theorem ziL{xs:List Int}{β n st:Nat}{t:Bool}{v:V}(hH:RelH c L H)(hβ:L[β]? = some (.els 1 (xs.map ((eI .i64).c t))))(hr:R c (.sl β 0 1 n none st) v)(hn:n=xs.length)(hst:st=xs.length):
  (xs=[]∧v=.lit (.slice none 0 0))∨∃ b,c.ρ β=some (.list b xs.length)∧v=.sl b 0 1 xs.length none∧H[b]? = some (.blk (xs.map zfi)):=by
 subst hn;subst hst;obtain⟨_,⟨q1,q2⟩| ⟨b,cs,hρ,hc,hE⟩⟩:=hH.obj β _ hβ
 ·have hx:xs=[]:=by simpa using q1
  refine .inl ⟨hx,?_⟩;rcases zqk hr with⟨_,_,p1,_⟩| ⟨_,p2⟩
  ·rw[q2]at p1; cases p1
  exact p2
 rw[qbe]at hρ;have hv:=zfY hr hρ;refine .inr ⟨b,hρ,by simpa using hv,?_⟩;have hrs:=hE.rel;rw[zfO]at hrs;obtain⟨_,q2⟩:=zos rfl hrs;rw[hc,q2];rfl
def zhv(b:Nat)(xs:List Int):Option (List Int):=if xs.length * b≤zap then some (zed xs)else none
theorem zjH{b:Nat}{xs ys:List Int}(h:zhv b xs=some ys):xs.length * b≤zap∧ys=zed xs:=by
 unfold zhv at h;split at h
 ·rename_i hc; cases h; exact⟨hc,rfl⟩
 cases h
theorem zkg{b:Nat}{xs ys:List Int}(h:zhv b xs=some ys):ys.length=xs.length:=by rw[(zjH h).2,zhp]
theorem zkj:zed []=[]:=by simp[zed]
theorem znK{β n st:Nat}{t:Bool}{xs ys:List Int}(hg:zhv 8 xs=some ys)(hβ:L[β]? = some (.els 1 (xs.map ((eI .i64).c t))))(hn:n=xs.length)(hst:st=xs.length)(Qp:D→List LB→Prop):
  zd2 mC false 50 [.sl β 0 1 n none st] L (fun d L'=>d=.tup []∧L'=L.set β (.els 1 (ys.map ((eI .i64).c true)))) Qp:=by
 intro c B H vs hH hB hr;obtain⟨hbig,rfl⟩:=zjH hg;have hmb:zap=140737488355328:=rfl;obtain⟨v,vs',rfl,h1,h2⟩:=hr.inv;have hvs:vs'=[]:=qaz.1 (by simpa using h2.1.symm);subst hvs;rcases ziL hH hβ h1 hn hst with⟨rfl,rfl⟩| ⟨b,hρ,rfl,hb⟩
 ·refine⟨1,.ret (.tup []),H,fun n hn=>?_,c,.tup [],L,.refl c H,hH,zg5 hH,.tup rfl fun i d v h=>by simp at h,rfl,by rw[show(([]:List Int).map ((eI .i64).c t))=(zed []).map ((eI .i64).c true)from by rw[zkj]; rfl]at hβ; exact(zgy hβ).symm⟩;obtain⟨n,rfl⟩:∃ k,n=k+1:=⟨n - 1,by omega⟩;rfl
 have hBb:B≤b:=qav hB (hH.own β _ b hρ rfl).1;obtain⟨g1,g2⟩:=zqM hH hβ hρ rfl hb (ys:=zed xs) (zhp xs);refine⟨1,.ret (.tup []),_,fun n hn=>?_,c,.tup [],_,g2,g1,zg5 hH,.tup rfl fun i d v h=>by simp at h,rfl,rfl⟩;obtain⟨n,rfl⟩:∃ k,n=k+1:=⟨n - 1,by omega⟩;have hlib:zjk B 50 [.sl b 0 1 xs.length none] H=some (.ret (.tup []),H.set b (.blk ((zed xs).map zfi))):=by
  refine zqR ?_;unfold zrM;rw[if_pos rfl];cases hl:xs.length with
  | zero=>
   have hx:xs=[]:=qaz.1 hl;subst hx;show some (CR.ret (.tup []),H)=_;have:(zed []).map zfi=([]:List Int).map zfi:=by rw[zkj]
   rw[this,zgy hb]
  | succ m=>
   simp only;rw[za9 hb];simp only;rw[zhe];simp only;rw[if_pos ⟨⟨hBb,hl.symm⟩,by omega⟩]
 exact ziI hlib
theorem EvL.sort{k:List K}{d:Option Nat}{xs:List X}{g:Option (Nat×Bool)}{l:List O}{t:Bool}{β n st:Nat}{zs ys:List Int}(hg:zhv 8 zs=some ys)(hw:zbe S.env g=some true)(hx:zfh S.env xs=some [.sl β 0 1 n none st])
  (hβ:S.heap[β]? = some (.els 1 (zs.map ((eI .i64).c t)))) (hn:n=zs.length) (hst:st=zs.length)
  (hk:wp mC k0 (.ops false e l :: k) (LSt.put ⟨S.N,S.env,S.heap.set β (.els 1 (ys.map ((eI .i64).c true)))⟩ d (.tup [])) Q):EvL mC k0 (.ops false e (⟨d,.call 50 xs,g⟩:: l):: k) S Q:=
 EvL.call (Qp1:=fun _ _=>False) hw hx (znK hg hβ hn hst _) (fun r L' h=>by obtain⟨rfl,rfl⟩:=h; exact hk) fun _ _ h=>h.elim
def zlo(xs ys:List Int):List Int:=List.replicate (xs.length - ys.length) 0
def zrH(xs:List Int):Option (List Int):=some (Go.Lib.compact xs)
theorem zl8{xs ys:List Int}(h:zrH xs=some ys):ys=Go.Lib.compact xs∧ys.length≤xs.length:=by cases h; exact⟨rfl,zh5 xs⟩
theorem zk1{xs ys:List Int}(h:ys.length≤xs.length):(ys ++ zlo xs ys).length=xs.length:=by unfold zlo; rw[qat,List.length_replicate]; omega
theorem zjT{β n st:Nat}{t:Bool}{xs ys:List Int}(hg:zrH xs=some ys)(hβ:L[β]? = some (.els 1 (xs.map ((eI .i64).c t))))(hn:n=xs.length)(hst:st=xs.length)(Qp:D→List LB→Prop):
  zd2 mC false 133 [.sl β 0 1 n none st] L (fun d L'=>d=.sl β 0 1 ys.length none xs.length∧L'=L.set β (.els 1 ((ys ++ zlo xs ys).map ((eI .i64).c true)))) Qp:=by
 intro c B H vs hH hB hr;obtain⟨hy,hle⟩:=zl8 hg;obtain⟨v,vs',rfl,h1,h2⟩:=hr.inv;have hvs:vs'=[]:=qaz.1 (by simpa using h2.1.symm);subst hvs;have hpl:=zk1 hle;have h1':=h1;rcases ziL hH hβ h1 hn hst with⟨hx,rfl⟩| ⟨b,hρ,rfl,hb⟩
 ·have hye:ys=[]:=qaz.1 (by rw[hx]at hle; simpa using hle);have hpe:ys ++ zlo xs ys=[]:=qaz.1 (by rw[hpl,hx]; rfl);rw[hn,hst,hx]at h1';refine⟨1,.ret (.lit (.slice none 0 0)),H,fun n hn=>?_,c,.sl β 0 1 0 none 0,L,.refl c H,hH,zg5 hH,h1',by rw[hye,hx]; rfl,?_⟩
  ·obtain⟨n,rfl⟩:∃ k,n=k+1:=⟨n - 1,by omega⟩;rfl
  rw[hpe];rw[hx]at hβ;exact(zgy hβ).symm
 have hBb:B≤b:=qav hB (hH.own β _ b hρ rfl).1;obtain⟨g1,g2⟩:=zqM hH hβ hρ rfl hb (ys:=ys ++ zlo xs ys) hpl;refine⟨1,.ret (.sl b 0 1 ys.length none),_,fun n hn=>?_,c,_,_,g2,g1,zg5 hH,.sl hρ (.inr ⟨rfl,by simp⟩),rfl,rfl⟩;obtain⟨n,rfl⟩:∃ k,n=k+1:=⟨n - 1,by omega⟩;have hlib:zjk B 133 [.sl b 0 1 xs.length none] H=some (.ret (.sl b 0 1 ys.length none),H.set b (.blk ((ys ++ zlo xs ys).map zfi))):=by
  refine zqH ?_;unfold zqa;rw[if_pos rfl];cases hl:xs.length with
  | zero=>
   have hx:xs=[]:=qaz.1 hl;have hye:ys=[]:=qaz.1 (by rw[hx]at hle; simpa using hle);have hpe:ys ++ zlo xs ys=[]:=qaz.1 (by rw[hpl,hx]; rfl);rw[hpe,hye];rw[hx]at hb;show some (CR.ret (.sl b 0 1 0 none),H)=_;have:([]:List Int).map zfi=[]:=rfl;rw[zgy hb];rfl
  | succ m=>
   simp only;rw[za9 hb];simp only;rw[zhe];simp only;rw[if_pos ⟨hBb,hl.symm⟩,hy];rfl
 exact ziI hlib
theorem EvL.zsG{k:List K}{d:Option Nat}{f:Nat}{xs:List X}{g:Option (Nat×Bool)}{l:List O}{ds:List D}{r:D}{L':List LB}{S1:LSt}(hw:zbe S.env g=some true)(hx:zfh S.env xs=some ds)(hc:zd2 mC (zma bar f) f ds S.heap (fun d L1=>d=r∧L1=L') fun _ _=>False)
  (hs:LSt.put ⟨S.N,S.env,L'⟩ d r=some S1) (hk:EvL mC k0 (.ops bar e l :: k) S1 Q):EvL mC k0 (.ops bar e (⟨d,.call f xs,g⟩:: l):: k) S Q:=by
 intro c0 H0 c B rd M hd hway hr hB;obtain⟨vs,g1,g2⟩:=zbP hr hx;refine EvO.call (zb3 hr hw) rfl g1 (EvF.mono (hc c B M.heap vs hr.heap hB g2) ?_);rintro cr H' ⟨c',r',L1,h1,h2,h3,h4⟩;cases cr with
 | ret v=>
  obtain⟨h4,rfl,rfl⟩:=h4;exact hk c0 H0 c' B rd _ hd (by cases d<;>exact hway.go h1 h3 hr.heap rfl) (zc4 hr h3 h2 h4 hs) (by rw[h1.base]; exact hB)
 | pan v=>exact h4.2.elim
theorem EvL.compact{k:List K}{d:Option Nat}{xs:List X}{g:Option (Nat×Bool)}{l:List O}{t:Bool}{β n st:Nat}{zs ys:List Int}(hg:zrH zs=some ys)(hw:zbe S.env g=some true)(hx:zfh S.env xs=some [.sl β 0 1 n none st])
  (hβ:S.heap[β]? = some (.els 1 (zs.map ((eI .i64).c t)))) (hn:n=zs.length) (hst:st=zs.length)
  {S1:LSt} (hs:LSt.put ⟨S.N,S.env,S.heap.set β (.els 1 ((ys ++ zlo zs ys).map ((eI .i64).c true)))⟩ d (.sl β 0 1 ys.length none zs.length)=some S1) (hk:EvL mC k0 (.ops false e l :: k) S1 Q):EvL mC k0 (.ops false e (⟨d,.call 133 xs,g⟩:: l):: k) S Q:=
 EvL.zsG hw hx (zjT hg hβ hn hst _) hs hk
def zpA(xs:List Int)(i j:Int):Option (List Int):=if(0≤i∧i≤j∧j≤xs.length)∧0<xs.length then some (xs.take i.toNat ++ xs.drop j.toNat)else none
theorem zlA{xs ys:List Int}{i j:Int}(h:zpA xs i j=some ys):((0≤i∧i≤j∧j≤xs.length)∧0<xs.length)∧ys=xs.take i.toNat ++ xs.drop j.toNat:=by
 unfold zpA at h;split at h
 ·rename_i hc; cases h; exact⟨hc,rfl⟩
 cases h
theorem zkE{β n st:Nat}{t:Bool}{xs ys:List Int}{i j:Int}(hg:zpA xs i j=some ys)(hβ:L[β]? = some (.els 1 (xs.map ((eI .i64).c t))))(hn:n=xs.length)(hst:st=xs.length)(Qp:D→List LB→Prop):
  zd2 mC false 103 [.sl β 0 1 n none st,.lit (.int .i64 i),.lit (.int .i64 j)] L (fun d L'=>d=.sl β 0 1 ys.length none xs.length∧L'=L.set β (.els 1 ((ys ++ zlo xs ys).map ((eI .i64).c true)))) Qp:=by
 intro c B H vs hH hB hr;obtain⟨⟨⟨hi,hij,hj⟩,h0⟩,hy⟩:=zlA hg;obtain⟨v,vs',rfl,h1,hr⟩:=hr.inv;obtain⟨v1,vs',rfl,h2,hr⟩:=hr.inv;obtain⟨v2,vs',rfl,h3,hr⟩:=hr.inv;have hvs:vs'=[]:=qaz.1 (by simpa using hr.1.symm);subst hvs;cases zhx h2;cases zhx h3;have hyl:ys.length=xs.length - (j.toNat - i.toNat):=by rw[hy]; simp; omega
 have hpl:=zk1 (xs:=xs) (ys:=ys) (by omega);rcases ziL hH hβ h1 hn hst with⟨hx,rfl⟩| ⟨b,hρ,rfl,hb⟩
 ·rw[hx]at h0; simp at h0
 have hBb:B≤b:=qav hB (hH.own β _ b hρ rfl).1;obtain⟨g1,g2⟩:=zqM hH hβ hρ rfl hb (ys:=ys ++ zlo xs ys) hpl;refine⟨1,.ret (.sl b 0 1 ys.length none),_,fun n hn=>?_,c,_,_,g2,g1,zg5 hH,.sl hρ (.inr ⟨rfl,by simp⟩),rfl,rfl⟩;obtain⟨n,rfl⟩:∃ k,n=k+1:=⟨n - 1,by omega⟩;have hlib:zjk B 103 [.sl b 0 1 xs.length none,.lit (.int .i64 i),.lit (.int .i64 j)] H=some (.ret (.sl b 0 1 ys.length none),H.set b (.blk ((ys ++ zlo xs ys).map zfi))):=by
  refine zq9 ?_;unfold zoZ;rw[if_pos rfl];simp only;rw[za9 hb];simp only;rw[zhe];simp only;have hp:zlo xs ys=List.replicate (j.toNat - i.toNat) 0:=by unfold zlo; congr 1; omega
  rw[if_pos ⟨⟨hBb,by trivial,h0⟩,hi,hij,hj⟩,hp,hyl,hy]
 exact ziI hlib
theorem EvL.delete{k:List K}{d:Option Nat}{xs:List X}{g:Option (Nat×Bool)}{l:List O}{t:Bool}{β n st:Nat}{i j:Int}{zs ys:List Int}(hg:zpA zs i j=some ys)(hw:zbe S.env g=some true)(hx:zfh S.env xs=some [.sl β 0 1 n none st,.lit (.int .i64 i),.lit (.int .i64 j)])
  (hβ:S.heap[β]? = some (.els 1 (zs.map ((eI .i64).c t)))) (hn:n=zs.length) (hst:st=zs.length)
  {S1:LSt} (hs:LSt.put ⟨S.N,S.env,S.heap.set β (.els 1 ((ys ++ zlo zs ys).map ((eI .i64).c true)))⟩ d (.sl β 0 1 ys.length none zs.length)=some S1) (hk:EvL mC k0 (.ops false e l :: k) S1 Q):EvL mC k0 (.ops false e (⟨d,.call 103 xs,g⟩:: l):: k) S Q:=
 EvL.zsG hw hx (zkE hg hβ hn hst _) hs hk
theorem zir{xs ys:List Int}{i j:Int}(h:zpA xs i j=some ys):ys.length≤xs.length:=by
 obtain⟨⟨⟨hi,hij,hj⟩,h0⟩,hy⟩:=zlA h;rw[hy]; simp; omega
theorem zrl{xs ys:List Int}(h:zrH xs=some ys):ys.length≤xs.length:=(zl8 h).2
theorem zgY{F:Nat→Bool}{s t t':Bool}{β st:Nat}{xs ys:List Int}(hle:ys.length≤xs.length)(hF:F β=true)(he:L[β]? = some (.els 1 ((ys ++ zlo xs ys).map ((eI .i64).c t))))(hst:st=xs.length)(h:s=true∨t'=true→t=true):
  Mz L F s (.sl β 0 1 ys.length none st) (fzE t' (eI .i64) ys):=by
 have hpl:=zk1 hle;refine .sl hF (zln (.inl he) (by rw[qbe,hpl,hst])) (by rw[qbe,hpl]; omega) (fun k hk=>nomatch hk) (by simp) (fun i cells cells' h1 h2=>?_) fun i k cells cells' d d' h1 h2 h3 h4=>?_
 all_goals
  rw[qaT,List.map_append]at h1;have hi:i<ys.length:=by have:=(qaa.1 h2).1; simpa using this
  rw[qak (by simpa using hi)]at h1;obtain⟨x,_,rfl,rfl⟩:=zc9 h1 h2
 ·rfl
 refine(eI .i64).mz x (fun hx=>h ?_) k d d' h3 h4;rcases hx with hx | hx
 ·cases s with
  | true=>exact .inl rfl
  | false=>exact .inr (by simpa using hx)
 exact .inr hx
end
end Go.Dc
