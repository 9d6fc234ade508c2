/-
 The library's functions that make a list of one's own out of another: what they come to, one's own memory seen. Conditions: none.
-/
import Derived.Test.YtnfgibomhkbcpaaFuDm
set_option linter.unusedSimpArgs false
set_option linter.unusedVariables false
namespace Go.Dc
open Go Go.Mx Go.Lx Go.Proofs
section
variable {c:Cx} {L:List LB} {H:zao} {B:Nat} {k0:Nat} {S:LSt} {Q:LX→LSt→Prop} {bar e:Bool}
theorem zha(hH:RelH c L H):c.le c:=⟨fun _ _ h=>h,fun _ _ h=>h,fun β y hy=>⟨y,hy,Lc.up.refl y⟩,hH.apart⟩
theorem zi7{n f:Nat}{a:V}{r:List V}{h:zao}{x:CR×zao}(hl:zjQ B f (a :: r) h=some x):(mC.run (n+1)).call B f (a :: r) h=some x:=by
 show zpU (mC.orc B f (a :: r) h) (zhZ (zqS mC.orc mC.fns n) mC.fns B f (a :: r) h)=_;rw[zqn,hl];rfl
theorem zo5{B:Nat}{args:List V}{h:zao}{x:CR×zao}(hl:zen B 49 args h=some x):zjQ B 49 args h=some x:=by
 have h0:znO B 49 args h=none:=by unfold znO; rw[if_neg (by decide)]
 unfold zjQ;rw[h0,hl];rfl
theorem zsc{B:Nat}{args:List V}{h:zao}{x:CR×zao}(hl:zpS B 103 args h=some x):zjQ B 103 args h=some x:=by
 have h0:znO B 103 args h=none:=by unfold znO; rw[if_neg (by decide)]
 have h1:zen B 103 args h=none:=by unfold zen; rw[if_neg (by decide)]
 unfold zjQ;rw[h0,h1,hl];rfl
theorem zsv{B:Nat}{args:List V}{h:zao}{x:CR×zao}(hl:zrf B 133 args h=some x):zjQ B 133 args h=some x:=by
 have h0:znO B 133 args h=none:=by unfold znO; rw[if_neg (by decide)]
 have h1:zen B 133 args h=none:=by unfold zen; rw[if_neg (by decide)]
 have h2:zpS B 133 args h=none:=by unfold zpS; rw[if_neg (by decide)]
 unfold zjQ;rw[h0,h1,h2,hl];rfl
theorem zsy{B:Nat}{args:List V}{h:zao}{x:CR×zao}(hl:zsG B 50 args h=some x):zjQ B 50 args h=some x:=by
 have h0:znO B 50 args h=none:=by unfold znO; rw[if_neg (by decide)]
 have h1:zen B 50 args h=none:=by unfold zen; rw[if_neg (by decide)]
 have h2:zpS B 50 args h=none:=by unfold zpS; rw[if_neg (by decide)]
 have h3:zrf B 50 args h=none:=by unfold zrf; rw[if_neg (by decide)]
 unfold zjQ;rw[h0,h1,h2,h3,hl];rfl
theorem zoN{xs:List Int}{ds:List D}{vs:List V}(hd:ds=xs.map fun x=>.lit (.int .i64 x))(hr:Rs c ds vs):vs.mapM zl8=some xs∧vs=xs.map fun x=>.lit (.int .i64 x):=by
 subst hd;induction xs generalizing vs with
 | nil=>
  have:vs=[]:=qaB.1 (by simpa using hr.1.symm);subst this;exact⟨rfl,rfl⟩
 | cons x r ih=>
  obtain⟨v,vs',rfl,h1,h2⟩:=hr.inv;cases zhV h1;obtain⟨g1,g2⟩:=ih h2;refine⟨?_,by rw[qay,g2]⟩;rw[qbZ,g1];rfl
theorem zgf(t:Bool)(xs:List Int):(xs.map ((eI .i64).c t)).flatten=xs.map fun x=>.lit (.int .i64 x):=by
 induction xs with
 | nil=>rfl
 | cons x r ih=>rw[qay,qbg,ih]; rfl
theorem znu{t:Bool}{xs ys:List Int}(g:zde 8 xs=some ys)(Qp:D→List LB→Prop):
  zel mC bar 49 [fzE t (eI .i64) xs] L (fun d L'=>d=.sl L.length 0 1 ys.length none ys.length∧L'=L ++ [.els 1 (ys.map ((eI .i64).c true))]) Qp:=by
 have hle:=zoR g;rw[zn7 g];intro c B H vs hH hB hr;obtain⟨v,vs',rfl,h1,h2⟩:=hr.inv;have hvs:vs'=[]:=qaB.1 (by simpa using h2.1.symm);subst hvs;generalize hB2:(bif bar then H.length else B)=B2;have hn1:(0:Nat)<1:=by decide
 have nilc:∀ v',v'=.lit (.slice none 0 0)→xs=[]→EvF mC B2 49 [v'] H fun cr H'=>∃ c' d L',Step c H c' H'∧RelH c' L' H'∧c.le c'∧match cr with | .ret v=>R c' d v∧(d=.sl L.length 0 1 xs.length none xs.length∧L'=L ++ [.els 1 (xs.map ((eI .i64).c true))])| .pan v=>R c' d v∧Qp d L':=by
  intro v' hv hx;subst hv;subst hx;obtain⟨g1,g2,g3⟩:=hH.new (x:=.ghost) (lb:=.els 1 []) (o:=[]) (.inl ⟨rfl,rfl⟩) fun c' hle hρ=>⟨hn1,.inl ⟨rfl,hρ⟩⟩
  rw[qba]at g1 g2;refine⟨1,.ret (.lit (.slice none 0 0)),H,fun n hn=>?_,_,_,_,g2,g1,g3,.slg (zaG _ _ _),rfl,rfl⟩;obtain⟨n,rfl⟩:∃ k,n=k+1:=⟨n - 1,by omega⟩;rfl
 have newc:∀(cs:List V),Rs c (xs.map fun x=>.lit (.int .i64 x)) cs→(∀ n,(mC.run (n+1)).call B2 49 [v] H=some (.ret (.sl H.length 0 1 xs.length none),H ++ [.blk cs]))→
   EvF mC B2 49 [v] H fun cr H'=>∃ c' d L',Step c H c' H'∧RelH c' L' H'∧c.le c'∧match cr with | .ret v=>R c' d v∧(d=.sl L.length 0 1 xs.length none xs.length∧L'=L ++ [.els 1 (xs.map ((eI .i64).c true))])| .pan v=>R c' d v∧Qp d L':=by
  intro cs hcs hrun;have hE:Els c 1 (xs.map ((eI .i64).c true)) cs:=⟨fun cells hm=>by obtain⟨x,_,rfl⟩:=qaC.1 hm; rfl,by rw[zgf]; exact hcs⟩;obtain⟨g1,g2,g3⟩:=hH.new (x:=.list H.length xs.length) (lb:=.els 1 (xs.map ((eI .i64).c true))) (o:=[.blk cs]) (.inr ⟨cs,rfl,rfl⟩) fun c' hle hρ=>⟨hn1,.inr ⟨_,cs,by rw[qa4]; exact hρ,by simp,hE.mono hle⟩⟩
  refine⟨1,.ret (.sl H.length 0 1 xs.length none),H ++ [.blk cs],fun n hn=>?_,_,_,_,g2,g1,g3,.sl (zaG _ _ _) (.inr ⟨rfl,rfl⟩),rfl,rfl⟩;obtain⟨n,rfl⟩:∃ k,n=k+1:=⟨n - 1,by omega⟩;exact hrun n
 have hel:(fzE t (eI .i64) xs)=.fz t 1 (xs.map ((eI .i64).c t)):=rfl;rw[hel]at h1;generalize hes:xs.map ((eI .i64).c t)=es at h1;have hlen:es.length=xs.length:=by rw[← hes,qa4]
 cases h1 with
 | fzn=>exact nilc _ rfl (qaB.1 (by rw[← hlen]; rfl))
 | fz0=>
  have hx:xs=[]:=qaB.1 (by rw[← hlen]; rfl);subst hx;exact newc [] (Rs.nil c) fun n=>rfl
 | fz k1 k2 k3 k4 k5 k6=>
  rename_i b o cap cs;have hE:=zri (b:=b) hH k4 k5 k6;have hrs:=hE.rel;rw[← hes,zgf,hes,Nat.mul_one]at hrs;obtain⟨q1,q2⟩:=zoN rfl hrs;refine newc _ hrs fun n=>?_
  have hlib:zjQ B2 49 [.sl b o 1 es.length cap] H=some (.ret (.sl H.length 0 1 xs.length none),H ++ [.blk ((cs.drop o).take es.length)]):=by
   refine zo5 ?_;unfold zen;rw[if_pos rfl];cases hl:es.length with
   | zero=>rw[hl]at hlen; rw[← hlen]; simp
   | succ m=>
    simp only;rw[zbd (hH.look k1)];simp only;rw[hl]at k4 hlen;have hm:zap=140737488355328:=rfl;rw[if_pos ⟨by trivial,by omega,by rw[hlen]; omega⟩,← hl,q1];simp only;rw[hl,hlen]
  exact zi7 hlib
theorem EvL.clone{k:List K}{d:Option Nat}{xs:List X}{g:Option (Nat×Bool)}{l:List O}{t:Bool}{zs ys:List Int}(hg:zde 8 zs=some ys)(hw:zbi S.env g=some true)(hx:zfz S.env xs=some [fzE t (eI .i64) zs])
  (hk:wp mC k0 (.ops bar e l :: k) (LSt.put ⟨S.N,S.env,S.heap ++ [.els 1 (ys.map ((eI .i64).c true))]⟩ d (.sl S.heap.length 0 1 ys.length none ys.length)) Q):EvL mC k0 (.ops bar e (⟨d,.call 49 xs,g⟩:: l):: k) S Q:=
 EvL.call (Qp1:=fun _ _=>False) hw hx (znu hg _) (fun r L' h=>by obtain⟨rfl,rfl⟩:=h; exact hk) fun _ _ h=>h.elim
theorem zrN{xs ys:List Int}{β b:Nat}{t:Bool}{m:Nat}{cs:List V}(hH:RelH c L H)(hβ:L[β]? = some (.els 1 (xs.map ((eI .i64).c t))))(hρ:c.ρ β=some (.list b m))(hm:m=xs.length)(hc:H[b]? = some (.blk cs))(hl:ys.length=xs.length):
  RelH c (L.set β (.els 1 (ys.map ((eI .i64).c true)))) (H.set b (.blk (ys.map zfx)))∧Step c H c (H.set b (.blk (ys.map zfx))):=
 hH.write hρ rfl hc fun H' hb=>⟨by decide,.inr ⟨b,_,by rw[qa4,hl,← hm]; exact hρ,hb,fun cells hm=>(by obtain⟨x,_,rfl⟩:=qaC.1 hm; rfl),by
  have:(ys.map ((eI .i64).c true)).flatten=(ys.map fun x=>Value.int .i64 x).map .lit:=by rw[zgf]; simp
  rw[this];have h2:ys.map zfx=(ys.map fun x=>Value.int .i64 x).map .lit:=by simp[zfx]
  rw[h2]
  exact Rs.lits _⟩⟩
theorem zgT{α:Type}{l:List α}{i:Nat}{x:α}(h:l[i]? = some x):l.set i x=l:=by
 obtain⟨h1,rfl⟩:=qab.1 h;exact List.set_getElem_self h1
theorem zjw{xs:List Int}{β n st:Nat}{t:Bool}{v:V}(hH:RelH c L H)(hβ:L[β]? = some (.els 1 (xs.map ((eI .i64).c t))))(hr:R c (.sl β 0 1 n none st) v)(hn:n=xs.length)(hst:st=xs.length):
  (xs=[]∧v=.lit (.slice none 0 0))∨∃ b,c.ρ β=some (.list b xs.length)∧v=.sl b 0 1 xs.length none∧H[b]? = some (.blk (xs.map zfx)):=by
 subst hn;subst hst;obtain⟨_,⟨q1,q2⟩| ⟨b,cs,hρ,hc,hE⟩⟩:=hH.obj β _ hβ
 ·have hx:xs=[]:=by simpa using q1
  refine .inl ⟨hx,?_⟩;rcases zrk hr with⟨_,_,p1,_⟩| ⟨_,p2⟩
  ·rw[q2]at p1; cases p1
  exact p2
 rw[qa4]at hρ;have hv:=zfE hr hρ;refine .inr ⟨b,hρ,by simpa using hv,?_⟩;have hrs:=hE.rel;rw[zgf]at hrs;obtain⟨_,q2⟩:=zoN rfl hrs;rw[hc,q2];rfl
def zhX(b:Nat)(xs:List Int):Option (List Int):=if xs.length * b≤zap then some (zes xs)else none
theorem zkt{b:Nat}{xs ys:List Int}(h:zhX b xs=some ys):xs.length * b≤zap∧ys=zes xs:=by
 unfold zhX at h;split at h
 ·rename_i hc; cases h; exact⟨hc,rfl⟩
 cases h
theorem zkm{b:Nat}{xs ys:List Int}(h:zhX b xs=some ys):ys.length=xs.length:=by rw[(zkt h).2,zhT]
theorem zki:zes []=[]:=by simp[zes]
theorem zo1{β n st:Nat}{t:Bool}{xs ys:List Int}(hg:zhX 8 xs=some ys)(hβ:L[β]? = some (.els 1 (xs.map ((eI .i64).c t))))(hn:n=xs.length)(hst:st=xs.length)(Qp:D→List LB→Prop):
  zel mC false 50 [.sl β 0 1 n none st] L (fun d L'=>d=.tup []∧L'=L.set β (.els 1 (ys.map ((eI .i64).c true)))) Qp:=by
 intro c B H vs hH hB hr;obtain⟨hbig,rfl⟩:=zkt hg;have hmb:zap=140737488355328:=rfl;obtain⟨v,vs',rfl,h1,h2⟩:=hr.inv;have hvs:vs'=[]:=qaB.1 (by simpa using h2.1.symm);subst hvs;rcases zjw hH hβ h1 hn hst with⟨rfl,rfl⟩| ⟨b,hρ,rfl,hb⟩
 ·refine⟨1,.ret (.tup []),H,fun n hn=>?_,c,.tup [],L,.refl c H,hH,zha hH,.tup rfl fun i d v h=>by simp at h,rfl,by rw[show(([]:List Int).map ((eI .i64).c t))=(zes []).map ((eI .i64).c true)from by rw[zki]; rfl]at hβ; exact(zgT hβ).symm⟩;obtain⟨n,rfl⟩:∃ k,n=k+1:=⟨n - 1,by omega⟩;rfl
 have hBb:B≤b:=qat hB (hH.own β _ b hρ rfl).1;obtain⟨g1,g2⟩:=zrN hH hβ hρ rfl hb (ys:=zes xs) (zhT xs);refine⟨1,.ret (.tup []),_,fun n hn=>?_,c,.tup [],_,g2,g1,zha hH,.tup rfl fun i d v h=>by simp at h,rfl,rfl⟩;obtain⟨n,rfl⟩:∃ k,n=k+1:=⟨n - 1,by omega⟩;have hlib:zjQ B 50 [.sl b 0 1 xs.length none] H=some (.ret (.tup []),H.set b (.blk ((zes xs).map zfx))):=by
  refine zsy ?_;unfold zsG;rw[if_pos rfl];cases hl:xs.length with
  | zero=>
   have hx:xs=[]:=qaB.1 hl;subst hx;show some (CR.ret (.tup []),H)=_;have:(zes []).map zfx=([]:List Int).map zfx:=by rw[zki]
   rw[this,zgT hb]
  | succ m=>
   simp only;rw[zbd hb];simp only;rw[zhM];simp only;rw[if_pos ⟨⟨hBb,hl.symm⟩,by omega⟩]
 exact zi7 hlib
theorem EvL.sort{k:List K}{d:Option Nat}{xs:List X}{g:Option (Nat×Bool)}{l:List O}{t:Bool}{β n st:Nat}{zs ys:List Int}(hg:zhX 8 zs=some ys)(hw:zbi S.env g=some true)(hx:zfz S.env xs=some [.sl β 0 1 n none st])
  (hβ:S.heap[β]? = some (.els 1 (zs.map ((eI .i64).c t)))) (hn:n=zs.length) (hst:st=zs.length)
  (hk:wp mC k0 (.ops false e l :: k) (LSt.put ⟨S.N,S.env,S.heap.set β (.els 1 (ys.map ((eI .i64).c true)))⟩ d (.tup [])) Q):EvL mC k0 (.ops false e (⟨d,.call 50 xs,g⟩:: l):: k) S Q:=
 EvL.call (Qp1:=fun _ _=>False) hw hx (zo1 hg hβ hn hst _) (fun r L' h=>by obtain⟨rfl,rfl⟩:=h; exact hk) fun _ _ h=>h.elim
def zlL(xs ys:List Int):List Int:=List.replicate (xs.length - ys.length) 0
def zsO(xs:List Int):Option (List Int):=some (Go.Lib.compact xs)
theorem zmP{xs ys:List Int}(h:zsO xs=some ys):ys=Go.Lib.compact xs∧ys.length≤xs.length:=by cases h; exact⟨rfl,zii xs⟩
theorem zlR{xs ys:List Int}(h:ys.length≤xs.length):(ys ++ zlL xs ys).length=xs.length:=by unfold zlL; rw[qax,qcm]; omega
theorem zkD{β n st:Nat}{t:Bool}{xs ys:List Int}(hg:zsO xs=some ys)(hβ:L[β]? = some (.els 1 (xs.map ((eI .i64).c t))))(hn:n=xs.length)(hst:st=xs.length)(Qp:D→List LB→Prop):
  zel mC false 133 [.sl β 0 1 n none st] L (fun d L'=>d=.sl β 0 1 ys.length none xs.length∧L'=L.set β (.els 1 ((ys ++ zlL xs ys).map ((eI .i64).c true)))) Qp:=by
 intro c B H vs hH hB hr;obtain⟨hy,hle⟩:=zmP hg;obtain⟨v,vs',rfl,h1,h2⟩:=hr.inv;have hvs:vs'=[]:=qaB.1 (by simpa using h2.1.symm);subst hvs;have hpl:=zlR hle;have h1':=h1;rcases zjw hH hβ h1 hn hst with⟨hx,rfl⟩| ⟨b,hρ,rfl,hb⟩
 ·have hye:ys=[]:=qaB.1 (by rw[hx]at hle; simpa using hle);have hpe:ys ++ zlL xs ys=[]:=qaB.1 (by rw[hpl,hx]; rfl);rw[hn,hst,hx]at h1';refine⟨1,.ret (.lit (.slice none 0 0)),H,fun n hn=>?_,c,.sl β 0 1 0 none 0,L,.refl c H,hH,zha hH,h1',by rw[hye,hx]; rfl,?_⟩
  ·obtain⟨n,rfl⟩:∃ k,n=k+1:=⟨n - 1,by omega⟩;rfl
  rw[hpe];rw[hx]at hβ;exact(zgT hβ).symm
 have hBb:B≤b:=qat hB (hH.own β _ b hρ rfl).1;obtain⟨g1,g2⟩:=zrN hH hβ hρ rfl hb (ys:=ys ++ zlL xs ys) hpl;refine⟨1,.ret (.sl b 0 1 ys.length none),_,fun n hn=>?_,c,_,_,g2,g1,zha hH,.sl hρ (.inr ⟨rfl,by simp⟩),rfl,rfl⟩;obtain⟨n,rfl⟩:∃ k,n=k+1:=⟨n - 1,by omega⟩;have hlib:zjQ B 133 [.sl b 0 1 xs.length none] H=some (.ret (.sl b 0 1 ys.length none),H.set b (.blk ((ys ++ zlL xs ys).map zfx))):=by
  refine zsv ?_;unfold zrf;rw[if_pos rfl];cases hl:xs.length with
  | zero=>
   have hx:xs=[]:=qaB.1 hl;have hye:ys=[]:=qaB.1 (by rw[hx]at hle; simpa using hle);have hpe:ys ++ zlL xs ys=[]:=qaB.1 (by rw[hpl,hx]; rfl);rw[hpe,hye];rw[hx]at hb;show some (CR.ret (.sl b 0 1 0 none),H)=_;have:([]:List Int).map zfx=[]:=rfl;rw[zgT hb];rfl
  | succ m=>
   simp only;rw[zbd hb];simp only;rw[zhM];simp only;rw[if_pos ⟨hBb,hl.symm⟩,hy];rfl
 exact zi7 hlib
theorem EvL.ztd{k:List K}{d:Option Nat}{f:Nat}{xs:List X}{g:Option (Nat×Bool)}{l:List O}{ds:List D}{r:D}{L':List LB}{S1:LSt}(hw:zbi S.env g=some true)(hx:zfz S.env xs=some ds)(hc:zel mC (zmi bar f) f ds S.heap (fun d L1=>d=r∧L1=L') fun _ _=>False)
  (hs:LSt.put ⟨S.N,S.env,L'⟩ d r=some S1) (hk:EvL mC k0 (.ops bar e l :: k) S1 Q):EvL mC k0 (.ops bar e (⟨d,.call f xs,g⟩:: l):: k) S Q:=by
 intro c0 H0 c B rd M hd hway hr hB;obtain⟨vs,g1,g2⟩:=zbU hr hx;refine EvO.call (zch hr hw) rfl g1 (EvF.mono (hc c B M.heap vs hr.heap hB g2) ?_);rintro cr H' ⟨c',r',L1,h1,h2,h3,h4⟩;cases cr with
 | ret v=>
  obtain⟨h4,rfl,rfl⟩:=h4;exact hk c0 H0 c' B rd _ hd (by cases d<;>exact hway.go h1 h3 hr.heap rfl) (zdc hr h3 h2 h4 hs) (by rw[h1.base]; exact hB)
 | pan v=>exact h4.2.elim
theorem EvL.compact{k:List K}{d:Option Nat}{xs:List X}{g:Option (Nat×Bool)}{l:List O}{t:Bool}{β n st:Nat}{zs ys:List Int}(hg:zsO zs=some ys)(hw:zbi S.env g=some true)(hx:zfz S.env xs=some [.sl β 0 1 n none st])
  (hβ:S.heap[β]? = some (.els 1 (zs.map ((eI .i64).c t)))) (hn:n=zs.length) (hst:st=zs.length)
  {S1:LSt} (hs:LSt.put ⟨S.N,S.env,S.heap.set β (.els 1 ((ys ++ zlL zs ys).map ((eI .i64).c true)))⟩ d (.sl β 0 1 ys.length none zs.length)=some S1) (hk:EvL mC k0 (.ops false e l :: k) S1 Q):EvL mC k0 (.ops false e (⟨d,.call 133 xs,g⟩:: l):: k) S Q:=
 EvL.ztd hw hx (zkD hg hβ hn hst _) hs hk
def znN(xs:List Int)(i j:Int):Option (List Int):=if(0≤i∧i≤j∧j≤xs.length)∧0<xs.length then some (xs.take i.toNat ++ xs.drop j.toNat)else none
theorem zmf{xs ys:List Int}{i j:Int}(h:znN xs i j=some ys):((0≤i∧i≤j∧j≤xs.length)∧0<xs.length)∧ys=xs.take i.toNat ++ xs.drop j.toNat:=by
 unfold znN at h;split at h
 ·rename_i hc; cases h; exact⟨hc,rfl⟩
 cases h
theorem zl7{β n st:Nat}{t:Bool}{xs ys:List Int}{i j:Int}(hg:znN xs i j=some ys)(hβ:L[β]? = some (.els 1 (xs.map ((eI .i64).c t))))(hn:n=xs.length)(hst:st=xs.length)(Qp:D→List LB→Prop):
  zel mC false 103 [.sl β 0 1 n none st,.lit (.int .i64 i),.lit (.int .i64 j)] L (fun d L'=>d=.sl β 0 1 ys.length none xs.length∧L'=L.set β (.els 1 ((ys ++ zlL xs ys).map ((eI .i64).c true)))) Qp:=by
 intro c B H vs hH hB hr;obtain⟨⟨⟨hi,hij,hj⟩,h0⟩,hy⟩:=zmf hg;obtain⟨v,vs',rfl,h1,hr⟩:=hr.inv;obtain⟨v1,vs',rfl,h2,hr⟩:=hr.inv;obtain⟨v2,vs',rfl,h3,hr⟩:=hr.inv;have hvs:vs'=[]:=qaB.1 (by simpa using hr.1.symm);subst hvs;cases zhV h2;cases zhV h3;have hyl:ys.length=xs.length - (j.toNat - i.toNat):=by rw[hy]; simp; omega
 have hpl:=zlR (xs:=xs) (ys:=ys) (by omega);rcases zjw hH hβ h1 hn hst with⟨hx,rfl⟩| ⟨b,hρ,rfl,hb⟩
 ·rw[hx]at h0; simp at h0
 have hBb:B≤b:=qat hB (hH.own β _ b hρ rfl).1;obtain⟨g1,g2⟩:=zrN hH hβ hρ rfl hb (ys:=ys ++ zlL xs ys) hpl;refine⟨1,.ret (.sl b 0 1 ys.length none),_,fun n hn=>?_,c,_,_,g2,g1,zha hH,.sl hρ (.inr ⟨rfl,by simp⟩),rfl,rfl⟩;obtain⟨n,rfl⟩:∃ k,n=k+1:=⟨n - 1,by omega⟩;have hlib:zjQ B 103 [.sl b 0 1 xs.length none,.lit (.int .i64 i),.lit (.int .i64 j)] H=some (.ret (.sl b 0 1 ys.length none),H.set b (.blk ((ys ++ zlL xs ys).map zfx))):=by
  refine zsc ?_;unfold zpS;rw[if_pos rfl];simp only;rw[zbd hb];simp only;rw[zhM];simp only;have hp:zlL xs ys=List.replicate (j.toNat - i.toNat) 0:=by unfold zlL; congr 1; omega
  rw[if_pos ⟨⟨hBb,by trivial,h0⟩,hi,hij,hj⟩,hp,hyl,hy]
 exact zi7 hlib
theorem EvL.delete{k:List K}{d:Option Nat}{xs:List X}{g:Option (Nat×Bool)}{l:List O}{t:Bool}{β n st:Nat}{i j:Int}{zs ys:List Int}(hg:znN zs i j=some ys)(hw:zbi S.env g=some true)(hx:zfz S.env xs=some [.sl β 0 1 n none st,.lit (.int .i64 i),.lit (.int .i64 j)])
  (hβ:S.heap[β]? = some (.els 1 (zs.map ((eI .i64).c t)))) (hn:n=zs.length) (hst:st=zs.length)
  {S1:LSt} (hs:LSt.put ⟨S.N,S.env,S.heap.set β (.els 1 ((ys ++ zlL zs ys).map ((eI .i64).c true)))⟩ d (.sl β 0 1 ys.length none zs.length)=some S1) (hk:EvL mC k0 (.ops false e l :: k) S1 Q):EvL mC k0 (.ops false e (⟨d,.call 103 xs,g⟩:: l):: k) S Q:=
 EvL.ztd hw hx (zl7 hg hβ hn hst _) hs hk
theorem zjd{xs ys:List Int}{i j:Int}(h:znN xs i j=some ys):ys.length≤xs.length:=by
 obtain⟨⟨⟨hi,hij,hj⟩,h0⟩,hy⟩:=zmf h;rw[hy]; simp; omega
theorem zsA{xs ys:List Int}(h:zsO xs=some ys):ys.length≤xs.length:=(zmP h).2
theorem zhQ{F:Nat→Bool}{s t t':Bool}{β st:Nat}{xs ys:List Int}(hle:ys.length≤xs.length)(hF:F β=true)(he:L[β]? = some (.els 1 ((ys ++ zlL xs ys).map ((eI .i64).c t))))(hst:st=xs.length)(h:s=true∨t'=true→t=true):
  Mz L F s (.sl β 0 1 ys.length none st) (fzE t' (eI .i64) ys):=by
 have hpl:=zlR hle;refine .sl hF (zlz (.inl he) (by rw[qa4,hpl,hst])) (by rw[qa4,hpl]; omega) (fun k hk=>nomatch hk) (by simp) (fun i cells cells' h1 h2=>?_) fun i k cells cells' d d' h1 h2 h3 h4=>?_
 all_goals
  rw[qaV,List.map_append]at h1;have hi:i<ys.length:=by have:=(qab.1 h2).1; simpa using this
  rw[qal (by simpa using hi)]at h1;obtain⟨x,_,rfl,rfl⟩:=zdn h1 h2
 ·rfl
 refine(eI .i64).mz x (fun hx=>h ?_) k d d' h3 h4;rcases hx with hx | hx
 ·cases s with
  | true=>exact .inl rfl
  | false=>exact .inr (by simpa using hx)
 exact .inr hx
end
end Go.Dc
