/-
 The library's functions that make a list of one's own out of another: what they come to, one's own memory seen. Conditions: none.
-/
import Derived.Test.YtnfgibomhkbcpaaNrDm
set_option linter.unusedSimpArgs false
set_option linter.unusedVariables false
namespace Go.Dc
open Go Go.Mx Go.Lx Go.Proofs
section
variable {c:Cx} {L:List LB} {H:zak} {B:Nat} {k0:Nat} {S:LSt} {Q:LX→LSt→Prop} {bar e:Bool}
theorem zno(hH:RelH c L H):c.le c:=⟨fun _ _ h=>h,fun _ _ h=>h,fun β y hy=>⟨y,hy,Lc.up.refl y⟩,hH.apart⟩
theorem zik{n f:Nat}{a:V}{r:List V}{h:zak}{x:CR×zak}(hl:zkj B f (a :: r) h=some x):(mC.run (n+1)).call B f (a :: r) h=some x:=by
 show zqp (mC.orc B f (a :: r) h) (zhi (zrm mC.orc mC.fns n) mC.fns B f (a :: r) h)=_;rw[ztT,hl];rfl
theorem zqU{B:Nat}{args:List V}{h:zak}{x:CR×zak}(hl:zph B 126 args h=some x):zkj B 126 args h=some x:=by
 unfold zkj;rw[hl];rfl
theorem zrd{B:Nat}{args:List V}{h:zak}{x:CR×zak}(hl:zfF B 49 args h=some x):zkj B 49 args h=some x:=by
 have h0:zph B 49 args h=none:=by unfold zph; rw[if_neg (by decide)]
 unfold zkj;rw[h0,hl];rfl
theorem zu7{B:Nat}{args:List V}{h:zak}{x:CR×zak}(hl:zuH B 103 args h=some x):zkj B 103 args h=some x:=by
 have h0:zph B 103 args h=none:=by unfold zph; rw[if_neg (by decide)]
 have h1:zfF B 103 args h=none:=by unfold zfF; rw[if_neg (by decide)]
 unfold zkj;rw[h0,h1,hl];rfl
theorem zvT{B:Nat}{args:List V}{h:zak}{x:CR×zak}(hl:zwz B 50 args h=some x):zkj B 50 args h=some x:=by
 have h0:zph B 50 args h=none:=by unfold zph; rw[if_neg (by decide)]
 have h1:zfF B 50 args h=none:=by unfold zfF; rw[if_neg (by decide)]
 have h2:zuH B 50 args h=none:=by unfold zuH; rw[if_neg (by decide)]
 have h3:zwF B 50 args h=none:=by unfold zwF; rw[if_neg (by decide)]
 unfold zkj;rw[h0,h1,h2,h3,hl];rfl
theorem znk(b o m n:Nat):ziV (.sl b o m n none)=false:=by cases n<;>rfl
theorem zsj{xs:List Int}{ds:List D}{vs:List V}(hd:ds=xs.map fun x=>.lit (.int .i64 x))(hr:Rs c ds vs):vs.mapM zoO=some xs∧vs=xs.map fun x=>.lit (.int .i64 x):=by
 subst hd;induction xs generalizing vs with
 | nil=>
  have:vs=[]:=qa1.1 (by simpa using hr.1.symm);subst this;exact⟨rfl,rfl⟩
 | cons x r ih=>
  obtain⟨v,vs',rfl,h1,h2⟩:=hr.inv;cases zg5 h1;obtain⟨g1,g2⟩:=ih h2;refine⟨?_,by rw[qaG,g2]⟩;rw[qcq,g1];rfl
theorem zgt(t:Bool)(xs:List Int):(xs.map ((eI .i64).c t)).flatten=xs.map fun x=>.lit (.int .i64 x):=by
 induction xs with
 | nil=>rfl
 | cons x r ih=>rw[qaG,qbg,ih]; rfl
theorem zpQ{t:Bool}{xs ys:List Int}(g:zdq 8 xs=some ys)(Qp:D→List LB→Prop):
  zdk mC bar 49 [fzE t (eI .i64) xs] L (fun d L'=>d=.sl L.length 0 1 ys.length none ys.length∧L'=L ++ [.els 1 (ys.map ((eI .i64).c true))]) Qp:=by
 have hle:=zlw g;rw[zp6 g];intro c B H vs hH hB hr;obtain⟨v,vs',rfl,h1,h2⟩:=hr.inv;have hvs:vs'=[]:=qa1.1 (by simpa using h2.1.symm);subst hvs;generalize hB2:(bif bar then H.length else B)=B2;have hn1:(0:Nat)<1:=by decide
 have nilc:∀ v',v'=.lit (.slice none 0 0)→xs=[]→EvF mC B2 49 [v'] H fun cr H'=>∃ c' d L',Step c H c' H'∧RelH c' L' H'∧c.le c'∧match cr with | .ret v=>R c' d v∧(d=.sl L.length 0 1 xs.length none xs.length∧L'=L ++ [.els 1 (xs.map ((eI .i64).c true))])| .pan v=>R c' d v∧Qp d L':=by
  intro v' hv hx;subst hv;subst hx;obtain⟨g1,g2,g3⟩:=hH.new (x:=.ghost) (lb:=.els 1 []) (o:=[]) (.inl ⟨rfl,rfl⟩) fun c' hle hρ=>⟨hn1,.inl ⟨rfl,hρ⟩⟩
  rw[qa2]at g1 g2;refine⟨1,.ret (.lit (.slice none 0 0)),H,fun n hn=>?_,_,_,_,g2,g1,g3,.slg (zaz _ _ _),rfl,rfl⟩;obtain⟨n,rfl⟩:∃ k,n=k+1:=⟨n - 1,by omega⟩;rfl
 have newc:∀(cs:List V),Rs c (xs.map fun x=>.lit (.int .i64 x)) cs→(∀ n,(mC.run (n+1)).call B2 49 [v] H=some (.ret (.sl H.length 0 1 xs.length none),H ++ [.blk cs]))→
   EvF mC B2 49 [v] H fun cr H'=>∃ c' d L',Step c H c' H'∧RelH c' L' H'∧c.le c'∧match cr with | .ret v=>R c' d v∧(d=.sl L.length 0 1 xs.length none xs.length∧L'=L ++ [.els 1 (xs.map ((eI .i64).c true))])| .pan v=>R c' d v∧Qp d L':=by
  intro cs hcs hrun;have hE:Els c 1 (xs.map ((eI .i64).c true)) cs:=⟨fun cells hm=>by obtain⟨x,_,rfl⟩:=qaJ.1 hm; rfl,by rw[zgt]; exact hcs⟩;obtain⟨g1,g2,g3⟩:=hH.new (x:=.list H.length xs.length) (lb:=.els 1 (xs.map ((eI .i64).c true))) (o:=[.blk cs]) (.inr ⟨cs,rfl,rfl⟩) fun c' hle hρ=>⟨hn1,.inr ⟨_,cs,by rw[qaE]; exact hρ,by simp,hE.mono hle⟩⟩
  refine⟨1,.ret (.sl H.length 0 1 xs.length none),H ++ [.blk cs],fun n hn=>?_,_,_,_,g2,g1,g3,.sl (zaz _ _ _) (.inr ⟨rfl,rfl⟩),rfl,rfl⟩;obtain⟨n,rfl⟩:∃ k,n=k+1:=⟨n - 1,by omega⟩;exact hrun n
 have hel:(fzE t (eI .i64) xs)=.fz t 1 (xs.map ((eI .i64).c t)):=rfl;rw[hel]at h1;generalize hes:xs.map ((eI .i64).c t)=es at h1;have hlen:es.length=xs.length:=by rw[← hes,qaE]
 cases h1 with
 | fzn=>exact nilc _ rfl (qa1.1 (by rw[← hlen]; rfl))
 | fz0=>
  have hx:xs=[]:=qa1.1 (by rw[← hlen]; rfl);subst hx;exact newc [] (Rs.nil c) fun n=>rfl
 | fz k1 k2 k3 k4 k5 k6=>
  rename_i b o cap cs;have hE:=zt9 (b:=b) hH k4 k5 k6;have hrs:=hE.rel;rw[← hes,zgt,hes,qcU]at hrs;obtain⟨q1,q2⟩:=zsj rfl hrs;refine newc _ hrs fun n=>?_
  have hlib:zkj B2 49 [.sl b o 1 es.length cap] H=some (.ret (.sl H.length 0 1 xs.length none),H ++ [.blk ((cs.drop o).take es.length)]):=by
   refine zrd ?_;unfold zfF;rw[if_pos rfl];cases hl:es.length with
   | zero=>rw[hl]at hlen; rw[← hlen]; simp
   | succ m=>
    simp only;rw[za8 (hH.look k1)];simp only;rw[hl]at k4 hlen;have hm:zag=140737488355328:=rfl;rw[if_pos ⟨by trivial,by omega,by rw[hlen]; omega⟩,← hl,q1];simp only;rw[hl,hlen]
  exact zik hlib
def zwg(b:Nat)(xs:List Int)(i:Int)(ys:List Int):Option (List Int):=if(0≤i∧i≤xs.length)∧0<ys.length∧(xs.length+ys.length)* b≤zag then some (xs.take i.toNat ++ ys ++ xs.drop i.toNat)else none
theorem zn7{b:Nat}{xs ys zs:List Int}{i:Int}(h:zwg b xs i ys=some zs):((0≤i∧i≤xs.length)∧0<ys.length∧(xs.length+ys.length)* b≤zag)∧zs=xs.take i.toNat ++ ys ++ xs.drop i.toNat:=by
 unfold zwg at h;split at h
 ·rename_i hc; cases h; exact⟨hc,rfl⟩
 cases h
theorem zs1{b:Nat}{xs ys zs:List Int}{i:Int}(h:zwg b xs i ys=some zs):zs.length=xs.length+ys.length:=by
 obtain⟨h1,rfl⟩:=zn7 h;simp; omega
theorem znr{β γ:Nat}{i:Nat}{cap:Option Nat}{es ss:List (List D)}(hβ:L[β]? = some (.els 1 es))(hγ:L[γ]? = some (.els 1 ss))(hne:β≠γ)(hi:i≤es.length)(hs:0<ss.length)(hbig:(es.length+ss.length)* 8≤zag)(Qp:D→List LB→Prop):
  zdk mC false 126 [.sl β 0 1 es.length none es.length,.lit (.int .i64 i),.sl γ 0 1 ss.length cap ss.length] L
   (fun d L'=>d=.sl β 0 1 (es.length+ss.length) none (es.length+ss.length)∧L'=L.set β (.els 1 (es.take i ++ ss ++ es.drop i))) Qp:=by
 intro c B H vs hH hB hr;obtain⟨v0,vs',rfl,h0,hr⟩:=hr.inv;obtain⟨v1,vs',rfl,h1,hr⟩:=hr.inv;obtain⟨v2,vs',rfl,h2,hr⟩:=hr.inv;have hvs:vs'=[]:=qa1.1 (by simpa using hr.1.symm);subst hvs;cases zg5 h1;have hm:zag=140737488355328:=rfl;have hsne:ss≠[]:=by rintro rfl; simp at hs
 obtain⟨_,⟨q,_⟩| ⟨b2,us,hρ2,hu,hE2⟩⟩:=hH.obj γ _ hγ
 ·exact(hsne q).elim
 cases zer h2 hρ2;have hul:us.length=ss.length:=by rw[hE2.ziC,qcU]
 have hB2:B≤b2:=qao hB (hH.own γ _ b2 hρ2 rfl).1;have hnew:es.length<es.length+ss.length:=by omega
 have hln:(es.take i ++ ss ++ es.drop i).length=es.length+ss.length:=by simp; omega
 obtain⟨hn1,⟨q1,q2⟩| ⟨b,cs,hρ,hc,hE⟩⟩:=hH.obj β _ hβ
 ·subst q1;have hi0:i=0:=by simpa using hi
  subst hi0;have hv0:v0=.lit (.slice none 0 0):=by
   rcases zqi h0 with⟨_,_,p1,_⟩| ⟨_,p2⟩
   ·rw[q2]at p1; cases p1
   exact p2
  subst hv0;obtain⟨g1,g2,g3⟩:=hH.move (β:=β) (m:=ss.length) (vs:=us) (lb:=.els 1 ss) q2 (.inr ⟨_,_,rfl,hs⟩) (H1:=H) rfl (fun _ _=>rfl) (fun b hb=>by cases hb) fun c' hle hρ'=>⟨hn1,.inr ⟨_,us,hρ',by simp,hE2.mono hle⟩⟩
  refine⟨1,.ret (.sl H.length 0 1 ss.length none),H ++ [.blk us],fun n hn=>?_,_,.sl β 0 1 ss.length none ss.length,_,g2,g1,g3,.sl (zaz _ _ _) (.inr ⟨rfl,by simp⟩),by simp,by simp⟩;obtain⟨n,rfl⟩:∃ k,n=k+1:=⟨n - 1,by omega⟩;have hlib:zkj B 126 [.lit (.slice none 0 0),.lit (.int .i64 ((0:Nat):Int)),.sl b2 (0 * 1) 1 ss.length cap] H=some (.ret (.sl H.length 0 1 ss.length none),H ++ [.blk us]):=by
   refine zqU ?_;unfold zph;rw[if_pos rfl];simp only;rw[za8 hu];simp only;rw[if_pos ⟨hB2,hs,by omega,by trivial,by simp⟩,if_pos (by rfl),if_pos ⟨by trivial,by simp at hbig; omega⟩];rw[qb6,qa8,qaK (by omega)]
  exact zik hlib
 cases zer h0 hρ;have hcl:cs.length=es.length:=by rw[hE.ziC,qcU]
 have hBb:B≤b:=qao hB (hH.own β _ b hρ rfl).1;have hbb:b≠b2:=fun he=>hne (hH.inj β γ _ _ b hρ hρ2 rfl (by rw[he]; rfl))
 have hE':=((hE.take i).append hE2).append (hE.drop i);rw[qcU]at hE';obtain⟨g1,g2,g3⟩:=hH.move (β:=β) (m:=es.length+ss.length) (vs:=cs.take i ++ us ++ cs.drop i) (lb:=.els 1 (es.take i ++ ss ++ es.drop i)) hρ (.inr ⟨_,_,rfl,hnew⟩) (H1:=H.set b .dead) (by simp)
  (fun b' hb'=>qan (fun he=>hb' (by rw[he]; rfl))) (fun b' hb'=>by cases hb'; exact⟨_,hc⟩) fun c' hle hρ'=>⟨hn1,.inr ⟨_,_,by rw[hln]; exact hρ',by simp,hE'.mono hle⟩⟩
 refine⟨1,.ret (.sl H.length 0 1 (es.length+ss.length) none),_,fun n hn=>?_,_,.sl β 0 1 (es.length+ss.length) none (es.length+ss.length),_,g2,g1,g3,.sl (zaz _ _ _) (.inr ⟨rfl,by simp⟩),rfl,rfl⟩;obtain⟨n,rfl⟩:∃ k,n=k+1:=⟨n - 1,by omega⟩;have hlib:zkj B 126 [.sl b (0 * 1) 1 es.length none,.lit (.int .i64 i),.sl b2 (0 * 1) 1 ss.length cap] H=some (.ret (.sl H.length 0 1 (es.length+ss.length) none),H.set b .dead ++ [.blk (cs.take i ++ us ++ cs.drop i)]):=by
  refine zqU ?_;unfold zph;rw[if_pos rfl];simp only;rw[za8 hu];simp only;have he:¬ (ziV (.sl b (0 * 1) 1 es.length none)=true):=by rw[znk]; decide
  rw[if_pos ⟨hB2,hs,by omega,by trivial,by simp⟩,if_neg he];rw[za8 hc];simp only;rw[if_pos ⟨by trivial,hBb,hbb,by omega,by simpa using hi,by omega⟩];rw[qb6,qa8,qa8,qaD,qaK (show us.length≤ss.length by omega)]
 exact zik hlib
theorem EvL.clone{k:List K}{d:Option Nat}{xs:List X}{g:Option (Nat×Bool)}{l:List O}{t:Bool}{zs ys:List Int}(hg:zdq 8 zs=some ys)(hw:zbl S.env g=some true)(hx:zfV S.env xs=some [fzE t (eI .i64) zs])
  (hk:wp mC k0 (.ops bar e l :: k) (LSt.put ⟨S.N,S.env,S.heap ++ [.els 1 (ys.map ((eI .i64).c true))]⟩ d (.sl S.heap.length 0 1 ys.length none ys.length)) Q):EvL mC k0 (.ops bar e (⟨d,.call 49 xs,g⟩:: l):: k) S Q:=
 EvL.call (Qp1:=fun _ _=>False) hw hx (zpQ hg _) (fun r L' h=>by obtain⟨rfl,rfl⟩:=h; exact hk) fun _ _ h=>h.elim
theorem EvL.insert{k:List K}{d:Option Nat}{xs:List X}{g:Option (Nat×Bool)}{l:List O}{t t2:Bool}{β γ n st m st2:Nat}{cap:Option Nat}{i:Int}{zs ys us:List Int}(hg:zwg 8 zs i us=some ys)(hw:zbl S.env g=some true)
  (hx:zfV S.env xs=some [.sl β 0 1 n none st,.lit (.int .i64 i),.sl γ 0 1 m cap st2]) (hβ:S.heap[β]? = some (.els 1 (zs.map ((eI .i64).c t)))) (hγ:S.heap[γ]? = some (.els 1 (us.map ((eI .i64).c t2)))) (hne:Nat.beq β γ=false)
  (hn:n=zs.length) (hst:st=zs.length) (hm:m=us.length) (hst2:st2=us.length)
  (hk:wp mC k0 (.ops false e l :: k) (LSt.put ⟨S.N,S.env,S.heap.set β (.els 1 (ys.map ((eI .i64).c true)))⟩ d (.sl β 0 1 ys.length none ys.length)) Q):EvL mC k0 (.ops false e (⟨d,.call 126 xs,g⟩:: l):: k) S Q:=by
 have hl:=zs1 hg;obtain⟨⟨⟨h1,h2⟩,h3,h4⟩,h5⟩:=zn7 hg;have ht:∀(t t':Bool) (xs:List Int),xs.map ((eI .i64).c t)=xs.map ((eI .i64).c t'):=fun _ _ _=>rfl
 refine EvL.call (Qp1:=fun _ _=>False) hw hx ?_ (Q1:=fun r L'=>r=.sl β 0 1 ys.length none ys.length∧L'=S.heap.set β (.els 1 (ys.map ((eI .i64).c true)))) (fun r L' h=>by obtain⟨rfl,rfl⟩:=h; exact hk) fun _ _ h=>h.elim
 have hc:=znr (L:=S.heap) (β:=β) (γ:=γ) (i:=i.toNat) (cap:=cap) hβ hγ (by intro he; rw[he,Nat.beq_refl]at hne; cases hne) (by rw[qaE]; omega) (by rw[qaE]; exact h3) (by rw[qaE,qaE]; exact h4) (fun _ _=>False);rw[qaE,qaE]at hc;rw[qb2 h1]at hc;subst hn;subst hst;subst hm;subst hst2;rw[hl];have hy:(zs.map ((eI .i64).c t)).take i.toNat=(zs.take i.toNat).map ((eI .i64).c t):=(List.map_take).symm;have hy2:(zs.map ((eI .i64).c t)).drop i.toNat=(zs.drop i.toNat).map ((eI .i64).c t):=(List.map_drop).symm;have hz:ys.map ((eI .i64).c true)=(zs.map ((eI .i64).c t)).take i.toNat ++ us.map ((eI .i64).c t2)++ (zs.map ((eI .i64).c t)).drop i.toNat:=by
  rw[hy,hy2,h5,qbF,qbF];rfl
 rw[hz];exact hc
theorem zx2{xs ys:List Int}{β b:Nat}{t:Bool}{m:Nat}{cs:List V}(hH:RelH c L H)(hβ:L[β]? = some (.els 1 (xs.map ((eI .i64).c t))))(hρ:c.ρ β=some (.list b m))(hm:m=xs.length)(hc:H[b]? = some (.blk cs))(hl:ys.length=xs.length):
  RelH c (L.set β (.els 1 (ys.map ((eI .i64).c true)))) (H.set b (.blk (ys.map zgK)))∧Step c H c (H.set b (.blk (ys.map zgK))):=
 hH.write hρ rfl hc fun H' hb=>⟨by decide,.inr ⟨b,_,by rw[qaE,hl,← hm]; exact hρ,hb,fun cells hm=>(by obtain⟨x,_,rfl⟩:=qaJ.1 hm; rfl),by
  have:(ys.map ((eI .i64).c true)).flatten=(ys.map fun x=>Value.int .i64 x).map .lit:=by rw[zgt]; simp
  rw[this];have h2:ys.map zgK=(ys.map fun x=>Value.int .i64 x).map .lit:=by simp[zgK]
  rw[h2]
  exact Rs.lits _⟩⟩
theorem znT{α:Type}{l:List α}{i:Nat}{x:α}(h:l[i]? = some x):l.set i x=l:=by
 obtain⟨h1,rfl⟩:=qab.1 h;exact List.set_getElem_self h1
theorem zog{xs:List Int}{β n st:Nat}{t:Bool}{v:V}(hH:RelH c L H)(hβ:L[β]? = some (.els 1 (xs.map ((eI .i64).c t))))(hr:R c (.sl β 0 1 n none st) v)(hn:n=xs.length)(hst:st=xs.length):
  (xs=[]∧v=.lit (.slice none 0 0))∨∃ b,c.ρ β=some (.list b xs.length)∧v=.sl b 0 1 xs.length none∧H[b]? = some (.blk (xs.map zgK)):=by
 subst hn;subst hst;obtain⟨_,⟨q1,q2⟩| ⟨b,cs,hρ,hc,hE⟩⟩:=hH.obj β _ hβ
 ·have hx:xs=[]:=by simpa using q1
  refine .inl ⟨hx,?_⟩;rcases zqi hr with⟨_,_,p1,_⟩| ⟨_,p2⟩
  ·rw[q2]at p1; cases p1
  exact p2
 rw[qaE]at hρ;have hv:=zer hr hρ;refine .inr ⟨b,hρ,by simpa using hv,?_⟩;have hrs:=hE.rel;rw[zgt]at hrs;obtain⟨_,q2⟩:=zsj rfl hrs;rw[hc,q2];rfl
def zlI(b:Nat)(xs:List Int):Option (List Int):=if xs.length * b≤zag then some (zfM xs)else none
theorem zkP{b:Nat}{xs ys:List Int}(h:zlI b xs=some ys):xs.length * b≤zag∧ys=zfM xs:=by
 unfold zlI at h;split at h
 ·rename_i hc; cases h; exact⟨hc,rfl⟩
 cases h
theorem zk8{b:Nat}{xs ys:List Int}(h:zlI b xs=some ys):ys.length=xs.length:=by rw[(zkP h).2,zil]
theorem zlx:zfM []=[]:=by simp[zfM]
theorem zqC{β n st:Nat}{t:Bool}{xs ys:List Int}(hg:zlI 8 xs=some ys)(hβ:L[β]? = some (.els 1 (xs.map ((eI .i64).c t))))(hn:n=xs.length)(hst:st=xs.length)(Qp:D→List LB→Prop):
  zdk mC false 50 [.sl β 0 1 n none st] L (fun d L'=>d=.tup []∧L'=L.set β (.els 1 (ys.map ((eI .i64).c true)))) Qp:=by
 intro c B H vs hH hB hr;obtain⟨hbig,rfl⟩:=zkP hg;have hmb:zag=140737488355328:=rfl;obtain⟨v,vs',rfl,h1,h2⟩:=hr.inv;have hvs:vs'=[]:=qa1.1 (by simpa using h2.1.symm);subst hvs;rcases zog hH hβ h1 hn hst with⟨rfl,rfl⟩| ⟨b,hρ,rfl,hb⟩
 ·refine⟨1,.ret (.tup []),H,fun n hn=>?_,c,.tup [],L,.refl c H,hH,zno hH,.tup rfl fun i d v h=>by simp at h,rfl,by rw[show(([]:List Int).map ((eI .i64).c t))=(zfM []).map ((eI .i64).c true)from by rw[zlx]; rfl]at hβ; exact(znT hβ).symm⟩;obtain⟨n,rfl⟩:∃ k,n=k+1:=⟨n - 1,by omega⟩;rfl
 have hBb:B≤b:=qao hB (hH.own β _ b hρ rfl).1;obtain⟨g1,g2⟩:=zx2 hH hβ hρ rfl hb (ys:=zfM xs) (zil xs);refine⟨1,.ret (.tup []),_,fun n hn=>?_,c,.tup [],_,g2,g1,zno hH,.tup rfl fun i d v h=>by simp at h,rfl,rfl⟩;obtain⟨n,rfl⟩:∃ k,n=k+1:=⟨n - 1,by omega⟩;have hlib:zkj B 50 [.sl b 0 1 xs.length none] H=some (.ret (.tup []),H.set b (.blk ((zfM xs).map zgK))):=by
  refine zvT ?_;unfold zwz;rw[if_pos rfl];cases hl:xs.length with
  | zero=>
   have hx:xs=[]:=qa1.1 hl;subst hx;show some (CR.ret (.tup []),H)=_;have:(zfM []).map zgK=([]:List Int).map zgK:=by rw[zlx]
   rw[this,znT hb]
  | succ m=>
   simp only;rw[za8 hb];simp only;rw[zlV];simp only;rw[if_pos ⟨⟨hBb,hl.symm⟩,by omega⟩]
 exact zik hlib
theorem EvL.sort{k:List K}{d:Option Nat}{xs:List X}{g:Option (Nat×Bool)}{l:List O}{t:Bool}{β n st:Nat}{zs ys:List Int}(hg:zlI 8 zs=some ys)(hw:zbl S.env g=some true)(hx:zfV S.env xs=some [.sl β 0 1 n none st])
  (hβ:S.heap[β]? = some (.els 1 (zs.map ((eI .i64).c t)))) (hn:n=zs.length) (hst:st=zs.length)
  (hk:wp mC k0 (.ops false e l :: k) (LSt.put ⟨S.N,S.env,S.heap.set β (.els 1 (ys.map ((eI .i64).c true)))⟩ d (.tup [])) Q):EvL mC k0 (.ops false e (⟨d,.call 50 xs,g⟩:: l):: k) S Q:=
 EvL.call (Qp1:=fun _ _=>False) hw hx (zqC hg hβ hn hst _) (fun r L' h=>by obtain⟨rfl,rfl⟩:=h; exact hk) fun _ _ h=>h.elim
def zt4(xs ys:List Int):List Int:=List.replicate (xs.length - ys.length) 0
theorem zp8{xs ys:List Int}(h:ys.length≤xs.length):(ys ++ zt4 xs ys).length=xs.length:=by unfold zt4; rw[qaA,qbH]; omega
theorem EvL.zy4{k:List K}{d:Option Nat}{f:Nat}{xs:List X}{g:Option (Nat×Bool)}{l:List O}{ds:List D}{r:D}{L':List LB}{S1:LSt}(hw:zbl S.env g=some true)(hx:zfV S.env xs=some ds)(hc:zdk mC (zmK bar f) f ds S.heap (fun d L1=>d=r∧L1=L') fun _ _=>False)
  (hs:LSt.put ⟨S.N,S.env,L'⟩ d r=some S1) (hk:EvL mC k0 (.ops bar e l :: k) S1 Q):EvL mC k0 (.ops bar e (⟨d,.call f xs,g⟩:: l):: k) S Q:=by
 intro c0 H0 c B rd M hd hway hr hB;obtain⟨vs,g1,g2⟩:=zbX hr hx;refine EvO.call (zcg hr hw) rfl g1 (EvF.mono (hc c B M.heap vs hr.heap hB g2) ?_);rintro cr H' ⟨c',r',L1,h1,h2,h3,h4⟩;cases cr with
 | ret v=>
  obtain⟨h4,rfl,rfl⟩:=h4;exact hk c0 H0 c' B rd _ hd (by cases d<;>exact hway.go h1 h3 hr.heap rfl) (zde hr h3 h2 h4 hs) (by rw[h1.base]; exact hB)
 | pan v=>exact h4.2.elim
def zqN(xs:List Int)(i j:Int):Option (List Int):=if(0≤i∧i≤j∧j≤xs.length)∧0<xs.length then some (xs.take i.toNat ++ xs.drop j.toNat)else none
theorem zoT{xs ys:List Int}{i j:Int}(h:zqN xs i j=some ys):((0≤i∧i≤j∧j≤xs.length)∧0<xs.length)∧ys=xs.take i.toNat ++ xs.drop j.toNat:=by
 unfold zqN at h;split at h
 ·rename_i hc; cases h; exact⟨hc,rfl⟩
 cases h
theorem znD{β n st:Nat}{t:Bool}{xs ys:List Int}{i j:Int}(hg:zqN xs i j=some ys)(hβ:L[β]? = some (.els 1 (xs.map ((eI .i64).c t))))(hn:n=xs.length)(hst:st=xs.length)(Qp:D→List LB→Prop):
  zdk mC false 103 [.sl β 0 1 n none st,.lit (.int .i64 i),.lit (.int .i64 j)] L (fun d L'=>d=.sl β 0 1 ys.length none xs.length∧L'=L.set β (.els 1 ((ys ++ zt4 xs ys).map ((eI .i64).c true)))) Qp:=by
 intro c B H vs hH hB hr;obtain⟨⟨⟨hi,hij,hj⟩,h0⟩,hy⟩:=zoT hg;obtain⟨v,vs',rfl,h1,hr⟩:=hr.inv;obtain⟨v1,vs',rfl,h2,hr⟩:=hr.inv;obtain⟨v2,vs',rfl,h3,hr⟩:=hr.inv;have hvs:vs'=[]:=qa1.1 (by simpa using hr.1.symm);subst hvs;cases zg5 h2;cases zg5 h3;have hyl:ys.length=xs.length - (j.toNat - i.toNat):=by rw[hy]; simp; omega
 have hpl:=zp8 (xs:=xs) (ys:=ys) (by omega);rcases zog hH hβ h1 hn hst with⟨hx,rfl⟩| ⟨b,hρ,rfl,hb⟩
 ·rw[hx]at h0; simp at h0
 have hBb:B≤b:=qao hB (hH.own β _ b hρ rfl).1;obtain⟨g1,g2⟩:=zx2 hH hβ hρ rfl hb (ys:=ys ++ zt4 xs ys) hpl;refine⟨1,.ret (.sl b 0 1 ys.length none),_,fun n hn=>?_,c,_,_,g2,g1,zno hH,.sl hρ (.inr ⟨rfl,by simp⟩),rfl,rfl⟩;obtain⟨n,rfl⟩:∃ k,n=k+1:=⟨n - 1,by omega⟩;have hlib:zkj B 103 [.sl b 0 1 xs.length none,.lit (.int .i64 i),.lit (.int .i64 j)] H=some (.ret (.sl b 0 1 ys.length none),H.set b (.blk ((ys ++ zt4 xs ys).map zgK))):=by
  refine zu7 ?_;unfold zuH;rw[if_pos rfl];simp only;rw[za8 hb];simp only;rw[zlV];simp only;have hp:zt4 xs ys=List.replicate (j.toNat - i.toNat) 0:=by unfold zt4; congr 1; omega
  rw[if_pos ⟨⟨hBb,by trivial,h0⟩,hi,hij,hj⟩,hp,hyl,hy]
 exact zik hlib
theorem EvL.delete{k:List K}{d:Option Nat}{xs:List X}{g:Option (Nat×Bool)}{l:List O}{t:Bool}{β n st:Nat}{i j:Int}{zs ys:List Int}(hg:zqN zs i j=some ys)(hw:zbl S.env g=some true)(hx:zfV S.env xs=some [.sl β 0 1 n none st,.lit (.int .i64 i),.lit (.int .i64 j)])
  (hβ:S.heap[β]? = some (.els 1 (zs.map ((eI .i64).c t)))) (hn:n=zs.length) (hst:st=zs.length)
  {S1:LSt} (hs:LSt.put ⟨S.N,S.env,S.heap.set β (.els 1 ((ys ++ zt4 zs ys).map ((eI .i64).c true)))⟩ d (.sl β 0 1 ys.length none zs.length)=some S1) (hk:EvL mC k0 (.ops false e l :: k) S1 Q):EvL mC k0 (.ops false e (⟨d,.call 103 xs,g⟩:: l):: k) S Q:=
 EvL.zy4 hw hx (znD hg hβ hn hst _) hs hk
theorem znf{xs ys:List Int}{i j:Int}(h:zqN xs i j=some ys):ys.length≤xs.length:=by
 obtain⟨⟨⟨hi,hij,hj⟩,h0⟩,hy⟩:=zoT h;rw[hy]; simp; omega
theorem zmQ{F:Nat→Bool}{s t t':Bool}{β st:Nat}{xs ys:List Int}(hle:ys.length≤xs.length)(hF:F β=true)(he:L[β]? = some (.els 1 ((ys ++ zt4 xs ys).map ((eI .i64).c t))))(hst:st=xs.length)(h:s=true∨t'=true→t=true):
  Mz L F s (.sl β 0 1 ys.length none st) (fzE t' (eI .i64) ys):=by
 have hpl:=zp8 hle;refine .sl hF (zkv (.inl he) (by rw[qaE,hpl,hst])) (by rw[qaE,hpl]; omega) (fun k hk=>nomatch hk) (by simp) (fun i cells cells' h1 h2=>?_) fun i k cells cells' d d' h1 h2 h3 h4=>?_
 all_goals
  rw[qaO,qbF]at h1;have hi:i<ys.length:=by have:=(qab.1 h2).1; simpa using this
  rw[qal (by simpa using hi)]at h1;obtain⟨x,_,rfl,rfl⟩:=zcV h1 h2
 ·rfl
 refine(eI .i64).mz x (fun hx=>h ?_) k d d' h3 h4;rcases hx with hx | hx
 ·cases s with
  | true=>exact .inl rfl
  | false=>exact .inr (by simpa using hx)
 exact .inr hx
end
end Go.Dc
