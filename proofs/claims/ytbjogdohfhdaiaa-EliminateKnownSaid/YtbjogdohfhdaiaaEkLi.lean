/-
 The library's functions that make a list of one's own out of another: what they come to, one's own memory seen. Conditions: none.
-/
import Derived.Test.YtbjogdohfhdaiaaEkDm
set_option linter.unusedSimpArgs false
set_option linter.unusedVariables false
namespace Go.Dc
open Go Go.Mx Go.Lx Go.Proofs
section
variable {c:Cx} {L:List LB} {H:zas} {B:Nat} {k0:Nat} {S:LSt} {Q:LX→LSt→Prop} {bar e:Bool}
theorem zia(hH:RelH c L H):c.le c:=⟨fun _ _ h=>h,fun _ _ h=>h,fun β y hy=>⟨y,hy,Lc.up.refl y⟩,hH.apart⟩
theorem zhr{n f:Nat}{a:V}{r:List V}{h:zas}{x:CR×zas}(hl:ziZ B f (a :: r) h=some x):(mC.run (n+1)).call B f (a :: r) h=some x:=by
 show zpM (mC.orc B f (a :: r) h) (ziy (zqZ mC.orc mC.fns n) mC.fns B f (a :: r) h)=_;rw[zpR,hl];rfl
theorem zoU{B:Nat}{args:List V}{h:zas}{x:CR×zas}(hl:zmE B 165 args h=some x):ziZ B 165 args h=some x:=by
 unfold ziZ;rw[hl];rfl
theorem zoJ{B:Nat}{args:List V}{h:zas}{x:CR×zas}(hl:zfp B 25 args h=some x):ziZ B 25 args h=some x:=by
 have h0:zmE B 25 args h=none:=by unfold zmE; rw[if_neg (by decide)]
 unfold ziZ;rw[h0,hl];rfl
theorem zre{B:Nat}{args:List V}{h:zas}{x:CR×zas}(hl:zpH B 91 args h=some x):ziZ B 91 args h=some x:=by
 have h0:zmE B 91 args h=none:=by unfold zmE; rw[if_neg (by decide)]
 have h1:zfp B 91 args h=none:=by unfold zfp; rw[if_neg (by decide)]
 unfold ziZ;rw[h0,h1,hl];rfl
theorem zq1{B:Nat}{args:List V}{h:zas}{x:CR×zas}(hl:zqR B 118 args h=some x):ziZ B 118 args h=some x:=by
 have h0:zmE B 118 args h=none:=by unfold zmE; rw[if_neg (by decide)]
 have h1:zfp B 118 args h=none:=by unfold zfp; rw[if_neg (by decide)]
 have h2:zpH B 118 args h=none:=by unfold zpH; rw[if_neg (by decide)]
 unfold ziZ;rw[h0,h1,h2,hl];rfl
theorem zrF{B:Nat}{args:List V}{h:zas}{x:CR×zas}(hl:zrS B 117 args h=some x):ziZ B 117 args h=some x:=by
 have h0:zmE B 117 args h=none:=by unfold zmE; rw[if_neg (by decide)]
 have h1:zfp B 117 args h=none:=by unfold zfp; rw[if_neg (by decide)]
 have h2:zpH B 117 args h=none:=by unfold zpH; rw[if_neg (by decide)]
 have h3:zqR B 117 args h=none:=by unfold zqR; rw[if_neg (by decide)]
 unfold ziZ;rw[h0,h1,h2,h3,hl];rfl
theorem zmG(b o m n:Nat):zjm (.sl b o m n none)=false:=by cases n<;>rfl
theorem zo3{xs:List Int}{ds:List D}{vs:List V}(hd:ds=xs.map fun x=>.lit (.int .i64 x))(hr:Rs c ds vs):vs.mapM znn=some xs∧vs=xs.map fun x=>.lit (.int .i64 x):=by
 subst hd;induction xs generalizing vs with
 | nil=>
  have:vs=[]:=qaw.1 (by simpa using hr.1.symm);subst this;exact⟨rfl,rfl⟩
 | cons x r ih=>
  obtain⟨v,vs',rfl,h1,h2⟩:=hr.inv;cases zgX h1;obtain⟨g1,g2⟩:=ih h2;refine⟨?_,by rw[qaH,g2]⟩;rw[qbD,g1];rfl
theorem zgF(t:Bool)(xs:List Int):(xs.map ((eI .i64).c t)).flatten=xs.map fun x=>.lit (.int .i64 x):=by
 induction xs with
 | nil=>rfl
 | cons x r ih=>rw[qaH,qaY,ih]; rfl
theorem znL{t:Bool}{xs ys:List Int}(g:zeY 8 xs=some ys)(Qp:D→List LB→Prop):
  zdD mC bar 25 [fzE t (eI .i64) xs] L (fun d L'=>d=.sl L.length 0 1 ys.length none ys.length∧L'=L ++ [.els 1 (ys.map ((eI .i64).c true))]) Qp:=by
 have hle:=zik g;rw[zo8 g];intro c B H vs hH hB hr;obtain⟨v,vs',rfl,h1,h2⟩:=hr.inv;have hvs:vs'=[]:=qaw.1 (by simpa using h2.1.symm);subst hvs;generalize hB2:(bif bar then H.length else B)=B2;have hn1:(0:Nat)<1:=by decide
 have nilc:∀ v',v'=.lit (.slice none 0 0)→xs=[]→EvF mC B2 25 [v'] H fun cr H'=>∃ c' d L',Step c H c' H'∧RelH c' L' H'∧c.le c'∧match cr with | .ret v=>R c' d v∧(d=.sl L.length 0 1 xs.length none xs.length∧L'=L ++ [.els 1 (xs.map ((eI .i64).c true))])| .pan v=>R c' d v∧Qp d L':=by
  intro v' hv hx;subst hv;subst hx;obtain⟨g1,g2,g3⟩:=hH.new (x:=.ghost) (lb:=.els 1 []) (o:=[]) (.inl ⟨rfl,rfl⟩) fun c' hle hρ=>⟨hn1,.inl ⟨rfl,hρ⟩⟩
  rw[qaC]at g1 g2;refine⟨1,.ret (.lit (.slice none 0 0)),H,fun n hn=>?_,_,_,_,g2,g1,g3,.slg (zaA _ _ _),rfl,rfl⟩;obtain⟨n,rfl⟩:∃ k,n=k+1:=⟨n - 1,by omega⟩;rfl
 have newc:∀(cs:List V),Rs c (xs.map fun x=>.lit (.int .i64 x)) cs→(∀ n,(mC.run (n+1)).call B2 25 [v] H=some (.ret (.sl H.length 0 1 xs.length none),H ++ [.blk cs]))→
   EvF mC B2 25 [v] H fun cr H'=>∃ c' d L',Step c H c' H'∧RelH c' L' H'∧c.le c'∧match cr with | .ret v=>R c' d v∧(d=.sl L.length 0 1 xs.length none xs.length∧L'=L ++ [.els 1 (xs.map ((eI .i64).c true))])| .pan v=>R c' d v∧Qp d L':=by
  intro cs hcs hrun;have hE:Els c 1 (xs.map ((eI .i64).c true)) cs:=⟨fun cells hm=>by obtain⟨x,_,rfl⟩:=qaU.1 hm; rfl,by rw[zgF]; exact hcs⟩;obtain⟨g1,g2,g3⟩:=hH.new (x:=.list H.length xs.length) (lb:=.els 1 (xs.map ((eI .i64).c true))) (o:=[.blk cs]) (.inr ⟨cs,rfl,rfl⟩) fun c' hle hρ=>⟨hn1,.inr ⟨_,cs,by rw[qaD]; exact hρ,by simp,hE.mono hle⟩⟩
  refine⟨1,.ret (.sl H.length 0 1 xs.length none),H ++ [.blk cs],fun n hn=>?_,_,_,_,g2,g1,g3,.sl (zaA _ _ _) (.inr ⟨rfl,rfl⟩),rfl,rfl⟩;obtain⟨n,rfl⟩:∃ k,n=k+1:=⟨n - 1,by omega⟩;exact hrun n
 have hel:(fzE t (eI .i64) xs)=.fz t 1 (xs.map ((eI .i64).c t)):=rfl;rw[hel]at h1;generalize hes:xs.map ((eI .i64).c t)=es at h1;have hlen:es.length=xs.length:=by rw[← hes,qaD]
 cases h1 with
 | fzn=>exact nilc _ rfl (qaw.1 (by rw[← hlen]; rfl))
 | fz0=>
  have hx:xs=[]:=qaw.1 (by rw[← hlen]; rfl);subst hx;exact newc [] (Rs.nil c) fun n=>rfl
 | fz k1 k2 k3 k4 k5 k6=>
  rename_i b o cap cs;have hE:=zqA (b:=b) hH k4 k5 k6;have hrs:=hE.rel;rw[← hes,zgF,hes,Nat.mul_one]at hrs;obtain⟨q1,q2⟩:=zo3 rfl hrs;refine newc _ hrs fun n=>?_
  have hlib:ziZ B2 25 [.sl b o 1 es.length cap] H=some (.ret (.sl H.length 0 1 xs.length none),H ++ [.blk ((cs.drop o).take es.length)]):=by
   refine zoJ ?_;unfold zfp;rw[if_pos rfl];cases hl:es.length with
   | zero=>rw[hl]at hlen; rw[← hlen]; simp
   | succ m=>
    simp only;rw[za7 (hH.look k1)];simp only;rw[hl]at k4 hlen;have hm:zav=140737488355328:=rfl;rw[if_pos ⟨by trivial,by omega,by rw[hlen]; omega⟩,← hl,q1];simp only;rw[hl,hlen]
  exact zhr hlib
def zsN(b:Nat)(xs:List Int)(i:Int)(ys:List Int):Option (List Int):=if(0≤i∧i≤xs.length)∧0<ys.length∧(xs.length+ys.length)* b≤zav then some (xs.take i.toNat ++ ys ++ xs.drop i.toNat)else none
theorem zm3{b:Nat}{xs ys zs:List Int}{i:Int}(h:zsN b xs i ys=some zs):((0≤i∧i≤xs.length)∧0<ys.length∧(xs.length+ys.length)* b≤zav)∧zs=xs.take i.toNat ++ ys ++ xs.drop i.toNat:=by
 unfold zsN at h;split at h
 ·rename_i hc; cases h; exact⟨hc,rfl⟩
 cases h
theorem zpX{b:Nat}{xs ys zs:List Int}{i:Int}(h:zsN b xs i ys=some zs):zs.length=xs.length+ys.length:=by
 obtain⟨h1,rfl⟩:=zm3 h;simp; omega
theorem zmv{β γ:Nat}{i:Nat}{cap:Option Nat}{es ss:List (List D)}(hβ:L[β]? = some (.els 1 es))(hγ:L[γ]? = some (.els 1 ss))(hne:β≠γ)(hi:i≤es.length)(hs:0<ss.length)(hbig:(es.length+ss.length)* 8≤zav)(Qp:D→List LB→Prop):
  zdD mC false 165 [.sl β 0 1 es.length none es.length,.lit (.int .i64 i),.sl γ 0 1 ss.length cap ss.length] L
   (fun d L'=>d=.sl β 0 1 (es.length+ss.length) none (es.length+ss.length)∧L'=L.set β (.els 1 (es.take i ++ ss ++ es.drop i))) Qp:=by
 intro c B H vs hH hB hr;obtain⟨v0,vs',rfl,h0,hr⟩:=hr.inv;obtain⟨v1,vs',rfl,h1,hr⟩:=hr.inv;obtain⟨v2,vs',rfl,h2,hr⟩:=hr.inv;have hvs:vs'=[]:=qaw.1 (by simpa using hr.1.symm);subst hvs;cases zgX h1;have hm:zav=140737488355328:=rfl;have hsne:ss≠[]:=by rintro rfl; simp at hs
 obtain⟨_,⟨q,_⟩| ⟨b2,us,hρ2,hu,hE2⟩⟩:=hH.obj γ _ hγ
 ·exact(hsne q).elim
 cases zfi h2 hρ2;have hul:us.length=ss.length:=by rw[hE2.zkw,Nat.mul_one]
 have hB2:B≤b2:=qas hB (hH.own γ _ b2 hρ2 rfl).1;have hnew:es.length<es.length+ss.length:=by omega
 have hln:(es.take i ++ ss ++ es.drop i).length=es.length+ss.length:=by simp; omega
 obtain⟨hn1,⟨q1,q2⟩| ⟨b,cs,hρ,hc,hE⟩⟩:=hH.obj β _ hβ
 ·subst q1;have hi0:i=0:=by simpa using hi
  subst hi0;have hv0:v0=.lit (.slice none 0 0):=by
   rcases zoW h0 with⟨_,_,p1,_⟩| ⟨_,p2⟩
   ·rw[q2]at p1; cases p1
   exact p2
  subst hv0;obtain⟨g1,g2,g3⟩:=hH.move (β:=β) (m:=ss.length) (vs:=us) (lb:=.els 1 ss) q2 (.inr ⟨_,_,rfl,hs⟩) (H1:=H) rfl (fun _ _=>rfl) (fun b hb=>by cases hb) fun c' hle hρ'=>⟨hn1,.inr ⟨_,us,hρ',by simp,hE2.mono hle⟩⟩
  refine⟨1,.ret (.sl H.length 0 1 ss.length none),H ++ [.blk us],fun n hn=>?_,_,.sl β 0 1 ss.length none ss.length,_,g2,g1,g3,.sl (zaA _ _ _) (.inr ⟨rfl,by simp⟩),by simp,by simp⟩;obtain⟨n,rfl⟩:∃ k,n=k+1:=⟨n - 1,by omega⟩;have hlib:ziZ B 165 [.lit (.slice none 0 0),.lit (.int .i64 ((0:Nat):Int)),.sl b2 (0 * 1) 1 ss.length cap] H=some (.ret (.sl H.length 0 1 ss.length none),H ++ [.blk us]):=by
   refine zoU ?_;unfold zmE;rw[if_pos rfl];simp only;rw[za7 hu];simp only;rw[if_pos ⟨hB2,hs,by omega,by trivial,by simp⟩,if_pos (by rfl),if_pos ⟨by trivial,by simp at hbig; omega⟩];rw[qbj,qbE,qaG (by omega)]
  exact zhr hlib
 cases zfi h0 hρ;have hcl:cs.length=es.length:=by rw[hE.zkw,Nat.mul_one]
 have hBb:B≤b:=qas hB (hH.own β _ b hρ rfl).1;have hbb:b≠b2:=fun he=>hne (hH.inj β γ _ _ b hρ hρ2 rfl (by rw[he]; rfl))
 have hE':=((hE.take i).append hE2).append (hE.drop i);rw[Nat.mul_one]at hE';obtain⟨g1,g2,g3⟩:=hH.move (β:=β) (m:=es.length+ss.length) (vs:=cs.take i ++ us ++ cs.drop i) (lb:=.els 1 (es.take i ++ ss ++ es.drop i)) hρ (.inr ⟨_,_,rfl,hnew⟩) (H1:=H.set b .dead) (by simp)
  (fun b' hb'=>qak (fun he=>hb' (by rw[he]; rfl))) (fun b' hb'=>by cases hb'; exact⟨_,hc⟩) fun c' hle hρ'=>⟨hn1,.inr ⟨_,_,by rw[hln]; exact hρ',by simp,hE'.mono hle⟩⟩
 refine⟨1,.ret (.sl H.length 0 1 (es.length+ss.length) none),_,fun n hn=>?_,_,.sl β 0 1 (es.length+ss.length) none (es.length+ss.length),_,g2,g1,g3,.sl (zaA _ _ _) (.inr ⟨rfl,by simp⟩),rfl,rfl⟩;obtain⟨n,rfl⟩:∃ k,n=k+1:=⟨n - 1,by omega⟩;have hlib:ziZ B 165 [.sl b (0 * 1) 1 es.length none,.lit (.int .i64 i),.sl b2 (0 * 1) 1 ss.length cap] H=some (.ret (.sl H.length 0 1 (es.length+ss.length) none),H.set b .dead ++ [.blk (cs.take i ++ us ++ cs.drop i)]):=by
  refine zoU ?_;unfold zmE;rw[if_pos rfl];simp only;rw[za7 hu];simp only;have he:¬ (zjm (.sl b (0 * 1) 1 es.length none)=true):=by rw[zmG]; decide
  rw[if_pos ⟨hB2,hs,by omega,by trivial,by simp⟩,if_neg he];rw[za7 hc];simp only;rw[if_pos ⟨by trivial,hBb,hbb,by omega,by simpa using hi,by omega⟩];rw[qbj,qbE,qbE,qbd,qaG (show us.length≤ss.length by omega)]
 exact zhr hlib
theorem EvL.clone{k:List K}{d:Option Nat}{xs:List X}{g:Option (Nat×Bool)}{l:List O}{t:Bool}{zs ys:List Int}(hg:zeY 8 zs=some ys)(hw:zaX S.env g=some true)(hx:zgn S.env xs=some [fzE t (eI .i64) zs])
  (hk:wp mC k0 (.ops bar e l :: k) (LSt.put ⟨S.N,S.env,S.heap ++ [.els 1 (ys.map ((eI .i64).c true))]⟩ d (.sl S.heap.length 0 1 ys.length none ys.length)) Q):EvL mC k0 (.ops bar e (⟨d,.call 25 xs,g⟩:: l):: k) S Q:=
 EvL.call (Qp1:=fun _ _=>False) hw hx (znL hg _) (fun r L' h=>by obtain⟨rfl,rfl⟩:=h; exact hk) fun _ _ h=>h.elim
theorem EvL.insert{k:List K}{d:Option Nat}{xs:List X}{g:Option (Nat×Bool)}{l:List O}{t t2:Bool}{β γ n st m st2:Nat}{cap:Option Nat}{i:Int}{zs ys us:List Int}(hg:zsN 8 zs i us=some ys)(hw:zaX S.env g=some true)
  (hx:zgn S.env xs=some [.sl β 0 1 n none st,.lit (.int .i64 i),.sl γ 0 1 m cap st2]) (hβ:S.heap[β]? = some (.els 1 (zs.map ((eI .i64).c t)))) (hγ:S.heap[γ]? = some (.els 1 (us.map ((eI .i64).c t2)))) (hne:Nat.beq β γ=false)
  (hn:n=zs.length) (hst:st=zs.length) (hm:m=us.length) (hst2:st2=us.length)
  (hk:wp mC k0 (.ops false e l :: k) (LSt.put ⟨S.N,S.env,S.heap.set β (.els 1 (ys.map ((eI .i64).c true)))⟩ d (.sl β 0 1 ys.length none ys.length)) Q):EvL mC k0 (.ops false e (⟨d,.call 165 xs,g⟩:: l):: k) S Q:=by
 have hl:=zpX hg;obtain⟨⟨⟨h1,h2⟩,h3,h4⟩,h5⟩:=zm3 hg;have ht:∀(t t':Bool) (xs:List Int),xs.map ((eI .i64).c t)=xs.map ((eI .i64).c t'):=fun _ _ _=>rfl
 refine EvL.call (Qp1:=fun _ _=>False) hw hx ?_ (Q1:=fun r L'=>r=.sl β 0 1 ys.length none ys.length∧L'=S.heap.set β (.els 1 (ys.map ((eI .i64).c true)))) (fun r L' h=>by obtain⟨rfl,rfl⟩:=h; exact hk) fun _ _ h=>h.elim
 have hc:=zmv (L:=S.heap) (β:=β) (γ:=γ) (i:=i.toNat) (cap:=cap) hβ hγ (by intro he; rw[he,Nat.beq_refl]at hne; cases hne) (by rw[qaD]; omega) (by rw[qaD]; exact h3) (by rw[qaD,qaD]; exact h4) (fun _ _=>False);rw[qaD,qaD]at hc;rw[Int.toNat_of_nonneg h1]at hc;subst hn;subst hst;subst hm;subst hst2;rw[hl];have hy:(zs.map ((eI .i64).c t)).take i.toNat=(zs.take i.toNat).map ((eI .i64).c t):=(List.map_take).symm;have hy2:(zs.map ((eI .i64).c t)).drop i.toNat=(zs.drop i.toNat).map ((eI .i64).c t):=(List.map_drop).symm;have hz:ys.map ((eI .i64).c true)=(zs.map ((eI .i64).c t)).take i.toNat ++ us.map ((eI .i64).c t2)++ (zs.map ((eI .i64).c t)).drop i.toNat:=by
  rw[hy,hy2,h5,qbx,qbx];rfl
 rw[hz];exact hc
theorem zq7{xs ys:List Int}{β b:Nat}{t:Bool}{m:Nat}{cs:List V}(hH:RelH c L H)(hβ:L[β]? = some (.els 1 (xs.map ((eI .i64).c t))))(hρ:c.ρ β=some (.list b m))(hm:m=xs.length)(hc:H[b]? = some (.blk cs))(hl:ys.length=xs.length):
  RelH c (L.set β (.els 1 (ys.map ((eI .i64).c true)))) (H.set b (.blk (ys.map zgE)))∧Step c H c (H.set b (.blk (ys.map zgE))):=
 hH.write hρ rfl hc fun H' hb=>⟨by decide,.inr ⟨b,_,by rw[qaD,hl,← hm]; exact hρ,hb,fun cells hm=>(by obtain⟨x,_,rfl⟩:=qaU.1 hm; rfl),by
  have:(ys.map ((eI .i64).c true)).flatten=(ys.map fun x=>Value.int .i64 x).map .lit:=by rw[zgF]; simp
  rw[this];have h2:ys.map zgE=(ys.map fun x=>Value.int .i64 x).map .lit:=by simp[zgE]
  rw[h2]
  exact Rs.lits _⟩⟩
theorem zh1{α:Type}{l:List α}{i:Nat}{x:α}(h:l[i]? = some x):l.set i x=l:=by
 obtain⟨h1,rfl⟩:=qab.1 h;exact List.set_getElem_self h1
theorem zkM{xs:List Int}{β n st:Nat}{t:Bool}{v:V}(hH:RelH c L H)(hβ:L[β]? = some (.els 1 (xs.map ((eI .i64).c t))))(hr:R c (.sl β 0 1 n none st) v)(hn:n=xs.length)(hst:st=xs.length):
  (xs=[]∧v=.lit (.slice none 0 0))∨∃ b,c.ρ β=some (.list b xs.length)∧v=.sl b 0 1 xs.length none∧H[b]? = some (.blk (xs.map zgE)):=by
 subst hn;subst hst;obtain⟨_,⟨q1,q2⟩| ⟨b,cs,hρ,hc,hE⟩⟩:=hH.obj β _ hβ
 ·have hx:xs=[]:=by simpa using q1
  refine .inl ⟨hx,?_⟩;rcases zoW hr with⟨_,_,p1,_⟩| ⟨_,p2⟩
  ·rw[q2]at p1; cases p1
  exact p2
 rw[qaD]at hρ;have hv:=zfi hr hρ;refine .inr ⟨b,hρ,by simpa using hv,?_⟩;have hrs:=hE.rel;rw[zgF]at hrs;obtain⟨_,q2⟩:=zo3 rfl hrs;rw[hc,q2];rfl
def zn7(b:Nat)(xs:List Int):Option (List Int):=if xs.length * b≤zav then some (ziC xs)else none
theorem zlF{b:Nat}{xs ys:List Int}(h:zn7 b xs=some ys):xs.length * b≤zav∧ys=ziC xs:=by
 unfold zn7 at h;split at h
 ·rename_i hc; cases h; exact⟨hc,rfl⟩
 cases h
theorem zln{b:Nat}{xs ys:List Int}(h:zn7 b xs=some ys):ys.length=xs.length:=by rw[(zlF h).2,ziO]
theorem zkZ:ziC []=[]:=by simp[ziC]
theorem zpC{β n st:Nat}{t:Bool}{xs ys:List Int}(hg:zn7 8 xs=some ys)(hβ:L[β]? = some (.els 1 (xs.map ((eI .i64).c t))))(hn:n=xs.length)(hst:st=xs.length)(Qp:D→List LB→Prop):
  zdD mC false 117 [.sl β 0 1 n none st] L (fun d L'=>d=.tup []∧L'=L.set β (.els 1 (ys.map ((eI .i64).c true)))) Qp:=by
 intro c B H vs hH hB hr;obtain⟨hbig,rfl⟩:=zlF hg;have hmb:zav=140737488355328:=rfl;obtain⟨v,vs',rfl,h1,h2⟩:=hr.inv;have hvs:vs'=[]:=qaw.1 (by simpa using h2.1.symm);subst hvs;rcases zkM hH hβ h1 hn hst with⟨rfl,rfl⟩| ⟨b,hρ,rfl,hb⟩
 ·refine⟨1,.ret (.tup []),H,fun n hn=>?_,c,.tup [],L,.refl c H,hH,zia hH,.tup rfl fun i d v h=>by simp at h,rfl,by rw[show(([]:List Int).map ((eI .i64).c t))=(ziC []).map ((eI .i64).c true)from by rw[zkZ]; rfl]at hβ; exact(zh1 hβ).symm⟩;obtain⟨n,rfl⟩:∃ k,n=k+1:=⟨n - 1,by omega⟩;rfl
 have hBb:B≤b:=qas hB (hH.own β _ b hρ rfl).1;obtain⟨g1,g2⟩:=zq7 hH hβ hρ rfl hb (ys:=ziC xs) (ziO xs);refine⟨1,.ret (.tup []),_,fun n hn=>?_,c,.tup [],_,g2,g1,zia hH,.tup rfl fun i d v h=>by simp at h,rfl,rfl⟩;obtain⟨n,rfl⟩:∃ k,n=k+1:=⟨n - 1,by omega⟩;have hlib:ziZ B 117 [.sl b 0 1 xs.length none] H=some (.ret (.tup []),H.set b (.blk ((ziC xs).map zgE))):=by
  refine zrF ?_;unfold zrS;rw[if_pos rfl];cases hl:xs.length with
  | zero=>
   have hx:xs=[]:=qaw.1 hl;subst hx;show some (CR.ret (.tup []),H)=_;have:(ziC []).map zgE=([]:List Int).map zgE:=by rw[zkZ]
   rw[this,zh1 hb]
  | succ m=>
   simp only;rw[za7 hb];simp only;rw[ziu];simp only;rw[if_pos ⟨⟨hBb,hl.symm⟩,by omega⟩]
 exact zhr hlib
theorem EvL.sort{k:List K}{d:Option Nat}{xs:List X}{g:Option (Nat×Bool)}{l:List O}{t:Bool}{β n st:Nat}{zs ys:List Int}(hg:zn7 8 zs=some ys)(hw:zaX S.env g=some true)(hx:zgn S.env xs=some [.sl β 0 1 n none st])
  (hβ:S.heap[β]? = some (.els 1 (zs.map ((eI .i64).c t)))) (hn:n=zs.length) (hst:st=zs.length)
  (hk:wp mC k0 (.ops false e l :: k) (LSt.put ⟨S.N,S.env,S.heap.set β (.els 1 (ys.map ((eI .i64).c true)))⟩ d (.tup [])) Q):EvL mC k0 (.ops false e (⟨d,.call 117 xs,g⟩:: l):: k) S Q:=
 EvL.call (Qp1:=fun _ _=>False) hw hx (zpC hg hβ hn hst _) (fun r L' h=>by obtain⟨rfl,rfl⟩:=h; exact hk) fun _ _ h=>h.elim
def zl3(xs ys:List Int):List Int:=List.replicate (xs.length - ys.length) 0
def zrZ(xs:List Int):Option (List Int):=some (Go.Lib.compact xs)
theorem znq{xs ys:List Int}(h:zrZ xs=some ys):ys=Go.Lib.compact xs∧ys.length≤xs.length:=by cases h; exact⟨rfl,zjy xs⟩
theorem zml{xs ys:List Int}(h:ys.length≤xs.length):(ys ++ zl3 xs ys).length=xs.length:=by unfold zl3; rw[qao,qbH]; omega
theorem zlN{β n st:Nat}{t:Bool}{xs ys:List Int}(hg:zrZ xs=some ys)(hβ:L[β]? = some (.els 1 (xs.map ((eI .i64).c t))))(hn:n=xs.length)(hst:st=xs.length)(Qp:D→List LB→Prop):
  zdD mC false 118 [.sl β 0 1 n none st] L (fun d L'=>d=.sl β 0 1 ys.length none xs.length∧L'=L.set β (.els 1 ((ys ++ zl3 xs ys).map ((eI .i64).c true)))) Qp:=by
 intro c B H vs hH hB hr;obtain⟨hy,hle⟩:=znq hg;obtain⟨v,vs',rfl,h1,h2⟩:=hr.inv;have hvs:vs'=[]:=qaw.1 (by simpa using h2.1.symm);subst hvs;have hpl:=zml hle;have h1':=h1;rcases zkM hH hβ h1 hn hst with⟨hx,rfl⟩| ⟨b,hρ,rfl,hb⟩
 ·have hye:ys=[]:=qaw.1 (by rw[hx]at hle; simpa using hle);have hpe:ys ++ zl3 xs ys=[]:=qaw.1 (by rw[hpl,hx]; rfl);rw[hn,hst,hx]at h1';refine⟨1,.ret (.lit (.slice none 0 0)),H,fun n hn=>?_,c,.sl β 0 1 0 none 0,L,.refl c H,hH,zia hH,h1',by rw[hye,hx]; rfl,?_⟩
  ·obtain⟨n,rfl⟩:∃ k,n=k+1:=⟨n - 1,by omega⟩;rfl
  rw[hpe];rw[hx]at hβ;exact(zh1 hβ).symm
 have hBb:B≤b:=qas hB (hH.own β _ b hρ rfl).1;obtain⟨g1,g2⟩:=zq7 hH hβ hρ rfl hb (ys:=ys ++ zl3 xs ys) hpl;refine⟨1,.ret (.sl b 0 1 ys.length none),_,fun n hn=>?_,c,_,_,g2,g1,zia hH,.sl hρ (.inr ⟨rfl,by simp⟩),rfl,rfl⟩;obtain⟨n,rfl⟩:∃ k,n=k+1:=⟨n - 1,by omega⟩;have hlib:ziZ B 118 [.sl b 0 1 xs.length none] H=some (.ret (.sl b 0 1 ys.length none),H.set b (.blk ((ys ++ zl3 xs ys).map zgE))):=by
  refine zq1 ?_;unfold zqR;rw[if_pos rfl];cases hl:xs.length with
  | zero=>
   have hx:xs=[]:=qaw.1 hl;have hye:ys=[]:=qaw.1 (by rw[hx]at hle; simpa using hle);have hpe:ys ++ zl3 xs ys=[]:=qaw.1 (by rw[hpl,hx]; rfl);rw[hpe,hye];rw[hx]at hb;show some (CR.ret (.sl b 0 1 0 none),H)=_;have:([]:List Int).map zgE=[]:=rfl;rw[zh1 hb];rfl
  | succ m=>
   simp only;rw[za7 hb];simp only;rw[ziu];simp only;rw[if_pos ⟨hBb,hl.symm⟩,hy];rfl
 exact zhr hlib
theorem EvL.zsk{k:List K}{d:Option Nat}{f:Nat}{xs:List X}{g:Option (Nat×Bool)}{l:List O}{ds:List D}{r:D}{L':List LB}{S1:LSt}(hw:zaX S.env g=some true)(hx:zgn S.env xs=some ds)(hc:zdD mC (zmk bar f) f ds S.heap (fun d L1=>d=r∧L1=L') fun _ _=>False)
  (hs:LSt.put ⟨S.N,S.env,L'⟩ d r=some S1) (hk:EvL mC k0 (.ops bar e l :: k) S1 Q):EvL mC k0 (.ops bar e (⟨d,.call f xs,g⟩:: l):: k) S Q:=by
 intro c0 H0 c B rd M hd hway hr hB;obtain⟨vs,g1,g2⟩:=zci hr hx;refine EvO.call (zb9 hr hw) rfl g1 (EvF.mono (hc c B M.heap vs hr.heap hB g2) ?_);rintro cr H' ⟨c',r',L1,h1,h2,h3,h4⟩;cases cr with
 | ret v=>
  obtain⟨h4,rfl,rfl⟩:=h4;exact hk c0 H0 c' B rd _ hd (by cases d<;>exact hway.go h1 h3 hr.heap rfl) (zdk hr h3 h2 h4 hs) (by rw[h1.base]; exact hB)
 | pan v=>exact h4.2.elim
theorem EvL.compact{k:List K}{d:Option Nat}{xs:List X}{g:Option (Nat×Bool)}{l:List O}{t:Bool}{β n st:Nat}{zs ys:List Int}(hg:zrZ zs=some ys)(hw:zaX S.env g=some true)(hx:zgn S.env xs=some [.sl β 0 1 n none st])
  (hβ:S.heap[β]? = some (.els 1 (zs.map ((eI .i64).c t)))) (hn:n=zs.length) (hst:st=zs.length)
  {S1:LSt} (hs:LSt.put ⟨S.N,S.env,S.heap.set β (.els 1 ((ys ++ zl3 zs ys).map ((eI .i64).c true)))⟩ d (.sl β 0 1 ys.length none zs.length)=some S1) (hk:EvL mC k0 (.ops false e l :: k) S1 Q):EvL mC k0 (.ops false e (⟨d,.call 118 xs,g⟩:: l):: k) S Q:=
 EvL.zsk hw hx (zlN hg hβ hn hst _) hs hk
def zqV(xs:List Int)(i j:Int):Option (List Int):=if(0≤i∧i≤j∧j≤xs.length)∧0<xs.length then some (xs.take i.toNat ++ xs.drop j.toNat)else none
theorem zna{xs ys:List Int}{i j:Int}(h:zqV xs i j=some ys):((0≤i∧i≤j∧j≤xs.length)∧0<xs.length)∧ys=xs.take i.toNat ++ xs.drop j.toNat:=by
 unfold zqV at h;split at h
 ·rename_i hc; cases h; exact⟨hc,rfl⟩
 cases h
theorem zmI{β n st:Nat}{t:Bool}{xs ys:List Int}{i j:Int}(hg:zqV xs i j=some ys)(hβ:L[β]? = some (.els 1 (xs.map ((eI .i64).c t))))(hn:n=xs.length)(hst:st=xs.length)(Qp:D→List LB→Prop):
  zdD mC false 91 [.sl β 0 1 n none st,.lit (.int .i64 i),.lit (.int .i64 j)] L (fun d L'=>d=.sl β 0 1 ys.length none xs.length∧L'=L.set β (.els 1 ((ys ++ zl3 xs ys).map ((eI .i64).c true)))) Qp:=by
 intro c B H vs hH hB hr;obtain⟨⟨⟨hi,hij,hj⟩,h0⟩,hy⟩:=zna hg;obtain⟨v,vs',rfl,h1,hr⟩:=hr.inv;obtain⟨v1,vs',rfl,h2,hr⟩:=hr.inv;obtain⟨v2,vs',rfl,h3,hr⟩:=hr.inv;have hvs:vs'=[]:=qaw.1 (by simpa using hr.1.symm);subst hvs;cases zgX h2;cases zgX h3;have hyl:ys.length=xs.length - (j.toNat - i.toNat):=by rw[hy]; simp; omega
 have hpl:=zml (xs:=xs) (ys:=ys) (by omega);rcases zkM hH hβ h1 hn hst with⟨hx,rfl⟩| ⟨b,hρ,rfl,hb⟩
 ·rw[hx]at h0; simp at h0
 have hBb:B≤b:=qas hB (hH.own β _ b hρ rfl).1;obtain⟨g1,g2⟩:=zq7 hH hβ hρ rfl hb (ys:=ys ++ zl3 xs ys) hpl;refine⟨1,.ret (.sl b 0 1 ys.length none),_,fun n hn=>?_,c,_,_,g2,g1,zia hH,.sl hρ (.inr ⟨rfl,by simp⟩),rfl,rfl⟩;obtain⟨n,rfl⟩:∃ k,n=k+1:=⟨n - 1,by omega⟩;have hlib:ziZ B 91 [.sl b 0 1 xs.length none,.lit (.int .i64 i),.lit (.int .i64 j)] H=some (.ret (.sl b 0 1 ys.length none),H.set b (.blk ((ys ++ zl3 xs ys).map zgE))):=by
  refine zre ?_;unfold zpH;rw[if_pos rfl];simp only;rw[za7 hb];simp only;rw[ziu];simp only;have hp:zl3 xs ys=List.replicate (j.toNat - i.toNat) 0:=by unfold zl3; congr 1; omega
  rw[if_pos ⟨⟨hBb,by trivial,h0⟩,hi,hij,hj⟩,hp,hyl,hy]
 exact zhr hlib
theorem EvL.delete{k:List K}{d:Option Nat}{xs:List X}{g:Option (Nat×Bool)}{l:List O}{t:Bool}{β n st:Nat}{i j:Int}{zs ys:List Int}(hg:zqV zs i j=some ys)(hw:zaX S.env g=some true)(hx:zgn S.env xs=some [.sl β 0 1 n none st,.lit (.int .i64 i),.lit (.int .i64 j)])
  (hβ:S.heap[β]? = some (.els 1 (zs.map ((eI .i64).c t)))) (hn:n=zs.length) (hst:st=zs.length)
  {S1:LSt} (hs:LSt.put ⟨S.N,S.env,S.heap.set β (.els 1 ((ys ++ zl3 zs ys).map ((eI .i64).c true)))⟩ d (.sl β 0 1 ys.length none zs.length)=some S1) (hk:EvL mC k0 (.ops false e l :: k) S1 Q):EvL mC k0 (.ops false e (⟨d,.call 91 xs,g⟩:: l):: k) S Q:=
 EvL.zsk hw hx (zmI hg hβ hn hst _) hs hk
theorem zmn{xs ys:List Int}{i j:Int}(h:zqV xs i j=some ys):ys.length≤xs.length:=by
 obtain⟨⟨⟨hi,hij,hj⟩,h0⟩,hy⟩:=zna h;rw[hy]; simp; omega
theorem zrp{xs ys:List Int}(h:zrZ xs=some ys):ys.length≤xs.length:=(znq h).2
theorem zkv{F:Nat→Bool}{s t t':Bool}{β st:Nat}{xs ys:List Int}(hle:ys.length≤xs.length)(hF:F β=true)(he:L[β]? = some (.els 1 ((ys ++ zl3 xs ys).map ((eI .i64).c t))))(hst:st=xs.length)(h:s=true∨t'=true→t=true):
  Mz L F s (.sl β 0 1 ys.length none st) (fzE t' (eI .i64) ys):=by
 have hpl:=zml hle;refine .sl hF (zil (.inl he) (by rw[qaD,hpl,hst])) (by rw[qaD,hpl]; omega) (fun k hk=>nomatch hk) (by simp) (fun i cells cells' h1 h2=>?_) fun i k cells cells' d d' h1 h2 h3 h4=>?_
 all_goals
  rw[qay,qbx]at h1;have hi:i<ys.length:=by have:=(qab.1 h2).1; simpa using this
  rw[qaj (by simpa using hi)]at h1;obtain⟨x,_,rfl,rfl⟩:=zdn h1 h2
 ·rfl
 refine(eI .i64).mz x (fun hx=>h ?_) k d d' h3 h4;rcases hx with hx | hx
 ·cases s with
  | true=>exact .inl rfl
  | false=>exact .inr (by simpa using hx)
 exact .inr hx
end
end Go.Dc
