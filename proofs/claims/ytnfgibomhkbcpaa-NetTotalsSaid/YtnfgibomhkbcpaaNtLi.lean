/-
 The library's functions that make a list of one's own out of another: what they come to, one's own memory seen. Conditions: none.
-/
import Derived.Test.YtnfgibomhkbcpaaNtDm
set_option linter.unusedSimpArgs false
set_option linter.unusedVariables false
namespace Go.Dc
open Go Go.Mx Go.Lx Go.Proofs
section
variable {c:Cx} {L:List LB} {H:zal} {B:Nat} {k0:Nat} {S:LSt} {Q:LX→LSt→Prop} {bar e:Bool}
theorem zj1(hH:RelH c L H):c.le c:=⟨fun _ _ h=>h,fun _ _ h=>h,fun β y hy=>⟨y,hy,Lc.up.refl y⟩,hH.apart⟩
theorem ziC{n f:Nat}{a:V}{r:List V}{h:zal}{x:CR×zal}(hl:zjV B f (a :: r) h=some x):(mC.run (n+1)).call B f (a :: r) h=some x:=by
 show zqC (mC.orc B f (a :: r) h) (zhz (zr1 mC.orc mC.fns n) mC.fns B f (a :: r) h)=_;rw[ztY,hl];rfl
theorem zrf{B:Nat}{args:List V}{h:zal}{x:CR×zal}(hl:zp8 B 126 args h=some x):zjV B 126 args h=some x:=by
 unfold zjV;rw[hl];rfl
theorem zqH{B:Nat}{args:List V}{h:zal}{x:CR×zal}(hl:zfX B 49 args h=some x):zjV B 49 args h=some x:=by
 have h0:zp8 B 49 args h=none:=by unfold zp8; rw[if_neg (by decide)]
 unfold zjV;rw[h0,hl];rfl
theorem zxc{B:Nat}{args:List V}{h:zal}{x:CR×zal}(hl:zvF B 133 args h=some x):zjV B 133 args h=some x:=by
 have h0:zp8 B 133 args h=none:=by unfold zp8; rw[if_neg (by decide)]
 have h1:zfX B 133 args h=none:=by unfold zfX; rw[if_neg (by decide)]
 have h2:zvq B 133 args h=none:=by unfold zvq; rw[if_neg (by decide)]
 unfold zjV;rw[h0,h1,h2,hl];rfl
theorem zwM{B:Nat}{args:List V}{h:zal}{x:CR×zal}(hl:zxX B 50 args h=some x):zjV B 50 args h=some x:=by
 have h0:zp8 B 50 args h=none:=by unfold zp8; rw[if_neg (by decide)]
 have h1:zfX B 50 args h=none:=by unfold zfX; rw[if_neg (by decide)]
 have h2:zvq B 50 args h=none:=by unfold zvq; rw[if_neg (by decide)]
 have h3:zvF B 50 args h=none:=by unfold zvF; rw[if_neg (by decide)]
 unfold zjV;rw[h0,h1,h2,h3,hl];rfl
theorem zn1(b o m n:Nat):zjH (.sl b o m n none)=false:=by cases n<;>rfl
theorem zsg{xs:List Int}{ds:List D}{vs:List V}(hd:ds=xs.map fun x=>.lit (.int .i64 x))(hr:Rs c ds vs):vs.mapM zow=some xs∧vs=xs.map fun x=>.lit (.int .i64 x):=by
 subst hd;induction xs generalizing vs with
 | nil=>
  have:vs=[]:=qaL.1 (by simpa using hr.1.symm);subst this;exact⟨rfl,rfl⟩
 | cons x r ih=>
  obtain⟨v,vs',rfl,h1,h2⟩:=hr.inv;cases zhH h1;obtain⟨g1,g2⟩:=ih h2;refine⟨?_,by rw[qaJ,g2]⟩;rw[qcs,g1];rfl
theorem zgX(t:Bool)(xs:List Int):(xs.map ((eI .i64).c t)).flatten=xs.map fun x=>.lit (.int .i64 x):=by
 induction xs with
 | nil=>rfl
 | cons x r ih=>rw[qaJ,qbk,ih]; rfl
theorem zp2{t:Bool}{xs ys:List Int}(g:zeP 8 xs=some ys)(Qp:D→List LB→Prop):
  zdy mC bar 49 [fzE t (eI .i64) xs] L (fun d L'=>d=.sl L.length 0 1 ys.length none ys.length∧L'=L ++ [.els 1 (ys.map ((eI .i64).c true))]) Qp:=by
 have hle:=zmx g;rw[zq6 g];intro c B H vs hH hB hr;obtain⟨v,vs',rfl,h1,h2⟩:=hr.inv;have hvs:vs'=[]:=qaL.1 (by simpa using h2.1.symm);subst hvs;generalize hB2:(bif bar then H.length else B)=B2;have hn1:(0:Nat)<1:=by decide
 have nilc:∀ v',v'=.lit (.slice none 0 0)→xs=[]→EvF mC B2 49 [v'] H fun cr H'=>∃ c' d L',Step c H c' H'∧RelH c' L' H'∧c.le c'∧match cr with | .ret v=>R c' d v∧(d=.sl L.length 0 1 xs.length none xs.length∧L'=L ++ [.els 1 (xs.map ((eI .i64).c true))])| .pan v=>R c' d v∧Qp d L':=by
  intro v' hv hx;subst hv;subst hx;obtain⟨g1,g2,g3⟩:=hH.new (x:=.ghost) (lb:=.els 1 []) (o:=[]) (.inl ⟨rfl,rfl⟩) fun c' hle hρ=>⟨hn1,.inl ⟨rfl,hρ⟩⟩
  rw[qaT]at g1 g2;refine⟨1,.ret (.lit (.slice none 0 0)),H,fun n hn=>?_,_,_,_,g2,g1,g3,.slg (zaw _ _ _),rfl,rfl⟩;obtain⟨n,rfl⟩:∃ k,n=k+1:=⟨n - 1,by omega⟩;rfl
 have newc:∀(cs:List V),Rs c (xs.map fun x=>.lit (.int .i64 x)) cs→(∀ n,(mC.run (n+1)).call B2 49 [v] H=some (.ret (.sl H.length 0 1 xs.length none),H ++ [.blk cs]))→
   EvF mC B2 49 [v] H fun cr H'=>∃ c' d L',Step c H c' H'∧RelH c' L' H'∧c.le c'∧match cr with | .ret v=>R c' d v∧(d=.sl L.length 0 1 xs.length none xs.length∧L'=L ++ [.els 1 (xs.map ((eI .i64).c true))])| .pan v=>R c' d v∧Qp d L':=by
  intro cs hcs hrun;have hE:Els c 1 (xs.map ((eI .i64).c true)) cs:=⟨fun cells hm=>by obtain⟨x,_,rfl⟩:=qaF.1 hm; rfl,by rw[zgX]; exact hcs⟩;obtain⟨g1,g2,g3⟩:=hH.new (x:=.list H.length xs.length) (lb:=.els 1 (xs.map ((eI .i64).c true))) (o:=[.blk cs]) (.inr ⟨cs,rfl,rfl⟩) fun c' hle hρ=>⟨hn1,.inr ⟨_,cs,by rw[qaB]; exact hρ,by simp,hE.mono hle⟩⟩
  refine⟨1,.ret (.sl H.length 0 1 xs.length none),H ++ [.blk cs],fun n hn=>?_,_,_,_,g2,g1,g3,.sl (zaw _ _ _) (.inr ⟨rfl,rfl⟩),rfl,rfl⟩;obtain⟨n,rfl⟩:∃ k,n=k+1:=⟨n - 1,by omega⟩;exact hrun n
 have hel:(fzE t (eI .i64) xs)=.fz t 1 (xs.map ((eI .i64).c t)):=rfl;rw[hel]at h1;generalize hes:xs.map ((eI .i64).c t)=es at h1;have hlen:es.length=xs.length:=by rw[← hes,qaB]
 cases h1 with
 | fzn=>exact nilc _ rfl (qaL.1 (by rw[← hlen]; rfl))
 | fz0=>
  have hx:xs=[]:=qaL.1 (by rw[← hlen]; rfl);subst hx;exact newc [] (Rs.nil c) fun n=>rfl
 | fz k1 k2 k3 k4 k5 k6=>
  rename_i b o cap cs;have hE:=zvs (b:=b) hH k4 k5 k6;have hrs:=hE.rel;rw[← hes,zgX,hes,qcT]at hrs;obtain⟨q1,q2⟩:=zsg rfl hrs;refine newc _ hrs fun n=>?_
  have hlib:zjV B2 49 [.sl b o 1 es.length cap] H=some (.ret (.sl H.length 0 1 xs.length none),H ++ [.blk ((cs.drop o).take es.length)]):=by
   refine zqH ?_;unfold zfX;rw[if_pos rfl];cases hl:es.length with
   | zero=>rw[hl]at hlen; rw[← hlen]; simp
   | succ m=>
    simp only;rw[za7 (hH.look k1)];simp only;rw[hl]at k4 hlen;have hm:zai=140737488355328:=rfl;rw[if_pos ⟨by trivial,by omega,by rw[hlen]; omega⟩,← hl,q1];simp only;rw[hl,hlen]
  exact ziC hlib
def zwj(b:Nat)(xs:List Int)(i:Int)(ys:List Int):Option (List Int):=if(0≤i∧i≤xs.length)∧0<ys.length∧(xs.length+ys.length)* b≤zai then some (xs.take i.toNat ++ ys ++ xs.drop i.toNat)else none
theorem zou{b:Nat}{xs ys zs:List Int}{i:Int}(h:zwj b xs i ys=some zs):((0≤i∧i≤xs.length)∧0<ys.length∧(xs.length+ys.length)* b≤zai)∧zs=xs.take i.toNat ++ ys ++ xs.drop i.toNat:=by
 unfold zwj at h;split at h
 ·rename_i hc; cases h; exact⟨hc,rfl⟩
 cases h
theorem zuK{b:Nat}{xs ys zs:List Int}{i:Int}(h:zwj b xs i ys=some zs):zs.length=xs.length+ys.length:=by
 obtain⟨h1,rfl⟩:=zou h;simp; omega
theorem znm{β γ:Nat}{i:Nat}{cap:Option Nat}{es ss:List (List D)}(hβ:L[β]? = some (.els 1 es))(hγ:L[γ]? = some (.els 1 ss))(hne:β≠γ)(hi:i≤es.length)(hs:0<ss.length)(hbig:(es.length+ss.length)* 8≤zai)(Qp:D→List LB→Prop):
  zdy mC false 126 [.sl β 0 1 es.length none es.length,.lit (.int .i64 i),.sl γ 0 1 ss.length cap ss.length] L
   (fun d L'=>d=.sl β 0 1 (es.length+ss.length) none (es.length+ss.length)∧L'=L.set β (.els 1 (es.take i ++ ss ++ es.drop i))) Qp:=by
 intro c B H vs hH hB hr;obtain⟨v0,vs',rfl,h0,hr⟩:=hr.inv;obtain⟨v1,vs',rfl,h1,hr⟩:=hr.inv;obtain⟨v2,vs',rfl,h2,hr⟩:=hr.inv;have hvs:vs'=[]:=qaL.1 (by simpa using hr.1.symm);subst hvs;cases zhH h1;have hm:zai=140737488355328:=rfl;have hsne:ss≠[]:=by rintro rfl; simp at hs
 obtain⟨_,⟨q,_⟩| ⟨b2,us,hρ2,hu,hE2⟩⟩:=hH.obj γ _ hγ
 ·exact(hsne q).elim
 cases zex h2 hρ2;have hul:us.length=ss.length:=by rw[hE2.zju,qcT]
 have hB2:B≤b2:=qap hB (hH.own γ _ b2 hρ2 rfl).1;have hnew:es.length<es.length+ss.length:=by omega
 have hln:(es.take i ++ ss ++ es.drop i).length=es.length+ss.length:=by simp; omega
 obtain⟨hn1,⟨q1,q2⟩| ⟨b,cs,hρ,hc,hE⟩⟩:=hH.obj β _ hβ
 ·subst q1;have hi0:i=0:=by simpa using hi
  subst hi0;have hv0:v0=.lit (.slice none 0 0):=by
   rcases zsX h0 with⟨_,_,p1,_⟩| ⟨_,p2⟩
   ·rw[q2]at p1; cases p1
   exact p2
  subst hv0;obtain⟨g1,g2,g3⟩:=hH.move (β:=β) (m:=ss.length) (vs:=us) (lb:=.els 1 ss) q2 (.inr ⟨_,_,rfl,hs⟩) (H1:=H) rfl (fun _ _=>rfl) (fun b hb=>by cases hb) fun c' hle hρ'=>⟨hn1,.inr ⟨_,us,hρ',by simp,hE2.mono hle⟩⟩
  refine⟨1,.ret (.sl H.length 0 1 ss.length none),H ++ [.blk us],fun n hn=>?_,_,.sl β 0 1 ss.length none ss.length,_,g2,g1,g3,.sl (zaw _ _ _) (.inr ⟨rfl,by simp⟩),by simp,by simp⟩;obtain⟨n,rfl⟩:∃ k,n=k+1:=⟨n - 1,by omega⟩;have hlib:zjV B 126 [.lit (.slice none 0 0),.lit (.int .i64 ((0:Nat):Int)),.sl b2 (0 * 1) 1 ss.length cap] H=some (.ret (.sl H.length 0 1 ss.length none),H ++ [.blk us]):=by
   refine zrf ?_;unfold zp8;rw[if_pos rfl];simp only;rw[za7 hu];simp only;rw[if_pos ⟨hB2,hs,by omega,by trivial,by simp⟩,if_pos (by rfl),if_pos ⟨by trivial,by simp at hbig; omega⟩];rw[qb1,qbb,qaN (by omega)]
  exact ziC hlib
 cases zex h0 hρ;have hcl:cs.length=es.length:=by rw[hE.zju,qcT]
 have hBb:B≤b:=qap hB (hH.own β _ b hρ rfl).1;have hbb:b≠b2:=fun he=>hne (hH.inj β γ _ _ b hρ hρ2 rfl (by rw[he]; rfl))
 have hE':=((hE.take i).append hE2).append (hE.drop i);rw[qcT]at hE';obtain⟨g1,g2,g3⟩:=hH.move (β:=β) (m:=es.length+ss.length) (vs:=cs.take i ++ us ++ cs.drop i) (lb:=.els 1 (es.take i ++ ss ++ es.drop i)) hρ (.inr ⟨_,_,rfl,hnew⟩) (H1:=H.set b .dead) (by simp)
  (fun b' hb'=>qao (fun he=>hb' (by rw[he]; rfl))) (fun b' hb'=>by cases hb'; exact⟨_,hc⟩) fun c' hle hρ'=>⟨hn1,.inr ⟨_,_,by rw[hln]; exact hρ',by simp,hE'.mono hle⟩⟩
 refine⟨1,.ret (.sl H.length 0 1 (es.length+ss.length) none),_,fun n hn=>?_,_,.sl β 0 1 (es.length+ss.length) none (es.length+ss.length),_,g2,g1,g3,.sl (zaw _ _ _) (.inr ⟨rfl,by simp⟩),rfl,rfl⟩;obtain⟨n,rfl⟩:∃ k,n=k+1:=⟨n - 1,by omega⟩;have hlib:zjV B 126 [.sl b (0 * 1) 1 es.length none,.lit (.int .i64 i),.sl b2 (0 * 1) 1 ss.length cap] H=some (.ret (.sl H.length 0 1 (es.length+ss.length) none),H.set b .dead ++ [.blk (cs.take i ++ us ++ cs.drop i)]):=by
  refine zrf ?_;unfold zp8;rw[if_pos rfl];simp only;rw[za7 hu];simp only;have he:¬ (zjH (.sl b (0 * 1) 1 es.length none)=true):=by rw[zn1]; decide
  rw[if_pos ⟨hB2,hs,by omega,by trivial,by simp⟩,if_neg he];rw[za7 hc];simp only;rw[if_pos ⟨by trivial,hBb,hbb,by omega,by simpa using hi,by omega⟩];rw[qb1,qbb,qbb,qaH,qaN (show us.length≤ss.length by omega)]
 exact ziC hlib
theorem EvL.clone{k:List K}{d:Option Nat}{xs:List X}{g:Option (Nat×Bool)}{l:List O}{t:Bool}{zs ys:List Int}(hg:zeP 8 zs=some ys)(hw:zbv S.env g=some true)(hx:zg3 S.env xs=some [fzE t (eI .i64) zs])
  (hk:wp mC k0 (.ops bar e l :: k) (LSt.put ⟨S.N,S.env,S.heap ++ [.els 1 (ys.map ((eI .i64).c true))]⟩ d (.sl S.heap.length 0 1 ys.length none ys.length)) Q):EvL mC k0 (.ops bar e (⟨d,.call 49 xs,g⟩:: l):: k) S Q:=
 EvL.call (Qp1:=fun _ _=>False) hw hx (zp2 hg _) (fun r L' h=>by obtain⟨rfl,rfl⟩:=h; exact hk) fun _ _ h=>h.elim
theorem EvL.insert{k:List K}{d:Option Nat}{xs:List X}{g:Option (Nat×Bool)}{l:List O}{t t2:Bool}{β γ n st m st2:Nat}{cap:Option Nat}{i:Int}{zs ys us:List Int}(hg:zwj 8 zs i us=some ys)(hw:zbv S.env g=some true)
  (hx:zg3 S.env xs=some [.sl β 0 1 n none st,.lit (.int .i64 i),.sl γ 0 1 m cap st2]) (hβ:S.heap[β]? = some (.els 1 (zs.map ((eI .i64).c t)))) (hγ:S.heap[γ]? = some (.els 1 (us.map ((eI .i64).c t2)))) (hne:Nat.beq β γ=false)
  (hn:n=zs.length) (hst:st=zs.length) (hm:m=us.length) (hst2:st2=us.length)
  (hk:wp mC k0 (.ops false e l :: k) (LSt.put ⟨S.N,S.env,S.heap.set β (.els 1 (ys.map ((eI .i64).c true)))⟩ d (.sl β 0 1 ys.length none ys.length)) Q):EvL mC k0 (.ops false e (⟨d,.call 126 xs,g⟩:: l):: k) S Q:=by
 have hl:=zuK hg;obtain⟨⟨⟨h1,h2⟩,h3,h4⟩,h5⟩:=zou hg;have ht:∀(t t':Bool) (xs:List Int),xs.map ((eI .i64).c t)=xs.map ((eI .i64).c t'):=fun _ _ _=>rfl
 refine EvL.call (Qp1:=fun _ _=>False) hw hx ?_ (Q1:=fun r L'=>r=.sl β 0 1 ys.length none ys.length∧L'=S.heap.set β (.els 1 (ys.map ((eI .i64).c true)))) (fun r L' h=>by obtain⟨rfl,rfl⟩:=h; exact hk) fun _ _ h=>h.elim
 have hc:=znm (L:=S.heap) (β:=β) (γ:=γ) (i:=i.toNat) (cap:=cap) hβ hγ (by intro he; rw[he,Nat.beq_refl]at hne; cases hne) (by rw[qaB]; omega) (by rw[qaB]; exact h3) (by rw[qaB,qaB]; exact h4) (fun _ _=>False);rw[qaB,qaB]at hc;rw[qb4 h1]at hc;subst hn;subst hst;subst hm;subst hst2;rw[hl];have hy:(zs.map ((eI .i64).c t)).take i.toNat=(zs.take i.toNat).map ((eI .i64).c t):=(List.map_take).symm;have hy2:(zs.map ((eI .i64).c t)).drop i.toNat=(zs.drop i.toNat).map ((eI .i64).c t):=(List.map_drop).symm;have hz:ys.map ((eI .i64).c true)=(zs.map ((eI .i64).c t)).take i.toNat ++ us.map ((eI .i64).c t2)++ (zs.map ((eI .i64).c t)).drop i.toNat:=by
  rw[hy,hy2,h5,qbC,qbC];rfl
 rw[hz];exact hc
theorem zzn{xs ys:List Int}{β b:Nat}{t:Bool}{m:Nat}{cs:List V}(hH:RelH c L H)(hβ:L[β]? = some (.els 1 (xs.map ((eI .i64).c t))))(hρ:c.ρ β=some (.list b m))(hm:m=xs.length)(hc:H[b]? = some (.blk cs))(hl:ys.length=xs.length):
  RelH c (L.set β (.els 1 (ys.map ((eI .i64).c true)))) (H.set b (.blk (ys.map zgz)))∧Step c H c (H.set b (.blk (ys.map zgz))):=
 hH.write hρ rfl hc fun H' hb=>⟨by decide,.inr ⟨b,_,by rw[qaB,hl,← hm]; exact hρ,hb,fun cells hm=>(by obtain⟨x,_,rfl⟩:=qaF.1 hm; rfl),by
  have:(ys.map ((eI .i64).c true)).flatten=(ys.map fun x=>Value.int .i64 x).map .lit:=by rw[zgX]; simp
  rw[this];have h2:ys.map zgz=(ys.map fun x=>Value.int .i64 x).map .lit:=by simp[zgz]
  rw[h2]
  exact Rs.lits _⟩⟩
theorem zhR{α:Type}{l:List α}{i:Nat}{x:α}(h:l[i]? = some x):l.set i x=l:=by
 obtain⟨h1,rfl⟩:=qab.1 h;exact List.set_getElem_self h1
theorem zpk{xs:List Int}{β n st:Nat}{t:Bool}{v:V}(hH:RelH c L H)(hβ:L[β]? = some (.els 1 (xs.map ((eI .i64).c t))))(hr:R c (.sl β 0 1 n none st) v)(hn:n=xs.length)(hst:st=xs.length):
  (xs=[]∧v=.lit (.slice none 0 0))∨∃ b,c.ρ β=some (.list b xs.length)∧v=.sl b 0 1 xs.length none∧H[b]? = some (.blk (xs.map zgz)):=by
 subst hn;subst hst;obtain⟨_,⟨q1,q2⟩| ⟨b,cs,hρ,hc,hE⟩⟩:=hH.obj β _ hβ
 ·have hx:xs=[]:=by simpa using q1
  refine .inl ⟨hx,?_⟩;rcases zsX hr with⟨_,_,p1,_⟩| ⟨_,p2⟩
  ·rw[q2]at p1; cases p1
  exact p2
 rw[qaB]at hρ;have hv:=zex hr hρ;refine .inr ⟨b,hρ,by simpa using hv,?_⟩;have hrs:=hE.rel;rw[zgX]at hrs;obtain⟨_,q2⟩:=zsg rfl hrs;rw[hc,q2];rfl
def zmA(b:Nat)(xs:List Int):Option (List Int):=if xs.length * b≤zai then some (zfp xs)else none
theorem zmd{b:Nat}{xs ys:List Int}(h:zmA b xs=some ys):xs.length * b≤zai∧ys=zfp xs:=by
 unfold zmA at h;split at h
 ·rename_i hc; cases h; exact⟨hc,rfl⟩
 cases h
theorem zmW{b:Nat}{xs ys:List Int}(h:zmA b xs=some ys):ys.length=xs.length:=by rw[(zmd h).2,ziv]
theorem zl7:zfp []=[]:=by simp[zfp]
theorem zqW{β n st:Nat}{t:Bool}{xs ys:List Int}(hg:zmA 8 xs=some ys)(hβ:L[β]? = some (.els 1 (xs.map ((eI .i64).c t))))(hn:n=xs.length)(hst:st=xs.length)(Qp:D→List LB→Prop):
  zdy mC false 50 [.sl β 0 1 n none st] L (fun d L'=>d=.tup []∧L'=L.set β (.els 1 (ys.map ((eI .i64).c true)))) Qp:=by
 intro c B H vs hH hB hr;obtain⟨hbig,rfl⟩:=zmd hg;have hmb:zai=140737488355328:=rfl;obtain⟨v,vs',rfl,h1,h2⟩:=hr.inv;have hvs:vs'=[]:=qaL.1 (by simpa using h2.1.symm);subst hvs;rcases zpk hH hβ h1 hn hst with⟨rfl,rfl⟩| ⟨b,hρ,rfl,hb⟩
 ·refine⟨1,.ret (.tup []),H,fun n hn=>?_,c,.tup [],L,.refl c H,hH,zj1 hH,.tup rfl fun i d v h=>by simp at h,rfl,by rw[show(([]:List Int).map ((eI .i64).c t))=(zfp []).map ((eI .i64).c true)from by rw[zl7]; rfl]at hβ; exact(zhR hβ).symm⟩;obtain⟨n,rfl⟩:∃ k,n=k+1:=⟨n - 1,by omega⟩;rfl
 have hBb:B≤b:=qap hB (hH.own β _ b hρ rfl).1;obtain⟨g1,g2⟩:=zzn hH hβ hρ rfl hb (ys:=zfp xs) (ziv xs);refine⟨1,.ret (.tup []),_,fun n hn=>?_,c,.tup [],_,g2,g1,zj1 hH,.tup rfl fun i d v h=>by simp at h,rfl,rfl⟩;obtain⟨n,rfl⟩:∃ k,n=k+1:=⟨n - 1,by omega⟩;have hlib:zjV B 50 [.sl b 0 1 xs.length none] H=some (.ret (.tup []),H.set b (.blk ((zfp xs).map zgz))):=by
  refine zwM ?_;unfold zxX;rw[if_pos rfl];cases hl:xs.length with
  | zero=>
   have hx:xs=[]:=qaL.1 hl;subst hx;show some (CR.ret (.tup []),H)=_;have:(zfp []).map zgz=([]:List Int).map zgz:=by rw[zl7]
   rw[this,zhR hb]
  | succ m=>
   simp only;rw[za7 hb];simp only;rw[zmB];simp only;rw[if_pos ⟨⟨hBb,hl.symm⟩,by omega⟩]
 exact ziC hlib
theorem EvL.sort{k:List K}{d:Option Nat}{xs:List X}{g:Option (Nat×Bool)}{l:List O}{t:Bool}{β n st:Nat}{zs ys:List Int}(hg:zmA 8 zs=some ys)(hw:zbv S.env g=some true)(hx:zg3 S.env xs=some [.sl β 0 1 n none st])
  (hβ:S.heap[β]? = some (.els 1 (zs.map ((eI .i64).c t)))) (hn:n=zs.length) (hst:st=zs.length)
  (hk:wp mC k0 (.ops false e l :: k) (LSt.put ⟨S.N,S.env,S.heap.set β (.els 1 (ys.map ((eI .i64).c true)))⟩ d (.tup [])) Q):EvL mC k0 (.ops false e (⟨d,.call 50 xs,g⟩:: l):: k) S Q:=
 EvL.call (Qp1:=fun _ _=>False) hw hx (zqW hg hβ hn hst _) (fun r L' h=>by obtain⟨rfl,rfl⟩:=h; exact hk) fun _ _ h=>h.elim
def zu4(xs ys:List Int):List Int:=List.replicate (xs.length - ys.length) 0
def zxL(xs:List Int):Option (List Int):=some (Go.Lib.compact xs)
theorem zoY{xs ys:List Int}(h:zxL xs=some ys):ys=Go.Lib.compact xs∧ys.length≤xs.length:=by cases h; exact⟨rfl,zjt xs⟩
theorem zsI{xs ys:List Int}(h:ys.length≤xs.length):(ys ++ zu4 xs ys).length=xs.length:=by unfold zu4; rw[qaA,qcA]; omega
theorem zms{β n st:Nat}{t:Bool}{xs ys:List Int}(hg:zxL xs=some ys)(hβ:L[β]? = some (.els 1 (xs.map ((eI .i64).c t))))(hn:n=xs.length)(hst:st=xs.length)(Qp:D→List LB→Prop):
  zdy mC false 133 [.sl β 0 1 n none st] L (fun d L'=>d=.sl β 0 1 ys.length none xs.length∧L'=L.set β (.els 1 ((ys ++ zu4 xs ys).map ((eI .i64).c true)))) Qp:=by
 intro c B H vs hH hB hr;obtain⟨hy,hle⟩:=zoY hg;obtain⟨v,vs',rfl,h1,h2⟩:=hr.inv;have hvs:vs'=[]:=qaL.1 (by simpa using h2.1.symm);subst hvs;have hpl:=zsI hle;have h1':=h1;rcases zpk hH hβ h1 hn hst with⟨hx,rfl⟩| ⟨b,hρ,rfl,hb⟩
 ·have hye:ys=[]:=qaL.1 (by rw[hx]at hle; simpa using hle);have hpe:ys ++ zu4 xs ys=[]:=qaL.1 (by rw[hpl,hx]; rfl);rw[hn,hst,hx]at h1';refine⟨1,.ret (.lit (.slice none 0 0)),H,fun n hn=>?_,c,.sl β 0 1 0 none 0,L,.refl c H,hH,zj1 hH,h1',by rw[hye,hx]; rfl,?_⟩
  ·obtain⟨n,rfl⟩:∃ k,n=k+1:=⟨n - 1,by omega⟩;rfl
  rw[hpe];rw[hx]at hβ;exact(zhR hβ).symm
 have hBb:B≤b:=qap hB (hH.own β _ b hρ rfl).1;obtain⟨g1,g2⟩:=zzn hH hβ hρ rfl hb (ys:=ys ++ zu4 xs ys) hpl;refine⟨1,.ret (.sl b 0 1 ys.length none),_,fun n hn=>?_,c,_,_,g2,g1,zj1 hH,.sl hρ (.inr ⟨rfl,by simp⟩),rfl,rfl⟩;obtain⟨n,rfl⟩:∃ k,n=k+1:=⟨n - 1,by omega⟩;have hlib:zjV B 133 [.sl b 0 1 xs.length none] H=some (.ret (.sl b 0 1 ys.length none),H.set b (.blk ((ys ++ zu4 xs ys).map zgz))):=by
  refine zxc ?_;unfold zvF;rw[if_pos rfl];cases hl:xs.length with
  | zero=>
   have hx:xs=[]:=qaL.1 hl;have hye:ys=[]:=qaL.1 (by rw[hx]at hle; simpa using hle);have hpe:ys ++ zu4 xs ys=[]:=qaL.1 (by rw[hpl,hx]; rfl);rw[hpe,hye];rw[hx]at hb;show some (CR.ret (.sl b 0 1 0 none),H)=_;have:([]:List Int).map zgz=[]:=rfl;rw[zhR hb];rfl
  | succ m=>
   simp only;rw[za7 hb];simp only;rw[zmB];simp only;rw[if_pos ⟨hBb,hl.symm⟩,hy];rfl
 exact ziC hlib
theorem EvL.zAc{k:List K}{d:Option Nat}{f:Nat}{xs:List X}{g:Option (Nat×Bool)}{l:List O}{ds:List D}{r:D}{L':List LB}{S1:LSt}(hw:zbv S.env g=some true)(hx:zg3 S.env xs=some ds)(hc:zdy mC (znG bar f) f ds S.heap (fun d L1=>d=r∧L1=L') fun _ _=>False)
  (hs:LSt.put ⟨S.N,S.env,L'⟩ d r=some S1) (hk:EvL mC k0 (.ops bar e l :: k) S1 Q):EvL mC k0 (.ops bar e (⟨d,.call f xs,g⟩:: l):: k) S Q:=by
 intro c0 H0 c B rd M hd hway hr hB;obtain⟨vs,g1,g2⟩:=zcg hr hx;refine EvO.call (zcW hr hw) rfl g1 (EvF.mono (hc c B M.heap vs hr.heap hB g2) ?_);rintro cr H' ⟨c',r',L1,h1,h2,h3,h4⟩;cases cr with
 | ret v=>
  obtain⟨h4,rfl,rfl⟩:=h4;exact hk c0 H0 c' B rd _ hd (by cases d<;>exact hway.go h1 h3 hr.heap rfl) (zdK hr h3 h2 h4 hs) (by rw[h1.base]; exact hB)
 | pan v=>exact h4.2.elim
theorem EvL.compact{k:List K}{d:Option Nat}{xs:List X}{g:Option (Nat×Bool)}{l:List O}{t:Bool}{β n st:Nat}{zs ys:List Int}(hg:zxL zs=some ys)(hw:zbv S.env g=some true)(hx:zg3 S.env xs=some [.sl β 0 1 n none st])
  (hβ:S.heap[β]? = some (.els 1 (zs.map ((eI .i64).c t)))) (hn:n=zs.length) (hst:st=zs.length)
  {S1:LSt} (hs:LSt.put ⟨S.N,S.env,S.heap.set β (.els 1 ((ys ++ zu4 zs ys).map ((eI .i64).c true)))⟩ d (.sl β 0 1 ys.length none zs.length)=some S1) (hk:EvL mC k0 (.ops false e l :: k) S1 Q):EvL mC k0 (.ops false e (⟨d,.call 133 xs,g⟩:: l):: k) S Q:=
 EvL.zAc hw hx (zms hg hβ hn hst _) hs hk
theorem zxt{xs ys:List Int}(h:zxL xs=some ys):ys.length≤xs.length:=(zoY h).2
theorem zv5{F:Nat→Bool}{s t t':Bool}{β st:Nat}{xs ys:List Int}(hle:ys.length≤xs.length)(hF:F β=true)(he:L[β]? = some (.els 1 ((ys ++ zu4 xs ys).map ((eI .i64).c t))))(hst:st=xs.length)(h:s=true∨t'=true→t=true):
  Mz L F s (.sl β 0 1 ys.length none st) (fzE t' (eI .i64) ys):=by
 have hpl:=zsI hle;refine .sl hF (zkS (.inl he) (by rw[qaB,hpl,hst])) (by rw[qaB,hpl]; omega) (fun k hk=>nomatch hk) (by simp) (fun i cells cells' h1 h2=>?_) fun i k cells cells' d d' h1 h2 h3 h4=>?_
 all_goals
  rw[qaM,qbC]at h1;have hi:i<ys.length:=by have:=(qab.1 h2).1; simpa using this
  rw[qak (by simpa using hi)]at h1;obtain⟨x,_,rfl,rfl⟩:=zda h1 h2
 ·rfl
 refine(eI .i64).mz x (fun hx=>h ?_) k d d' h3 h4;rcases hx with hx | hx
 ·cases s with
  | true=>exact .inl rfl
  | false=>exact .inr (by simpa using hx)
 exact .inr hx
end
end Go.Dc
