/-
 The library's functions that make a list of one's own out of another: what they come to, one's own memory seen. Conditions: none.
-/
import Derived.Test.YtnfgibomhkbcpaaNfDm
set_option linter.unusedSimpArgs false
set_option linter.unusedVariables false
namespace Go.Dc
open Go Go.Mx Go.Lx Go.Proofs
section
variable {c:Cx} {L:List LB} {H:zap} {B:Nat} {k0:Nat} {S:LSt} {Q:LX→LSt→Prop} {bar e:Bool}
theorem zmn{n f:Nat}{a:V}{r:List V}{h:zap}{x:CR×zap}(hl:zpc B f (a :: r) h=some x):(mC.run (n+1)).call B f (a :: r) h=some x:=by
 show zqT (mC.orc B f (a :: r) h) (zg2 (zrM mC.orc mC.fns n) mC.fns B f (a :: r) h)=_;rw[zsz,hl];rfl
theorem zsf{B:Nat}{args:List V}{h:zap}{x:CR×zap}(hl:zsB B 126 args h=some x):zpc B 126 args h=some x:=by
 unfold zpc;rw[hl];rfl
theorem zqo{B:Nat}{args:List V}{h:zap}{x:CR×zap}(hl:zi8 B 49 args h=some x):zpc B 49 args h=some x:=by
 have h0:zsB B 49 args h=none:=by unfold zsB; rw[if_neg (by decide)]
 unfold zpc;rw[h0,hl];rfl
theorem zmL(b o m n:Nat):ziO (.sl b o m n none)=false:=by cases n<;>rfl
theorem zvy{xs:List Int}{ds:List D}{vs:List V}(hd:ds=xs.map fun x=>.lit (.int .i64 x))(hr:Rs c ds vs):vs.mapM zpg=some xs∧vs=xs.map fun x=>.lit (.int .i64 x):=by
 subst hd;induction xs generalizing vs with
 | nil=>
  have:vs=[]:=qbk.1 (by simpa using hr.1.symm);subst this;exact⟨rfl,rfl⟩
 | cons x r ih=>
  obtain⟨v,vs',rfl,h1,h2⟩:=hr.inv;cases zha h1;obtain⟨g1,g2⟩:=ih h2;refine⟨?_,by rw[qaH,g2]⟩;rw[qcH,g1];rfl
theorem zlb(t:Bool)(xs:List Int):(xs.map ((eI .i64).c t)).flatten=xs.map fun x=>.lit (.int .i64 x):=by
 induction xs with
 | nil=>rfl
 | cons x r ih=>rw[qaH,qbb,ih]; rfl
theorem zph{t:Bool}{xs ys:List Int}(g:zeL 8 xs=some ys)(Qp:D→List LB→Prop):
  zeh mC bar 49 [fzE t (eI .i64) xs] L (fun d L'=>d=.sl L.length 0 1 ys.length none ys.length∧L'=L ++ [.els 1 (ys.map ((eI .i64).c true))]) Qp:=by
 have hle:=zhT g;rw[zrh g];intro c B H vs hH hB hr;obtain⟨v,vs',rfl,h1,h2⟩:=hr.inv;have hvs:vs'=[]:=qbk.1 (by simpa using h2.1.symm);subst hvs;generalize hB2:(bif bar then H.length else B)=B2;have hn1:(0:Nat)<1:=by decide
 have nilc:∀ v',v'=.lit (.slice none 0 0)→xs=[]→EvF mC B2 49 [v'] H fun cr H'=>∃ c' d L',Step c H c' H'∧RelH c' L' H'∧c.le c'∧match cr with | .ret v=>R c' d v∧(d=.sl L.length 0 1 xs.length none xs.length∧L'=L ++ [.els 1 (xs.map ((eI .i64).c true))])| .pan v=>R c' d v∧Qp d L':=by
  intro v' hv hx;subst hv;subst hx;obtain⟨g1,g2,g3⟩:=hH.new (x:=.ghost) (lb:=.els 1 []) (o:=[]) (.inl ⟨rfl,rfl⟩) fun c' hle hρ=>⟨hn1,.inl ⟨rfl,hρ⟩⟩
  rw[qaN]at g1 g2;refine⟨1,.ret (.lit (.slice none 0 0)),H,fun n hn=>?_,_,_,_,g2,g1,g3,.slg (zaB _ _ _),rfl,rfl⟩;obtain⟨n,rfl⟩:∃ k,n=k+1:=⟨n - 1,by omega⟩;rfl
 have newc:∀(cs:List V),Rs c (xs.map fun x=>.lit (.int .i64 x)) cs→(∀ n,(mC.run (n+1)).call B2 49 [v] H=some (.ret (.sl H.length 0 1 xs.length none),H ++ [.blk cs]))→
   EvF mC B2 49 [v] H fun cr H'=>∃ c' d L',Step c H c' H'∧RelH c' L' H'∧c.le c'∧match cr with | .ret v=>R c' d v∧(d=.sl L.length 0 1 xs.length none xs.length∧L'=L ++ [.els 1 (xs.map ((eI .i64).c true))])| .pan v=>R c' d v∧Qp d L':=by
  intro cs hcs hrun;have hE:Els c 1 (xs.map ((eI .i64).c true)) cs:=⟨fun cells hm=>by obtain⟨x,_,rfl⟩:=qaG.1 hm; rfl,by rw[zlb]; exact hcs⟩;obtain⟨g1,g2,g3⟩:=hH.new (x:=.list H.length xs.length) (lb:=.els 1 (xs.map ((eI .i64).c true))) (o:=[.blk cs]) (.inr ⟨cs,rfl,rfl⟩) fun c' hle hρ=>⟨hn1,.inr ⟨_,cs,by rw[qaw]; exact hρ,by simp,hE.mono hle⟩⟩
  refine⟨1,.ret (.sl H.length 0 1 xs.length none),H ++ [.blk cs],fun n hn=>?_,_,_,_,g2,g1,g3,.sl (zaB _ _ _) (.inr ⟨rfl,rfl⟩),rfl,rfl⟩;obtain⟨n,rfl⟩:∃ k,n=k+1:=⟨n - 1,by omega⟩;exact hrun n
 have hel:(fzE t (eI .i64) xs)=.fz t 1 (xs.map ((eI .i64).c t)):=rfl;rw[hel]at h1;generalize hes:xs.map ((eI .i64).c t)=es at h1;have hlen:es.length=xs.length:=by rw[← hes,qaw]
 cases h1 with
 | fzn=>exact nilc _ rfl (qbk.1 (by rw[← hlen]; rfl))
 | fz0=>
  have hx:xs=[]:=qbk.1 (by rw[← hlen]; rfl);subst hx;exact newc [] (Rs.nil c) fun n=>rfl
 | fz k1 k2 k3 k4 k5 k6=>
  rename_i b o cap cs;have hE:=zuy (b:=b) hH k4 k5 k6;have hrs:=hE.rel;rw[← hes,zlb,hes,qc7]at hrs;obtain⟨q1,q2⟩:=zvy rfl hrs;refine newc _ hrs fun n=>?_
  have hlib:zpc B2 49 [.sl b o 1 es.length cap] H=some (.ret (.sl H.length 0 1 xs.length none),H ++ [.blk ((cs.drop o).take es.length)]):=by
   refine zqo ?_;unfold zi8;rw[if_pos rfl];cases hl:es.length with
   | zero=>rw[hl]at hlen; rw[← hlen]; simp
   | succ m=>
    simp only;rw[zbj (hH.look k1)];simp only;rw[hl]at k4 hlen;have hm:zac=140737488355328:=rfl;rw[if_pos ⟨by trivial,by omega,by rw[hlen]; omega⟩,← hl,q1];simp only;rw[hl,hlen]
  exact zmn hlib
def zvx(b:Nat)(xs:List Int)(i:Int)(ys:List Int):Option (List Int):=if(0≤i∧i≤xs.length)∧0<ys.length∧(xs.length+ys.length)* b≤zac then some (xs.take i.toNat ++ ys ++ xs.drop i.toNat)else none
theorem zns{b:Nat}{xs ys zs:List Int}{i:Int}(h:zvx b xs i ys=some zs):((0≤i∧i≤xs.length)∧0<ys.length∧(xs.length+ys.length)* b≤zac)∧zs=xs.take i.toNat ++ ys ++ xs.drop i.toNat:=by
 unfold zvx at h;split at h
 ·rename_i hc; cases h; exact⟨hc,rfl⟩
 cases h
theorem zs5{b:Nat}{xs ys zs:List Int}{i:Int}(h:zvx b xs i ys=some zs):zs.length=xs.length+ys.length:=by
 obtain⟨h1,rfl⟩:=zns h;simp; omega
theorem zmo{β γ:Nat}{i:Nat}{cap:Option Nat}{es ss:List (List D)}(hβ:L[β]? = some (.els 1 es))(hγ:L[γ]? = some (.els 1 ss))(hne:β≠γ)(hi:i≤es.length)(hs:0<ss.length)(hbig:(es.length+ss.length)* 8≤zac)(Qp:D→List LB→Prop):
  zeh mC false 126 [.sl β 0 1 es.length none es.length,.lit (.int .i64 i),.sl γ 0 1 ss.length cap ss.length] L
   (fun d L'=>d=.sl β 0 1 (es.length+ss.length) none (es.length+ss.length)∧L'=L.set β (.els 1 (es.take i ++ ss ++ es.drop i))) Qp:=by
 intro c B H vs hH hB hr;obtain⟨v0,vs',rfl,h0,hr⟩:=hr.inv;obtain⟨v1,vs',rfl,h1,hr⟩:=hr.inv;obtain⟨v2,vs',rfl,h2,hr⟩:=hr.inv;have hvs:vs'=[]:=qbk.1 (by simpa using hr.1.symm);subst hvs;cases zha h1;have hm:zac=140737488355328:=rfl;have hsne:ss≠[]:=by rintro rfl; simp at hs
 obtain⟨_,⟨q,_⟩| ⟨b2,us,hρ2,hu,hE2⟩⟩:=hH.obj γ _ hγ
 ·exact(hsne q).elim
 cases zft h2 hρ2;have hul:us.length=ss.length:=by rw[hE2.ziu,qc7]
 have hB2:B≤b2:=qas hB (hH.own γ _ b2 hρ2 rfl).1;have hnew:es.length<es.length+ss.length:=by omega
 have hln:(es.take i ++ ss ++ es.drop i).length=es.length+ss.length:=by simp; omega
 obtain⟨hn1,⟨q1,q2⟩| ⟨b,cs,hρ,hc,hE⟩⟩:=hH.obj β _ hβ
 ·subst q1;have hi0:i=0:=by simpa using hi
  subst hi0;have hv0:v0=.lit (.slice none 0 0):=by
   rcases zuh h0 with⟨_,_,p1,_⟩| ⟨_,p2⟩
   ·rw[q2]at p1; cases p1
   exact p2
  subst hv0;obtain⟨g1,g2,g3⟩:=hH.move (β:=β) (m:=ss.length) (vs:=us) (lb:=.els 1 ss) q2 (.inr ⟨_,_,rfl,hs⟩) (H1:=H) rfl (fun _ _=>rfl) (fun b hb=>by cases hb) fun c' hle hρ'=>⟨hn1,.inr ⟨_,us,hρ',by simp,hE2.mono hle⟩⟩
  refine⟨1,.ret (.sl H.length 0 1 ss.length none),H ++ [.blk us],fun n hn=>?_,_,.sl β 0 1 ss.length none ss.length,_,g2,g1,g3,.sl (zaB _ _ _) (.inr ⟨rfl,by simp⟩),by simp,by simp⟩;obtain⟨n,rfl⟩:∃ k,n=k+1:=⟨n - 1,by omega⟩;have hlib:zpc B 126 [.lit (.slice none 0 0),.lit (.int .i64 ((0:Nat):Int)),.sl b2 (0 * 1) 1 ss.length cap] H=some (.ret (.sl H.length 0 1 ss.length none),H ++ [.blk us]):=by
   refine zsf ?_;unfold zsB;rw[if_pos rfl];simp only;rw[zbj hu];simp only;rw[if_pos ⟨hB2,hs,by omega,by trivial,by simp⟩,if_pos (by rfl),if_pos ⟨by trivial,by simp at hbig; omega⟩];rw[qb9,qaS,qaJ (by omega)]
  exact zmn hlib
 cases zft h0 hρ;have hcl:cs.length=es.length:=by rw[hE.ziu,qc7]
 have hBb:B≤b:=qas hB (hH.own β _ b hρ rfl).1;have hbb:b≠b2:=fun he=>hne (hH.inj β γ _ _ b hρ hρ2 rfl (by rw[he]; rfl))
 have hE':=((hE.take i).append hE2).append (hE.drop i);rw[qc7]at hE';obtain⟨g1,g2,g3⟩:=hH.move (β:=β) (m:=es.length+ss.length) (vs:=cs.take i ++ us ++ cs.drop i) (lb:=.els 1 (es.take i ++ ss ++ es.drop i)) hρ (.inr ⟨_,_,rfl,hnew⟩) (H1:=H.set b .dead) (by simp)
  (fun b' hb'=>qan (fun he=>hb' (by rw[he]; rfl))) (fun b' hb'=>by cases hb'; exact⟨_,hc⟩) fun c' hle hρ'=>⟨hn1,.inr ⟨_,_,by rw[hln]; exact hρ',by simp,hE'.mono hle⟩⟩
 refine⟨1,.ret (.sl H.length 0 1 (es.length+ss.length) none),_,fun n hn=>?_,_,.sl β 0 1 (es.length+ss.length) none (es.length+ss.length),_,g2,g1,g3,.sl (zaB _ _ _) (.inr ⟨rfl,by simp⟩),rfl,rfl⟩;obtain⟨n,rfl⟩:∃ k,n=k+1:=⟨n - 1,by omega⟩;have hlib:zpc B 126 [.sl b (0 * 1) 1 es.length none,.lit (.int .i64 i),.sl b2 (0 * 1) 1 ss.length cap] H=some (.ret (.sl H.length 0 1 (es.length+ss.length) none),H.set b .dead ++ [.blk (cs.take i ++ us ++ cs.drop i)]):=by
  refine zsf ?_;unfold zsB;rw[if_pos rfl];simp only;rw[zbj hu];simp only;have he:¬ (ziO (.sl b (0 * 1) 1 es.length none)=true):=by rw[zmL]; decide
  rw[if_pos ⟨hB2,hs,by omega,by trivial,by simp⟩,if_neg he];rw[zbj hc];simp only;rw[if_pos ⟨by trivial,hBb,hbb,by omega,by simpa using hi,by omega⟩];rw[qb9,qaS,qaS,qaF,qaJ (show us.length≤ss.length by omega)]
 exact zmn hlib
theorem EvL.clone{k:List K}{d:Option Nat}{xs:List X}{g:Option (Nat×Bool)}{l:List O}{t:Bool}{zs ys:List Int}(hg:zeL 8 zs=some ys)(hw:zbQ S.env g=some true)(hx:zg8 S.env xs=some [fzE t (eI .i64) zs])
  (hk:wp mC k0 (.ops bar e l :: k) (LSt.put ⟨S.N,S.env,S.heap ++ [.els 1 (ys.map ((eI .i64).c true))]⟩ d (.sl S.heap.length 0 1 ys.length none ys.length)) Q):EvL mC k0 (.ops bar e (⟨d,.call 49 xs,g⟩:: l):: k) S Q:=
 EvL.call (Qp1:=fun _ _=>False) hw hx (zph hg _) (fun r L' h=>by obtain⟨rfl,rfl⟩:=h; exact hk) fun _ _ h=>h.elim
theorem EvL.insert{k:List K}{d:Option Nat}{xs:List X}{g:Option (Nat×Bool)}{l:List O}{t t2:Bool}{β γ n st m st2:Nat}{cap:Option Nat}{i:Int}{zs ys us:List Int}(hg:zvx 8 zs i us=some ys)(hw:zbQ S.env g=some true)
  (hx:zg8 S.env xs=some [.sl β 0 1 n none st,.lit (.int .i64 i),.sl γ 0 1 m cap st2]) (hβ:S.heap[β]? = some (.els 1 (zs.map ((eI .i64).c t)))) (hγ:S.heap[γ]? = some (.els 1 (us.map ((eI .i64).c t2)))) (hne:Nat.beq β γ=false)
  (hn:n=zs.length) (hst:st=zs.length) (hm:m=us.length) (hst2:st2=us.length)
  (hk:wp mC k0 (.ops false e l :: k) (LSt.put ⟨S.N,S.env,S.heap.set β (.els 1 (ys.map ((eI .i64).c true)))⟩ d (.sl β 0 1 ys.length none ys.length)) Q):EvL mC k0 (.ops false e (⟨d,.call 126 xs,g⟩:: l):: k) S Q:=by
 have hl:=zs5 hg;obtain⟨⟨⟨h1,h2⟩,h3,h4⟩,h5⟩:=zns hg;have ht:∀(t t':Bool) (xs:List Int),xs.map ((eI .i64).c t)=xs.map ((eI .i64).c t'):=fun _ _ _=>rfl
 refine EvL.call (Qp1:=fun _ _=>False) hw hx ?_ (Q1:=fun r L'=>r=.sl β 0 1 ys.length none ys.length∧L'=S.heap.set β (.els 1 (ys.map ((eI .i64).c true)))) (fun r L' h=>by obtain⟨rfl,rfl⟩:=h; exact hk) fun _ _ h=>h.elim
 have hc:=zmo (L:=S.heap) (β:=β) (γ:=γ) (i:=i.toNat) (cap:=cap) hβ hγ (by intro he; rw[he,Nat.beq_refl]at hne; cases hne) (by rw[qaw]; omega) (by rw[qaw]; exact h3) (by rw[qaw,qaw]; exact h4) (fun _ _=>False);rw[qaw,qaw]at hc;rw[qby h1]at hc;subst hn;subst hst;subst hm;subst hst2;rw[hl];have hy:(zs.map ((eI .i64).c t)).take i.toNat=(zs.take i.toNat).map ((eI .i64).c t):=(qcC).symm;have hy2:(zs.map ((eI .i64).c t)).drop i.toNat=(zs.drop i.toNat).map ((eI .i64).c t):=(List.map_drop).symm;have hz:ys.map ((eI .i64).c true)=(zs.map ((eI .i64).c t)).take i.toNat ++ us.map ((eI .i64).c t2)++ (zs.map ((eI .i64).c t)).drop i.toNat:=by
  rw[hy,hy2,h5,qba,qba];rfl
 rw[hz];exact hc
end
end Go.Dc
