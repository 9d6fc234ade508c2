/-
 The library's functions that make a list of one's own out of another: what they come to, one's own memory seen. Conditions: none.
-/
import Derived.Test.YtbjogdohfhdaiaaGreatErDm
set_option linter.unusedSimpArgs false
set_option linter.unusedVariables false
namespace Go.Dc
open Go Go.Mx Go.Lx Go.Proofs
section
variable {c:Cx} {L:List LB} {H:zam} {B:Nat} {k0:Nat} {S:LSt} {Q:LX->LSt->Prop} {bar e:Bool}
theorem zkE(hH:RelH c L H):c.le c:=⟨λ_ _ h=>h,λ_ _ h=>h,λβ y hy=>⟨y,hy,Lc.up.refl y⟩,hH.apart⟩
variable{n:Nat}{h:zam}
theorem zjf{f:Nat}{a:V}{r:List V}{x:CR×zam}(hl:zho B f (a :: r) h=some x):(mC.run (n+1)).call B f (a :: r) h=some x:=by
 show zjH (mC.orc B f (a :: r) h) (zi2 (zvl mC.orc mC.fns n) mC.fns B f (a :: r) h)=_;rw[zzA,hl];rfl
variable{args:List V}
theorem zvG{B:Nat}{x:CR×zam}(hl:zna B 123 args h=some x):zho B 123 args h=some x:=by
 unfold zho;rw[hl];rfl
theorem zxm{B:Nat}{x:CR×zam}(hl:zec B 109 args h=some x):zho B 109 args h=some x:=by
 have h0:zna B 109 args h=none:=by unfold zna; rw[if_neg (by decide)]
 unfold zho;rw[h0,hl];rfl
theorem zC7{B:Nat}{x:CR×zam}(hl:zoB B 108 args h=some x):zho B 108 args h=some x:=by
 have h0:zna B 108 args h=none:=by unfold zna; rw[if_neg (by decide)]
 have h1:zec B 108 args h=none:=by unfold zec; rw[if_neg (by decide)]
 unfold zho;rw[h0,h1,hl];rfl
theorem zDg{B:Nat}{x:CR×zam}(hl:zp5 B 139 args h=some x):zho B 139 args h=some x:=by
 have h0:zna B 139 args h=none:=by unfold zna; rw[if_neg (by decide)]
 have h1:zec B 139 args h=none:=by unfold zec; rw[if_neg (by decide)]
 have h2:zoB B 139 args h=none:=by unfold zoB; rw[if_neg (by decide)]
 unfold zho;rw[h0,h1,h2,hl];rfl
theorem zBU{B:Nat}{x:CR×zam}(hl:zrA B 138 args h=some x):zho B 138 args h=some x:=by
 have h0:zna B 138 args h=none:=by unfold zna; rw[if_neg (by decide)]
 have h1:zec B 138 args h=none:=by unfold zec; rw[if_neg (by decide)]
 have h2:zoB B 138 args h=none:=by unfold zoB; rw[if_neg (by decide)]
 have h3:zp5 B 138 args h=none:=by unfold zp5; rw[if_neg (by decide)]
 unfold zho;rw[h0,h1,h2,h3,hl];rfl
theorem zqH(b o m n:Nat):zky (.sl b o m n none)=false:=by cases n<;>rfl
variable{xs:List Int}
theorem zxE{ds:List D}{vs:List V}(hd:ds=xs.map λx=>.lit (.int .i64 x))(hr:Rs c ds vs):vs.mapM zj6=some xs/\vs=xs.map λx=>.lit (.int .i64 x):=by
 subst hd;induction xs generalizing vs with
 | nil=>
  have:vs=[]:=qaG.1 (by simpa using hr.1.symm);subst this;exact⟨rfl,rfl⟩
 | cons x r ih=>
  obtain⟨v,vs',rfl,h1,h2⟩:=hr.inv;cases zob h1;obtain⟨g1,g2⟩:=ih h2;refine⟨?_,by rw[qaL,g2]⟩;rw[qcZ,g1];rfl
theorem zhW(t:Bool)(xs:List Int):(xs.map ((eI .i64).c t)).flatten=xs.map λx=>.lit (.int .i64 x):=by
 induction xs with
 | nil=>rfl
 | cons x r ih=>rw[qaL,qbl,ih]; rfl
variable{t:Bool}{ys:List Int}
theorem zt7(g:zex 8 xs=some ys)(Qp:D->List LB->Prop):
  zdD mC bar 109 [fzE t (eI .i64) xs] L (λd L'=>d=.sl L.length 0 1 ys.length none ys.length/\L'=L ++ [.els 1 (ys.map ((eI .i64).c true))]) Qp:=by
 have hle:=zkM g;rw[zuB g];intro c B H vs hH hB hr;obtain⟨v,vs',rfl,h1,h2⟩:=hr.inv;have hvs:vs'=[]:=qaG.1 (by simpa using h2.1.symm);subst hvs;generalize hB2:(bif bar then H.length else B)=B2;have hn1:(0:Nat)<1:=by decide
 have nilc:∀ v',v'=.lit (.slice none 0 0)->xs=[]->EvF mC B2 109 [v'] H λcr H'=>∃ c' d L',Step c H c' H'/\RelH c' L' H'/\c.le c'/\match cr with | .ret v=>R c' d v/\(d=.sl L.length 0 1 xs.length none xs.length/\L'=L ++ [.els 1 (xs.map ((eI .i64).c true))])| .pan v=>R c' d v/\Qp d L':=by
  intro v' hv hx;subst hv;subst hx;obtain⟨g1,g2,g3⟩:=hH.new (x:=.ghost) (lb:=.els 1 []) (o:=[]) (.inl ⟨rfl,rfl⟩) λc' hle hρ=>⟨hn1,.inl ⟨rfl,hρ⟩⟩
  rw[qaP]at g1 g2;refine⟨1,.ret (.lit (.slice none 0 0)),H,λn hn=>?_,_,_,_,g2,g1,g3,.slg (zbd _ _ _),rfl,rfl⟩;obtain⟨n,rfl⟩:∃ k,n=k+1:=⟨n - 1,by omega⟩;rfl
 have newc:∀(cs:List V),Rs c (xs.map λx=>.lit (.int .i64 x)) cs->(∀ n,(mC.run (n+1)).call B2 109 [v] H=some (.ret (.sl H.length 0 1 xs.length none),H ++ [.blk cs]))->
   EvF mC B2 109 [v] H λcr H'=>∃ c' d L',Step c H c' H'/\RelH c' L' H'/\c.le c'/\match cr with | .ret v=>R c' d v/\(d=.sl L.length 0 1 xs.length none xs.length/\L'=L ++ [.els 1 (xs.map ((eI .i64).c true))])| .pan v=>R c' d v/\Qp d L':=by
  intro cs hcs hrun;have hE:Els c 1 (xs.map ((eI .i64).c true)) cs:=⟨λcells hm=>by obtain⟨x,_,rfl⟩:=qaH.1 hm; rfl,by rw[zhW]; exact hcs⟩;obtain⟨g1,g2,g3⟩:=hH.new (x:=.list H.length xs.length) (lb:=.els 1 (xs.map ((eI .i64).c true))) (o:=[.blk cs]) (.inr ⟨cs,rfl,rfl⟩) λc' hle hρ=>⟨hn1,.inr ⟨_,cs,by rw[qak]; exact hρ,by simp,hE.mono hle⟩⟩
  refine⟨1,.ret (.sl H.length 0 1 xs.length none),H ++ [.blk cs],λn hn=>?_,_,_,_,g2,g1,g3,.sl (zbd _ _ _) (.inr ⟨rfl,rfl⟩),rfl,rfl⟩;obtain⟨n,rfl⟩:∃ k,n=k+1:=⟨n - 1,by omega⟩;exact hrun n
 have hel:(fzE t (eI .i64) xs)=.fz t 1 (xs.map ((eI .i64).c t)):=rfl;rw[hel]at h1;generalize hes:xs.map ((eI .i64).c t)=es at h1;have hlen:es.length=xs.length:=by rw[<- hes,qak]
 cases h1 with
 | fzn=>exact nilc _ rfl (qaG.1 (by rw[<- hlen]; rfl))
 | fz0=>
  have hx:xs=[]:=qaG.1 (by rw[<- hlen]; rfl);subst hx;exact newc [] (Rs.nil c) λn=>rfl
 | fz k1 k2 k3 k4 k5 k6=>
  rename_i b o cap cs;have hE:=zAc (b:=b) hH k4 k5 k6;have hrs:=hE.rel;rw[<- hes,zhW,hes,qb7]at hrs;obtain⟨q1,q2⟩:=zxE rfl hrs;refine newc _ hrs λn=>?_
  have hlib:zho B2 109 [.sl b o 1 es.length cap] H=some (.ret (.sl H.length 0 1 xs.length none),H ++ [.blk ((cs.drop o).take es.length)]):=by
   refine zxm ?_;unfold zec;rw[if_pos rfl];cases hl:es.length with
   | zero=>rw[hl]at hlen; rw[<- hlen]; simp
   | succ m=>
    simp only;rw[zbW (hH.look k1)];simp only;rw[hl]at k4 hlen;have hm:zah=140737488355328:=rfl;rw[if_pos ⟨by trivial,by omega,by rw[hlen]; omega⟩,<- hl,q1];simp only;rw[hl,hlen]
  exact zjf hlib
def zCN(b:Nat)(xs:List Int)(i:Int)(ys:List Int):Option (List Int):=if(0<=i/\i<=xs.length)/\0<ys.length/\(xs.length+ys.length)* b<=zah then some (xs.take i.toNat ++ ys ++ xs.drop i.toNat)else none
variable{b:Nat}{zs:List Int}{i:Int}
theorem zsn(h:zCN b xs i ys=some zs):((0<=i/\i<=xs.length)/\0<ys.length/\(xs.length+ys.length)* b<=zah)/\zs=xs.take i.toNat ++ ys ++ xs.drop i.toNat:=by
 unfold zCN at h;split at h
 .rename_i hc; cases h; exact⟨hc,rfl⟩
 cases h
theorem zyI(h:zCN b xs i ys=some zs):zs.length=xs.length+ys.length:=by
 obtain⟨h1,rfl⟩:=zsn h;simp; omega
variable{β:Nat}{cap:Option Nat}
theorem zri{γ:Nat}{i:Nat}{es ss:List (List D)}(hβ:L[β]? = some (.els 1 es))(hγ:L[γ]? = some (.els 1 ss))(hne:β≠γ)(hi:i<=es.length)(hs:0<ss.length)(hbig:(es.length+ss.length)* 8<=zah)(Qp:D->List LB->Prop):
  zdD mC false 123 [.sl β 0 1 es.length none es.length,.lit (.int .i64 i),.sl γ 0 1 ss.length cap ss.length] L
   (λd L'=>d=.sl β 0 1 (es.length+ss.length) none (es.length+ss.length)/\L'=L.set β (.els 1 (es.take i ++ ss ++ es.drop i))) Qp:=by
 intro c B H vs hH hB hr;obtain⟨v0,vs',rfl,h0,hr⟩:=hr.inv;obtain⟨v1,vs',rfl,h1,hr⟩:=hr.inv;obtain⟨v2,vs',rfl,h2,hr⟩:=hr.inv;have hvs:vs'=[]:=qaG.1 (by simpa using hr.1.symm);subst hvs;cases zob h1;have hm:zah=140737488355328:=rfl;have hsne:ss≠[]:=by rintro rfl; simp at hs
 obtain⟨_,⟨q,_⟩| ⟨b2,us,hρ2,hu,hE2⟩⟩:=hH.obj γ _ hγ
 .exact(hsne q).elim
 cases zf9 h2 hρ2;have hul:us.length=ss.length:=by rw[hE2.zn9,qb7]
 have hB2:B<=b2:=qaq hB (hH.own γ _ b2 hρ2 rfl).1;have hnew:es.length<es.length+ss.length:=by omega
 have hln:(es.take i ++ ss ++ es.drop i).length=es.length+ss.length:=by simp; omega
 obtain⟨hn1,⟨q1,q2⟩| ⟨b,cs,hρ,hc,hE⟩⟩:=hH.obj β _ hβ
 .subst q1;have hi0:i=0:=by simpa using hi
  subst hi0;have hv0:v0=.lit (.slice none 0 0):=by
   rcases zu5 h0 with⟨_,_,p1,_⟩| ⟨_,p2⟩
   .rw[q2]at p1; cases p1
   exact p2
  subst hv0;obtain⟨g1,g2,g3⟩:=hH.move (β:=β) (m:=ss.length) (vs:=us) (lb:=.els 1 ss) q2 (.inr ⟨_,_,rfl,hs⟩) (H1:=H) rfl (λ_ _=>rfl) (λb hb=>by cases hb) λc' hle hρ'=>⟨hn1,.inr ⟨_,us,hρ',by simp,hE2.mono hle⟩⟩
  refine⟨1,.ret (.sl H.length 0 1 ss.length none),H ++ [.blk us],λn hn=>?_,_,.sl β 0 1 ss.length none ss.length,_,g2,g1,g3,.sl (zbd _ _ _) (.inr ⟨rfl,by simp⟩),by simp,by simp⟩;obtain⟨n,rfl⟩:∃ k,n=k+1:=⟨n - 1,by omega⟩;have hlib:zho B 123 [.lit (.slice none 0 0),.lit (.int .i64 ((0:Nat):Int)),.sl b2 (0 * 1) 1 ss.length cap] H=some (.ret (.sl H.length 0 1 ss.length none),H ++ [.blk us]):=by
   refine zvG ?_;unfold zna;rw[if_pos rfl];simp only;rw[zbW hu];simp only;rw[if_pos ⟨hB2,hs,by omega,by trivial,by simp⟩,if_pos (by rfl),if_pos ⟨by trivial,by simp at hbig; omega⟩];rw[qci,qbq,qaM (by omega)]
  exact zjf hlib
 cases zf9 h0 hρ;have hcl:cs.length=es.length:=by rw[hE.zn9,qb7]
 have hBb:B<=b:=qaq hB (hH.own β _ b hρ rfl).1;have hbb:b≠b2:=λhe=>hne (hH.inj β γ _ _ b hρ hρ2 rfl (by rw[he]; rfl))
 have hE':=((hE.take i).append hE2).append (hE.drop i);rw[qb7]at hE';obtain⟨g1,g2,g3⟩:=hH.move (β:=β) (m:=es.length+ss.length) (vs:=cs.take i ++ us ++ cs.drop i) (lb:=.els 1 (es.take i ++ ss ++ es.drop i)) hρ (.inr ⟨_,_,rfl,hnew⟩) (H1:=H.set b .dead) (by simp)
  (λb' hb'=>qaD (λhe=>hb' (by rw[he]; rfl))) (λb' hb'=>by cases hb'; exact⟨_,hc⟩) λc' hle hρ'=>⟨hn1,.inr ⟨_,_,by rw[hln]; exact hρ',by simp,hE'.mono hle⟩⟩
 refine⟨1,.ret (.sl H.length 0 1 (es.length+ss.length) none),_,λn hn=>?_,_,.sl β 0 1 (es.length+ss.length) none (es.length+ss.length),_,g2,g1,g3,.sl (zbd _ _ _) (.inr ⟨rfl,by simp⟩),rfl,rfl⟩;obtain⟨n,rfl⟩:∃ k,n=k+1:=⟨n - 1,by omega⟩;have hlib:zho B 123 [.sl b (0 * 1) 1 es.length none,.lit (.int .i64 i),.sl b2 (0 * 1) 1 ss.length cap] H=some (.ret (.sl H.length 0 1 (es.length+ss.length) none),H.set b .dead ++ [.blk (cs.take i ++ us ++ cs.drop i)]):=by
  refine zvG ?_;unfold zna;rw[if_pos rfl];simp only;rw[zbW hu];simp only;have he:¬ (zky (.sl b (0 * 1) 1 es.length none)=true):=by rw[zqH]; decide
  rw[if_pos ⟨hB2,hs,by omega,by trivial,by simp⟩,if_neg he];rw[zbW hc];simp only;rw[if_pos ⟨by trivial,hBb,hbb,by omega,by simpa using hi,by omega⟩];rw[qci,qbq,qbq,qax,qaM (show us.length<=ss.length by omega)]
 exact zjf hlib
variable{k:List K}{d:Option Nat}{g:Option (Nat×Bool)}{l:List O}
theorem EvL.clone{xs:List X}(hg:zex 8 zs=some ys)(hw:zbB S.env g=some true)(hx:zhj S.env xs=some [fzE t (eI .i64) zs])(hk:wp mC k0 (.ops bar e l :: k) (LSt.put ⟨S.N,S.env,S.heap ++ [.els 1 (ys.map ((eI .i64).c true))]⟩ d (.sl S.heap.length 0 1 ys.length none ys.length)) Q):EvL mC k0 (.ops bar e (⟨d,.call 109 xs,g⟩:: l):: k) S Q:=
 EvL.call (Qp1:=λ_ _=>False) hw hx (zt7 hg _) (λr L' h=>by obtain⟨rfl,rfl⟩:=h; exact hk) λ_ _ h=>h.elim
variable{st:Nat}
theorem EvL.insert{xs:List X}{t2:Bool}{γ m st2:Nat}{us:List Int}(hg:zCN 8 zs i us=some ys)(hw:zbB S.env g=some true)(hx:zhj S.env xs=some [.sl β 0 1 n none st,.lit (.int .i64 i),.sl γ 0 1 m cap st2])(hβ:S.heap[β]? = some (.els 1 (zs.map ((eI .i64).c t))))(hγ:S.heap[γ]? = some (.els 1 (us.map ((eI .i64).c t2))))(hne:Nat.beq β γ=false)(hn:n=zs.length)(hst:st=zs.length)(hm:m=us.length)(hst2:st2=us.length)(hk:wp mC k0 (.ops false e l :: k) (LSt.put ⟨S.N,S.env,S.heap.set β (.els 1 (ys.map ((eI .i64).c true)))⟩ d (.sl β 0 1 ys.length none ys.length)) Q):EvL mC k0 (.ops false e (⟨d,.call 123 xs,g⟩:: l):: k) S Q:=by
 have hl:=zyI hg;obtain⟨⟨⟨h1,h2⟩,h3,h4⟩,h5⟩:=zsn hg;have ht:∀(t t':Bool) (xs:List Int),xs.map ((eI .i64).c t)=xs.map ((eI .i64).c t'):=λ_ _ _=>rfl
 refine EvL.call (Qp1:=λ_ _=>False) hw hx ?_ (Q1:=λr L'=>r=.sl β 0 1 ys.length none ys.length/\L'=S.heap.set β (.els 1 (ys.map ((eI .i64).c true)))) (λr L' h=>by obtain⟨rfl,rfl⟩:=h; exact hk) λ_ _ h=>h.elim
 have hc:=zri (L:=S.heap) (β:=β) (γ:=γ) (i:=i.toNat) (cap:=cap) hβ hγ (by intro he; rw[he,Nat.beq_refl]at hne; cases hne) (by rw[qak]; omega) (by rw[qak]; exact h3) (by rw[qak,qak]; exact h4) (λ_ _=>False);rw[qak,qak]at hc;rw[qcn h1]at hc;subst hn;subst hst;subst hm;subst hst2;rw[hl];have hy:(zs.map ((eI .i64).c t)).take i.toNat=(zs.take i.toNat).map ((eI .i64).c t):=(List.map_take).symm;have hy2:(zs.map ((eI .i64).c t)).drop i.toNat=(zs.drop i.toNat).map ((eI .i64).c t):=(List.map_drop).symm;have hz:ys.map ((eI .i64).c true)=(zs.map ((eI .i64).c t)).take i.toNat ++ us.map ((eI .i64).c t2)++ (zs.map ((eI .i64).c t)).drop i.toNat:=by
  rw[hy,hy2,h5,qba,qba];rfl
 rw[hz];exact hc
theorem zDm{m:Nat}{cs:List V}(hH:RelH c L H)(hβ:L[β]? = some (.els 1 (xs.map ((eI .i64).c t))))(hρ:c.ρ β=some (.list b m))(hm:m=xs.length)(hc:H[b]? = some (.blk cs))(hl:ys.length=xs.length):
  RelH c (L.set β (.els 1 (ys.map ((eI .i64).c true)))) (H.set b (.blk (ys.map zgp)))/\Step c H c (H.set b (.blk (ys.map zgp))):=
 hH.write hρ rfl hc λH' hb=>⟨by decide,.inr ⟨b,_,by rw[qak,hl,<- hm]; exact hρ,hb,λcells hm=>(by obtain⟨x,_,rfl⟩:=qaH.1 hm; rfl),by
  have:(ys.map ((eI .i64).c true)).flatten=(ys.map λx=>Value.int .i64 x).map .lit:=by rw[zhW]; simp
  rw[this];have h2:ys.map zgp=(ys.map λx=>Value.int .i64 x).map .lit:=by simp[zgp]
  rw[h2]
  exact Rs.lits _⟩⟩
theorem zjT{α:Type}{l:List α}{i:Nat}{x:α}(h:l[i]? = some x):l.set i x=l:=by
 obtain⟨h1,rfl⟩:=qab.1 h;exact List.set_getElem_self h1
theorem zn5{v:V}(hH:RelH c L H)(hβ:L[β]? = some (.els 1 (xs.map ((eI .i64).c t))))(hr:R c (.sl β 0 1 n none st) v)(hn:n=xs.length)(hst:st=xs.length):
  (xs=[]/\v=.lit (.slice none 0 0))\/∃ b,c.ρ β=some (.list b xs.length)/\v=.sl b 0 1 xs.length none/\H[b]? = some (.blk (xs.map zgp)):=by
 subst hn;subst hst;obtain⟨_,⟨q1,q2⟩| ⟨b,cs,hρ,hc,hE⟩⟩:=hH.obj β _ hβ
 .have hx:xs=[]:=by simpa using q1
  refine .inl ⟨hx,?_⟩;rcases zu5 hr with⟨_,_,p1,_⟩| ⟨_,p2⟩
  .rw[q2]at p1; cases p1
  exact p2
 rw[qak]at hρ;have hv:=zf9 hr hρ;refine .inr ⟨b,hρ,by simpa using hv,?_⟩;have hrs:=hE.rel;rw[zhW]at hrs;obtain⟨_,q2⟩:=zxE rfl hrs;rw[hc,q2];rfl
def zoK(b:Nat)(xs:List Int):Option (List Int):=if xs.length * b<=zah then some (zgk xs)else none
theorem zo4(h:zoK b xs=some ys):xs.length * b<=zah/\ys=zgk xs:=by
 unfold zoK at h;split at h
 .rename_i hc; cases h; exact⟨hc,rfl⟩
 cases h
theorem zou(h:zoK b xs=some ys):ys.length=xs.length:=by rw[(zo4 h).2,zkv]
theorem zoV:zgk []=[]:=by simp[zgk]
theorem zvD(hg:zoK 8 xs=some ys)(hβ:L[β]? = some (.els 1 (xs.map ((eI .i64).c t))))(hn:n=xs.length)(hst:st=xs.length)(Qp:D->List LB->Prop):
  zdD mC false 138 [.sl β 0 1 n none st] L (λd L'=>d=.tup []/\L'=L.set β (.els 1 (ys.map ((eI .i64).c true)))) Qp:=by
 intro c B H vs hH hB hr;obtain⟨hbig,rfl⟩:=zo4 hg;have hmb:zah=140737488355328:=rfl;obtain⟨v,vs',rfl,h1,h2⟩:=hr.inv;have hvs:vs'=[]:=qaG.1 (by simpa using h2.1.symm);subst hvs;rcases zn5 hH hβ h1 hn hst with⟨rfl,rfl⟩| ⟨b,hρ,rfl,hb⟩
 .refine⟨1,.ret (.tup []),H,λn hn=>?_,c,.tup [],L,.refl c H,hH,zkE hH,.tup rfl λi d v h=>by simp at h,rfl,by rw[show(([]:List Int).map ((eI .i64).c t))=(zgk []).map ((eI .i64).c true)from by rw[zoV]; rfl]at hβ; exact(zjT hβ).symm⟩;obtain⟨n,rfl⟩:∃ k,n=k+1:=⟨n - 1,by omega⟩;rfl
 have hBb:B<=b:=qaq hB (hH.own β _ b hρ rfl).1;obtain⟨g1,g2⟩:=zDm hH hβ hρ rfl hb (ys:=zgk xs) (zkv xs);refine⟨1,.ret (.tup []),_,λn hn=>?_,c,.tup [],_,g2,g1,zkE hH,.tup rfl λi d v h=>by simp at h,rfl,rfl⟩;obtain⟨n,rfl⟩:∃ k,n=k+1:=⟨n - 1,by omega⟩;have hlib:zho B 138 [.sl b 0 1 xs.length none] H=some (.ret (.tup []),H.set b (.blk ((zgk xs).map zgp))):=by
  refine zBU ?_;unfold zrA;rw[if_pos rfl];cases hl:xs.length with
  | zero=>
   have hx:xs=[]:=qaG.1 hl;subst hx;show some (CR.ret (.tup []),H)=_;have:(zgk []).map zgp=([]:List Int).map zgp:=by rw[zoV]
   rw[this,zjT hb]
  | succ m=>
   simp only;rw[zbW hb];simp only;rw[zkQ];simp only;rw[if_pos ⟨⟨hBb,hl.symm⟩,by omega⟩]
 exact zjf hlib
theorem EvL.sort{xs:List X}(hg:zoK 8 zs=some ys)(hw:zbB S.env g=some true)(hx:zhj S.env xs=some [.sl β 0 1 n none st])(hβ:S.heap[β]? = some (.els 1 (zs.map ((eI .i64).c t))))(hn:n=zs.length)(hst:st=zs.length)(hk:wp mC k0 (.ops false e l :: k) (LSt.put ⟨S.N,S.env,S.heap.set β (.els 1 (ys.map ((eI .i64).c true)))⟩ d (.tup [])) Q):EvL mC k0 (.ops false e (⟨d,.call 138 xs,g⟩:: l):: k) S Q:=
 EvL.call (Qp1:=λ_ _=>False) hw hx (zvD hg hβ hn hst _) (λr L' h=>by obtain⟨rfl,rfl⟩:=h; exact hk) λ_ _ h=>h.elim
def zrv(xs ys:List Int):List Int:=List.replicate (xs.length - ys.length) 0
def zDw(xs:List Int):Option (List Int):=some (Go.Lib.compact xs)
theorem zsm(h:zDw xs=some ys):ys=Go.Lib.compact xs/\ys.length<=xs.length:=by cases h; exact⟨rfl,zlT xs⟩
theorem zqn(h:ys.length<=xs.length):(ys ++ zrv xs ys).length=xs.length:=by unfold zrv; rw[qaz,qcc]; omega
theorem zoH(hg:zDw xs=some ys)(hβ:L[β]? = some (.els 1 (xs.map ((eI .i64).c t))))(hn:n=xs.length)(hst:st=xs.length)(Qp:D->List LB->Prop):
  zdD mC false 139 [.sl β 0 1 n none st] L (λd L'=>d=.sl β 0 1 ys.length none xs.length/\L'=L.set β (.els 1 ((ys ++ zrv xs ys).map ((eI .i64).c true)))) Qp:=by
 intro c B H vs hH hB hr;obtain⟨hy,hle⟩:=zsm hg;obtain⟨v,vs',rfl,h1,h2⟩:=hr.inv;have hvs:vs'=[]:=qaG.1 (by simpa using h2.1.symm);subst hvs;have hpl:=zqn hle;have h1':=h1;rcases zn5 hH hβ h1 hn hst with⟨hx,rfl⟩| ⟨b,hρ,rfl,hb⟩
 .have hye:ys=[]:=qaG.1 (by rw[hx]at hle; simpa using hle);have hpe:ys ++ zrv xs ys=[]:=qaG.1 (by rw[hpl,hx]; rfl);rw[hn,hst,hx]at h1';refine⟨1,.ret (.lit (.slice none 0 0)),H,λn hn=>?_,c,.sl β 0 1 0 none 0,L,.refl c H,hH,zkE hH,h1',by rw[hye,hx]; rfl,?_⟩
  .obtain⟨n,rfl⟩:∃ k,n=k+1:=⟨n - 1,by omega⟩;rfl
  rw[hpe];rw[hx]at hβ;exact(zjT hβ).symm
 have hBb:B<=b:=qaq hB (hH.own β _ b hρ rfl).1;obtain⟨g1,g2⟩:=zDm hH hβ hρ rfl hb (ys:=ys ++ zrv xs ys) hpl;refine⟨1,.ret (.sl b 0 1 ys.length none),_,λn hn=>?_,c,_,_,g2,g1,zkE hH,.sl hρ (.inr ⟨rfl,by simp⟩),rfl,rfl⟩;obtain⟨n,rfl⟩:∃ k,n=k+1:=⟨n - 1,by omega⟩;have hlib:zho B 139 [.sl b 0 1 xs.length none] H=some (.ret (.sl b 0 1 ys.length none),H.set b (.blk ((ys ++ zrv xs ys).map zgp))):=by
  refine zDg ?_;unfold zp5;rw[if_pos rfl];cases hl:xs.length with
  | zero=>
   have hx:xs=[]:=qaG.1 hl;have hye:ys=[]:=qaG.1 (by rw[hx]at hle; simpa using hle);have hpe:ys ++ zrv xs ys=[]:=qaG.1 (by rw[hpl,hx]; rfl);rw[hpe,hye];rw[hx]at hb;show some (CR.ret (.sl b 0 1 0 none),H)=_;have:([]:List Int).map zgp=[]:=rfl;rw[zjT hb];rfl
  | succ m=>
   simp only;rw[zbW hb];simp only;rw[zkQ];simp only;rw[if_pos ⟨hBb,hl.symm⟩,hy];rfl
 exact zjf hlib
variable{S1:LSt}
theorem EvL.zFD{d:Option Nat}{f:Nat}{xs:List X}{ds:List D}{r:D}{L':List LB}(hw:zbB S.env g=some true)(hx:zhj S.env xs=some ds)(hc:zdD mC (zrn bar f) f ds S.heap (λd L1=>d=r/\L1=L') λ_ _=>False)(hs:LSt.put ⟨S.N,S.env,L'⟩ d r=some S1)(hk:EvL mC k0 (.ops bar e l :: k) S1 Q):EvL mC k0 (.ops bar e (⟨d,.call f xs,g⟩:: l):: k) S Q:=by
 intro c0 H0 c B rd M hd hway hr hB;obtain⟨vs,g1,g2⟩:=zcJ hr hx;refine EvO.call (zcZ hr hw) rfl g1 (EvF.mono (hc c B M.heap vs hr.heap hB g2) ?_);rintro cr H' ⟨c',r',L1,h1,h2,h3,h4⟩;cases cr with
 | ret v=>
  obtain⟨h4,rfl,rfl⟩:=h4;exact hk c0 H0 c' B rd _ hd (by cases d<;>exact hway.go h1 h3 hr.heap rfl) (zeB hr h3 h2 h4 hs) (by rw[h1.base]; exact hB)
 | pan v=>exact h4.2.elim
theorem EvL.compact{xs:List X}(hg:zDw zs=some ys)(hw:zbB S.env g=some true)(hx:zhj S.env xs=some [.sl β 0 1 n none st])(hβ:S.heap[β]? = some (.els 1 (zs.map ((eI .i64).c t))))(hn:n=zs.length)(hst:st=zs.length)(hs:LSt.put ⟨S.N,S.env,S.heap.set β (.els 1 ((ys ++ zrv zs ys).map ((eI .i64).c true)))⟩ d (.sl β 0 1 ys.length none zs.length)=some S1)(hk:EvL mC k0 (.ops false e l :: k) S1 Q):EvL mC k0 (.ops false e (⟨d,.call 139 xs,g⟩:: l):: k) S Q:=
 EvL.zFD hw hx (zoH hg hβ hn hst _) hs hk
def zwo(xs:List Int)(i j:Int):Option (List Int):=if(0<=i/\i<=j/\j<=xs.length)/\0<xs.length then some (xs.take i.toNat ++ xs.drop j.toNat)else none
variable{j:Int}
theorem zsp(h:zwo xs i j=some ys):((0<=i/\i<=j/\j<=xs.length)/\0<xs.length)/\ys=xs.take i.toNat ++ xs.drop j.toNat:=by
 unfold zwo at h;split at h
 .rename_i hc; cases h; exact⟨hc,rfl⟩
 cases h
theorem zqo(hg:zwo xs i j=some ys)(hβ:L[β]? = some (.els 1 (xs.map ((eI .i64).c t))))(hn:n=xs.length)(hst:st=xs.length)(Qp:D->List LB->Prop):
  zdD mC false 108 [.sl β 0 1 n none st,.lit (.int .i64 i),.lit (.int .i64 j)] L (λd L'=>d=.sl β 0 1 ys.length none xs.length/\L'=L.set β (.els 1 ((ys ++ zrv xs ys).map ((eI .i64).c true)))) Qp:=by
 intro c B H vs hH hB hr;obtain⟨⟨⟨hi,hij,hj⟩,h0⟩,hy⟩:=zsp hg;obtain⟨v,vs',rfl,h1,hr⟩:=hr.inv;obtain⟨v1,vs',rfl,h2,hr⟩:=hr.inv;obtain⟨v2,vs',rfl,h3,hr⟩:=hr.inv;have hvs:vs'=[]:=qaG.1 (by simpa using hr.1.symm);subst hvs;cases zob h2;cases zob h3;have hyl:ys.length=xs.length - (j.toNat - i.toNat):=by rw[hy]; simp; omega
 have hpl:=zqn (xs:=xs) (ys:=ys) (by omega);rcases zn5 hH hβ h1 hn hst with⟨hx,rfl⟩| ⟨b,hρ,rfl,hb⟩
 .rw[hx]at h0; simp at h0
 have hBb:B<=b:=qaq hB (hH.own β _ b hρ rfl).1;obtain⟨g1,g2⟩:=zDm hH hβ hρ rfl hb (ys:=ys ++ zrv xs ys) hpl;refine⟨1,.ret (.sl b 0 1 ys.length none),_,λn hn=>?_,c,_,_,g2,g1,zkE hH,.sl hρ (.inr ⟨rfl,by simp⟩),rfl,rfl⟩;obtain⟨n,rfl⟩:∃ k,n=k+1:=⟨n - 1,by omega⟩;have hlib:zho B 108 [.sl b 0 1 xs.length none,.lit (.int .i64 i),.lit (.int .i64 j)] H=some (.ret (.sl b 0 1 ys.length none),H.set b (.blk ((ys ++ zrv xs ys).map zgp))):=by
  refine zC7 ?_;unfold zoB;rw[if_pos rfl];simp only;rw[zbW hb];simp only;rw[zkQ];simp only;have hp:zrv xs ys=List.replicate (j.toNat - i.toNat) 0:=by unfold zrv; congr 1; omega
  rw[if_pos ⟨⟨hBb,by trivial,h0⟩,hi,hij,hj⟩,hp,hyl,hy]
 exact zjf hlib
theorem EvL.delete{xs:List X}(hg:zwo zs i j=some ys)(hw:zbB S.env g=some true)(hx:zhj S.env xs=some [.sl β 0 1 n none st,.lit (.int .i64 i),.lit (.int .i64 j)])(hβ:S.heap[β]? = some (.els 1 (zs.map ((eI .i64).c t))))(hn:n=zs.length)(hst:st=zs.length)(hs:LSt.put ⟨S.N,S.env,S.heap.set β (.els 1 ((ys ++ zrv zs ys).map ((eI .i64).c true)))⟩ d (.sl β 0 1 ys.length none zs.length)=some S1)(hk:EvL mC k0 (.ops false e l :: k) S1 Q):EvL mC k0 (.ops false e (⟨d,.call 108 xs,g⟩:: l):: k) S Q:=
 EvL.zFD hw hx (zqo hg hβ hn hst _) hs hk
theorem zqK(h:zwo xs i j=some ys):ys.length<=xs.length:=by
 obtain⟨⟨⟨hi,hij,hj⟩,h0⟩,hy⟩:=zsp h;rw[hy]; simp; omega
theorem zDd(h:zDw xs=some ys):ys.length<=xs.length:=(zsm h).2
theorem znZ{F:Nat->Bool}{s t':Bool}(hle:ys.length<=xs.length)(hF:F β=true)(he:L[β]? = some (.els 1 ((ys ++ zrv xs ys).map ((eI .i64).c t))))(hst:st=xs.length)(h:s=true\/t'=true->t=true):
  Mz L F s (.sl β 0 1 ys.length none st) (fzE t' (eI .i64) ys):=by
 have hpl:=zqn hle;refine .sl hF (zlb (.inl he) (by rw[qak,hpl,hst])) (by rw[qak,hpl]; omega) (λk hk=>nomatch hk) (by simp) (λi cells cells' h1 h2=>?_) λi k cells cells' d d' h1 h2 h3 h4=>?_
 all_goals
  rw[qaO,qba]at h1;have hi:i<ys.length:=by have:=(qab.1 h2).1; simpa using this
  rw[qar (by simpa using hi)]at h1;obtain⟨x,_,rfl,rfl⟩:=zd4 h1 h2
 .rfl
 refine(eI .i64).mz x (λhx=>h ?_) k d d' h3 h4;rcases hx with hx | hx
 .cases s with
  | true=>exact .inl rfl
  | false=>exact .inr (by simpa using hx)
 exact .inr hx
end
end Go.Dc
