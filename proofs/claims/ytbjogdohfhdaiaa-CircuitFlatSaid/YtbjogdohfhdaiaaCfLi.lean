/-
 The library's functions that make a list of one's own out of another: what they come to, one's own memory seen. Conditions: none.
-/
import Derived.Test.YtbjogdohfhdaiaaCfDm
set_option linter.unusedSimpArgs false
set_option linter.unusedVariables false
namespace Go.Dc
open Go Go.Mx Go.Lx Go.Proofs
section
variable {c:Cx} {L:List LB} {H:zaj} {B:Nat} {k0:Nat} {S:LSt} {Q:LX->LSt->Prop} {bar e:Bool}
theorem zyg{n f:Nat}{a:V}{r:List V}{h:zaj}{x:CR×zaj}(hl:zvs B f (a :: r) h=some x):(mC.run (n+1)).call B f (a :: r) h=some x:=by
 show zrI (mC.orc B f (a :: r) h) (zgT (zun mC.orc mC.fns n) mC.fns B f (a :: r) h)=_;rw[zvR,hl];rfl
theorem zsl{B:Nat}{args:List V}{h:zaj}{x:CR×zaj}(hl:zjO B 25 args h=some x):zvs B 25 args h=some x:=by
 have h0:zzJ B 25 args h=none:=by unfold zzJ; rw[if_neg (by decide)]
 unfold zvs;rw[h0,hl];rfl
theorem zyD{xs:List Int}{ds:List D}{vs:List V}(hd:ds=xs.map λx=>.lit (.int .i64 x))(hr:Rs c ds vs):vs.mapM zrj=some xs/\vs=xs.map λx=>.lit (.int .i64 x):=by
 subst hd;induction xs generalizing vs with
 | nil=>
  have:vs=[]:=qa5.1 (by simpa using hr.1.symm);subst this;exact⟨rfl,rfl⟩
 | cons x r ih=>
  obtain⟨v,vs',rfl,h1,h2⟩:=hr.inv;cases zhJ h1;obtain⟨g1,g2⟩:=ih h2;refine⟨?_,by rw[qaS,g2]⟩;rw[qcU,g1];rfl
theorem zng(t:Bool)(xs:List Int):(xs.map ((eI .i64).c t)).flatten=xs.map λx=>.lit (.int .i64 x):=by
 induction xs with
 | nil=>rfl
 | cons x r ih=>rw[qaS,qbn,ih]; rfl
theorem zqm{t:Bool}{xs ys:List Int}(g:zfk 8 xs=some ys)(Qp:D->List LB->Prop):
  zbA mC bar 25 [fzE t (eI .i64) xs] L (λd L'=>d=.sl L.length 0 1 ys.length none ys.length/\L'=L ++ [.els 1 (ys.map ((eI .i64).c true))]) Qp:=by
 have hle:=zmP g;rw[zrX g];intro c B H vs hH hB hr;obtain⟨v,vs',rfl,h1,h2⟩:=hr.inv;have hvs:vs'=[]:=qa5.1 (by simpa using h2.1.symm);subst hvs;generalize hB2:(bif bar then H.length else B)=B2;have hn1:(0:Nat)<1:=by decide
 have nilc:∀ v',v'=.lit (.slice none 0 0)->xs=[]->EvF mC B2 25 [v'] H λcr H'=>∃ c' d L',Step c H c' H'/\RelH c' L' H'/\c.le c'/\match cr with | .ret v=>R c' d v/\(d=.sl L.length 0 1 xs.length none xs.length/\L'=L ++ [.els 1 (xs.map ((eI .i64).c true))])| .pan v=>R c' d v/\Qp d L':=by
  intro v' hv hx;subst hv;subst hx;obtain⟨g1,g2,g3⟩:=hH.new (x:=.ghost) (lb:=.els 1 []) (o:=[]) (.inl ⟨rfl,rfl⟩) λc' hle hρ=>⟨hn1,.inl ⟨rfl,hρ⟩⟩
  rw[qaY]at g1 g2;refine⟨1,.ret (.lit (.slice none 0 0)),H,λn hn=>?_,_,_,_,g2,g1,g3,.slg (zat _ _ _),rfl,rfl⟩;obtain⟨n,rfl⟩:∃ k,n=k+1:=⟨n - 1,by omega⟩;rfl
 have newc:∀(cs:List V),Rs c (xs.map λx=>.lit (.int .i64 x)) cs->(∀ n,(mC.run (n+1)).call B2 25 [v] H=some (.ret (.sl H.length 0 1 xs.length none),H ++ [.blk cs]))->
   EvF mC B2 25 [v] H λcr H'=>∃ c' d L',Step c H c' H'/\RelH c' L' H'/\c.le c'/\match cr with | .ret v=>R c' d v/\(d=.sl L.length 0 1 xs.length none xs.length/\L'=L ++ [.els 1 (xs.map ((eI .i64).c true))])| .pan v=>R c' d v/\Qp d L':=by
  intro cs hcs hrun;have hE:Els c 1 (xs.map ((eI .i64).c true)) cs:=⟨λcells hm=>by obtain⟨x,_,rfl⟩:=qaJ.1 hm; rfl,by rw[zng]; exact hcs⟩;obtain⟨g1,g2,g3⟩:=hH.new (x:=.list H.length xs.length) (lb:=.els 1 (xs.map ((eI .i64).c true))) (o:=[.blk cs]) (.inr ⟨cs,rfl,rfl⟩) λc' hle hρ=>⟨hn1,.inr ⟨_,cs,by rw[qaX]; exact hρ,by simp,hE.mono hle⟩⟩
  refine⟨1,.ret (.sl H.length 0 1 xs.length none),H ++ [.blk cs],λn hn=>?_,_,_,_,g2,g1,g3,.sl (zat _ _ _) (.inr ⟨rfl,rfl⟩),rfl,rfl⟩;obtain⟨n,rfl⟩:∃ k,n=k+1:=⟨n - 1,by omega⟩;exact hrun n
 have hel:(fzE t (eI .i64) xs)=.fz t 1 (xs.map ((eI .i64).c t)):=rfl;rw[hel]at h1;generalize hes:xs.map ((eI .i64).c t)=es at h1;have hlen:es.length=xs.length:=by rw[<- hes,qaX]
 cases h1 with
 | fzn=>exact nilc _ rfl (qa5.1 (by rw[<- hlen]; rfl))
 | fz0=>
  have hx:xs=[]:=qa5.1 (by rw[<- hlen]; rfl);subst hx;exact newc [] (Rs.nil c) λn=>rfl
 | fz k1 k2 k3 k4 k5 k6=>
  rename_i b o cap cs;have hE:=zwV (b:=b) hH k4 k5 k6;have hrs:=hE.rel;rw[<- hes,zng,hes,qbI]at hrs;obtain⟨q1,q2⟩:=zyD rfl hrs;refine newc _ hrs λn=>?_
  have hlib:zvs B2 25 [.sl b o 1 es.length cap] H=some (.ret (.sl H.length 0 1 xs.length none),H ++ [.blk ((cs.drop o).take es.length)]):=by
   refine zsl ?_;unfold zjO;rw[if_pos rfl];cases hl:es.length with
   | zero=>rw[hl]at hlen; rw[<- hlen]; simp
   | succ m=>
    simp only;rw[zbt (hH.look k1)];simp only;rw[hl]at k4 hlen;have hm:zah=140737488355328:=rfl;rw[if_pos ⟨by trivial,by omega,by rw[hlen]; omega⟩,<- hl,q1];simp only;rw[hl,hlen]
  exact zyg hlib
theorem EvL.clone{k:List K}{d:Option Nat}{xs:List X}{g:Option (Nat×Bool)}{l:List O}{t:Bool}{zs ys:List Int}(hg:zfk 8 zs=some ys)(hw:zbn S.env g=some true)(hx:zhi S.env xs=some [fzE t (eI .i64) zs])
  (hk:wp mC k0 (.ops bar e l :: k) (LSt.put ⟨S.N,S.env,S.heap ++ [.els 1 (ys.map ((eI .i64).c true))]⟩ d (.sl S.heap.length 0 1 ys.length none ys.length)) Q):EvL mC k0 (.ops bar e (⟨d,.call 25 xs,g⟩:: l):: k) S Q:=
 EvL.call (Qp1:=λ_ _=>False) hw hx (zqm hg _) (λr L' h=>by obtain⟨rfl,rfl⟩:=h; exact hk) λ_ _ h=>h.elim
end
end Go.Dc
