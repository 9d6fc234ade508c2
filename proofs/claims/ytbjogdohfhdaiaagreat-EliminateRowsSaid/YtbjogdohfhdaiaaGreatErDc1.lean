/-
 Typed values as trees: encoders; what the operations on lists come to. Conditions: none.
-/
import Derived.Test.YtbjogdohfhdaiaaGreatErJ30
set_option linter.unusedSimpArgs false
set_option linter.unusedVariables false
namespace Go.Dc
open Go Go.Mx Go.Lx
abbrev dI(n:Int):D:=.lit (.int .i64 n)
abbrev dU(n:Int):D:=.lit (.int .u64 n)
abbrev dU8(n:Int):D:=.lit (.int .u8 n)
abbrev dB(b:Bool):D:=.lit (.bool b)
abbrev w64(n:Int):Int:=IntKind.i64.wrap n
abbrev zez:D:=.lit (.slice none 0 0)
structure En (α:Type) where
 n:Nat
 c:Bool->α->List D
 pos:0<n
 len:∀ t x,(c t x).length=n
 snp:∀ {L:List LB} {t t':Bool} x,(t'=true->t=true)->Snps L t' (c t x) (c t' x)
 mz:∀ {L:List LB} {F:Nat->Bool} {s t1 t2:Bool} x,(s=true\/t2=true->t1=true)->∀(i:Nat) d d',(c t1 x)[i]? = some d->(c t2 x)[i]? = some d'->Mz L F s d d'
 fr:∀ x,D.frs (c false x)
 kin:∀ kp t x,D.zjh kp (c t x)
variable {α β γ:Type}
def fzE(t:Bool)(e:En α)(xs:List α):D:=.fz t e.n (xs.map (e.c t))
theorem zmW{α:Type}{a b d d':α}{i:Nat}(h1:[a][i]? = some d)(h2:[b][i]? = some d'):d=a/\d'=b:=by
 grind
variable{xs:List α}
theorem zd4{f g:α->β}{i:Nat}{y z:β}(h1:(xs.map f)[i]? = some y)(h2:(xs.map g)[i]? = some z):∃ x,xs[i]? = some x/\y=f x/\z=g x:=by
 grind
theorem zeg{L:List LB}{t t':Bool}(e:En α)(xs:List α)(h:t'=true->t=true):Snp L t' (fzE t e xs) (fzE t' e xs):=by
 refine .fz h (by simp) (λi cells cells' h1 h2=>?_) λi k cells cells' d d' h1 h2 h3 h4=>?_
 .obtain⟨x,_,rfl,rfl⟩:=zd4 h1 h2;rw[e.len,e.len]
 obtain⟨x,_,rfl,rfl⟩:=zd4 h1 h2;exact(e.snp x h).get k d d' h3 h4
theorem zdw{L:List LB}{F:Nat->Bool}{s t1 t2:Bool}(e:En α)(xs:List α)(h:s=true\/t2=true->t1=true):Mz L F s (fzE t1 e xs) (fzE t2 e xs):=by
 refine .fz h (by simp) (λi cells cells' h1 h2=>?_) λi k cells cells' d d' h1 h2 h3 h4=>?_
 .obtain⟨x,_,rfl,rfl⟩:=zd4 h1 h2;rw[e.len,e.len]
 obtain⟨x,_,rfl,rfl⟩:=zd4 h1 h2;refine e.mz x (λhx=>h ?_) k d d' h3 h4<;>simp_all
theorem zxl{f:α->List D}(h:∀ x,D.frs (f x)):D.zFF (xs.map f):=zsW f λx _=>h x
theorem zb0(e:En α)(xs:List α):(fzE false e xs).fr:=⟨rfl,zxl e.fr⟩
def eI(k:IntKind):En Int where
 n:=1
 c _ x:=[.lit (.int k x)]
 pos:=by simp
 len _ _:=rfl
 snp x _:=.cons (.lit _) .nil
 mz x _ i d d' h1 h2:=by obtain⟨rfl,rfl⟩:=zmW h1 h2; exact .lit _
 fr _:=⟨qds,qds⟩
 kin _ _ _:=⟨qds,qds⟩
def eB:En Bool where
 n:=1
 c _ x:=[.lit (.bool x)]
 pos:=by simp
 len _ _:=rfl
 snp x _:=.cons (.lit _) .nil
 mz x _ i d d' h1 h2:=by obtain⟨rfl,rfl⟩:=zmW h1 h2; exact .lit _
 fr _:=⟨qds,qds⟩
 kin _ _ _:=⟨qds,qds⟩
def eL(e:En α):En (List α) where
 n:=1
 c t x:=[fzE t e x]
 pos:=by simp
 len _ _:=rfl
 snp x h:=.cons (zeg e x h) .nil
 mz x h i d d' h1 h2:=by obtain⟨rfl,rfl⟩:=zmW h1 h2; exact zdw e x h
 fr x:=⟨zb0 e x,qds⟩
 kin _ _ _:=⟨qds,qds⟩
theorem zze{L:List LB}{t:Bool}{a a' b b':List D}(h1:Snps L t a a')(h2:Snps L t b b'):Snps L t (a ++ b) (a' ++ b'):=by
 induction h1 with
 | nil=>exact h2
 | cons h _ ih=>exact .cons h ih
theorem zrO{kp:Nat->Bool}:∀ {a b:List D},D.zjh kp a->D.zjh kp b->D.zjh kp (a ++ b)
 | [],b,_,h=>h
 | x :: r,b,h1,h2=>⟨h1.1,zrO h1.2 h2⟩
def eP(e:En α)(g:En β):En (α×β) where
 n:=e.n+g.n
 c t x:=e.c t x.1 ++ g.c t x.2
 pos:=qb2 e.pos (Nat.le_add_right _ _)
 len t x:=by simp[e.len,g.len]
 snp x h:=zze (e.snp x.1 h) (g.snp x.2 h)
 mz {L F s t1 t2} x h i d d' h1 h2:=by
  by_cases hi:i<e.n
  .rw[qar (by rw[e.len]; exact hi)]at h1 h2;exact e.mz x.1 h i d d' h1 h2
  rw[qaV (by rw[e.len]; omega),e.len]at h1 h2;exact g.mz x.2 h _ d d' h1 h2
 fr x:=zwI (e.fr x.1) (g.fr x.2)
 kin kp t x:=zrO (e.kin kp t x.1) (g.kin kp t x.2)
def eM(f:β->α)(e:En α):En β where
 n:=e.n
 c t x:=e.c t (f x)
 pos:=e.pos
 len t x:=e.len t _
 snp x h:=e.snp _ h
 mz x h i d d' h1 h2:=e.mz _ h i d d' h1 h2
 fr x:=e.fr _
 kin kp t x:=e.kin kp t _
theorem zHR(k:IntKind)(t:Bool)(x:Int):(eI k).c t x=[.lit (.int k x)]:=rfl
theorem zHM(t:Bool)(x:Bool):eB.c t x=[.lit (.bool x)]:=rfl
theorem zHh(e:En α)(t:Bool)(x:List α):(eL e).c t x=[fzE t e x]:=rfl
def zaE(xs:List α)(i:Int):Option α:=if 0<=i then xs[i.toNat]? else none
variable{i:Int}
theorem za2{x:α}(h:zaE xs i=some x):0<=i:=by
 grind [zaE]
theorem zj0{x:α}(h:zaE xs i=some x):xs[i.toNat]? = some x:=by
 grind [zaE]
theorem zeh{x:α}(h:zaE xs i=some x):i<xs.length:=by
 grind [zaE]
theorem zcn{x:α}(h:zaE xs i=some x)(f:α->β):(xs.map f)[i.toNat]? = some (f x):=by
 rw[qa6,zj0 h]; rfl
theorem znp{k:Nat}(h:k<xs.length):zaE xs (k:Int)=some xs[k]:=by simp[zaE,h]
theorem zbN(L:List LB)(t:Bool)(e:En α)(xs:List α):zy8 L (fzE t e xs)=some (dI xs.length):=by simp[fzE,zy8]
variable{e:En α}
theorem zaz{n:Nat}(hn:n=e.n){x:α}(h:zaE xs i=some x)(L:List LB)(t:Bool):zy6 L n i (fzE t e xs)=some (.fptr t (e.c t x)):=by
 grind [fzE,zy6,zaE]
theorem zmX{n:Nat}(hn:n=e.n)(xs:List α)(L:List LB)(t:Bool):zp6 L n (fzE t e xs)=some (xs.map (e.c t)):=by
 simp only[fzE,zp6];rw[if_pos hn]
theorem zcK(t:Bool)(e:En α)(xs:List α):D.cells (fzE t e xs)=some [fzE t e xs]:=rfl
def zev(xs:List α)(lo hi:Int):Option (List α):=if 0<=lo/\lo<=hi/\hi<=xs.length then some ((xs.drop lo.toNat).take (hi.toNat - lo.toNat))else none
variable{ys:List α}
theorem zxa{lo hi:Int}(h:zev xs lo hi=some ys):(0<=lo/\lo<=hi/\hi<=xs.length)/\ys=(xs.drop lo.toNat).take (hi.toNat - lo.toNat):=by
 grind [zev]
theorem zuz{n:Nat}(hn:n=e.n){lo hi:Option Int}(h:zev xs (lo.getD 0) (hi.getD xs.length)=some ys)(L:List LB)(t:Bool):zul L n lo hi none (fzE t e xs)=some (fzE t e ys):=by
 obtain⟨⟨h1,h2,h3⟩,rfl⟩:=zxa h;subst hn;simp only[fzE,zul];rw[if_pos trivial];simp[zDC,bounds,ziV,h1,h2,h3]
theorem zAn{n:Nat}(hn:n=e.n){hi:Int}(h:zev xs 0 hi=some ys)(L:List LB)(t:Bool):zul L n none (some hi) none (fzE t e xs)=some (fzE t e ys):=zuz (lo:=none) (hi:=some hi) hn h L t
theorem zAg{n:Nat}(hn:n=e.n){lo:Int}(h:zev xs lo xs.length=some ys)(L:List LB)(t:Bool):zul L n (some lo) none none (fzE t e xs)=some (fzE t e ys):=zuz (lo:=some lo) (hi:=none) hn h L t
def zeT(xs:List α)(i:Int)(v:α):Option (List α):=if 0<=i/\i<xs.length then some (xs.set i.toNat v)else none
variable{v:α}
theorem zmH(h:zeT xs i v=some ys):(0<=i/\i<xs.length)/\ys=xs.set i.toNat v:=by
 grind [zeT]
theorem zaS(h:zeT xs i v=some ys):ys.length=xs.length:=by rw[(zmH h).2]; simp
theorem zd6(h:zeT xs i v=some ys)(f:α->β):(xs.map f).set i.toNat (f v)=ys.map f:=by rw[(zmH h).2,qcD]
def zdE(b:Nat)(xs ys:List α):Option (List α):=if(xs.length+ys.length)* b<=zah then some (xs ++ ys)else none
variable{b:Nat}{zs:List α}
theorem zki(h:zdE b xs ys=some zs):(xs.length+ys.length)* b<=zah/\zs=xs ++ ys:=by
 grind [zdE]
theorem zdW(h:zdE b xs ys=some zs)(f:α->β):xs.map f ++ ys.map f=zs.map f:=by rw[(zki h).2,qba]
theorem zfB(h:zdE b xs ys=some zs):xs.length+ys.length=zs.length:=by rw[(zki h).2,qaz]
theorem zb9(h:zdE b xs ys=some zs):zs.length * b<=zah:=by rw[<- zfB h]; exact(zki h).1
def zd7(b:Nat)(n:Int)(z:α):Option (List α):=if 0<=n/\n * b<=zah then some (List.replicate n.toNat z)else none
variable{n:Int}
theorem zar{z:α}(h:zd7 b n z=some zs):(0<=n/\n * b<=zah)/\zs=List.replicate n.toNat z:=by
 grind [zd7]
theorem zfF{z:α}(h:zd7 b n z=some zs)(f:α->β):List.replicate n.toNat (f z)=zs.map f:=by rw[(zar h).2,qcx]
theorem zbh{z:α}(h:zd7 b n z=some zs):zs.length=n.toNat:=by rw[(zar h).2,qcc]
theorem zuO(h:zeT xs i v=some ys):zaE ys i=some v:=by
 grind [zaE,zeT]
def zex(b:Nat)(ys:List α):Option (List α):=if ys.length * b<=zah then some ys else none
theorem zkM(h:zex b ys=some zs):ys.length * b<=zah:=by
 grind [zex]
theorem zuB(h:zex b ys=some zs):zs=ys:=by
 grind [zex]
abbrev zmI(x y:Int):Int:=if y<x then y else x
abbrev zly(x y:Int):Int:=if y > x then y else x
theorem zHW(m n:Int):(m != n)=!(m == n):=rfl
def zkp(k:IntKind)(m n:Int):Option Int:=bif n == 0 then none else some (k.wrap (m.tdiv n))
def zp3(m n:Int):Option Int:=bif n == 0 then none else some (m.tmod n)
variable{k:IntKind}{m r:Int}
theorem zfe(h:zkp k m n=some r):(n == 0)=false:=by
 grind [zkp]
theorem zfg(h:zkp k m n=some r):k.wrap (m.tdiv n)=r:=by
 grind [zkp]
theorem zhy(h:zp3 m n=some r):(n == 0)=false:=by
 grind [zp3]
theorem zgD(h:zp3 m n=some r):m.tmod n=r:=by
 grind [zp3]
def zpp(k:IntKind)(m n:Int):Option Int:=if 0<=n then some (k.wrap (m * 2 ^ (min n.toNat k.bits)))else none
def ziN(k:IntKind)(m n:Int):Option Int:=if 0<=n then some (m.fdiv (2 ^ (min n.toNat k.bits)))else none
theorem zbK(h:zpp k m n=some r):0<=n/\k.wrap (m * 2 ^ (min n.toNat k.bits))=r:=by
 grind [zpp]
theorem zaX(h:ziN k m n=some r):0<=n/\m.fdiv (2 ^ (min n.toNat k.bits))=r:=by
 grind [ziN]
abbrev ziv(k:IntKind)(m n:Int):Int:=k.wrap (BitVec.ofInt k.bits m &&& BitVec.ofInt k.bits n).toNat
abbrev orI(k:IntKind)(m n:Int):Int:=k.wrap (BitVec.ofInt k.bits m ||| BitVec.ofInt k.bits n).toNat
abbrev zBd(k:IntKind)(m n:Int):Int:=k.wrap (BitVec.ofInt k.bits m &&& ~~~ BitVec.ofInt k.bits n).toNat
theorem bind_some{α β:Type}{o:Option α}{f:α->Option β}{b:β}(h:o.bind f=some b):∃ a,o=some a/\f a=some b:=by
 cases o<;>simp_all
inductive Out (α ρ:Type) where
 | go (a:α)
 | ret (r:ρ)
section
variable {L:List LB} {t t':Bool} {F:Nat->Bool}
variable{n st:Nat}
theorem zlb{L:List LB}{β:Nat}{es:List (List D)}(h:L[β]? = some (.els n es)\/L[β]? = some (.grow n es))(hs:st=es.length):zgP L β n st=some es:=by
 grind [zgP]
variable{cap:Option Nat}{e:En α}{xs:List α}
theorem znB{β len:Nat}(hn:n=e.n)(he:L[β]? = some (.els n (xs.map (e.c t)))\/L[β]? = some (.grow n (xs.map (e.c t))))(hs:st=xs.length)(hl:len=xs.length)(hc:∀ k,cap=some k->len<=k)(h:t'=true->t=true):Snp L t' (.sl β 0 n len cap st) (fzE t' e xs):=by
 subst hn;refine .sl (zlb he (by simpa using hs)) (by simp[hl]) hc (by simp[hl]) (λi cells cells' h1 h2=>?_) λi k cells cells' d d' h1 h2 h3 h4=>?_
 .rw[qaO]at h1;obtain⟨x,_,rfl,rfl⟩:=zd4 h1 h2;rw[e.len,e.len]
 rw[qaO]at h1;obtain⟨x,_,rfl,rfl⟩:=zd4 h1 h2;exact(e.snp x h).get k d d' h3 h4
variable{s:Bool}
theorem zkX{β len:Nat}(hF:F β=true)(hn:n=e.n)(he:L[β]? = some (.els n (xs.map (e.c t)))\/L[β]? = some (.grow n (xs.map (e.c t))))(hs:st=xs.length)(hl:len=xs.length)(hc:∀ k,cap=some k->len<=k)(h:s=true\/t'=true->t=true):Mz L F s (.sl β 0 n len cap st) (fzE t' e xs):=by
 subst hn;refine .sl hF (zlb he (by simpa using hs)) (by simp[hl]) hc (by simp[hl]) (λi cells cells' h1 h2=>?_) λi k cells cells' d d' h1 h2 h3 h4=>?_
 .rw[qaO]at h1;obtain⟨x,_,rfl,rfl⟩:=zd4 h1 h2;rw[e.len,e.len]
 rw[qaO]at h1;obtain⟨x,_,rfl,rfl⟩:=zd4 h1 h2;refine e.mz x (λhx=>h ?_) k d d' h3 h4<;>simp_all
theorem zhu(e:En α):Snp L t' zez (fzE t' e []):=.nil _
theorem zjm(e:En α):Mz L F s zez (fzE t' e []):=.nil
variable{aS:List Lx.Act}{E r:List (Nat×D)}{k:Nat}
theorem ms{d:D}(h:lk E k=some d)(hk:d.kin (isK aS))(hr:MEs L aS E r):MEs L aS E ((k,d):: r):=⟨⟨d,h,.same hk⟩,hr⟩
theorem mf{d d':D}(h:lk E k=some d)(hk:Mz L (isF aS) false d d')(hr:MEs L aS E r):MEs L aS E ((k,d'):: r):=⟨⟨d,h,.fr hk⟩,hr⟩
theorem mx{d d':D}(h:lk E k=some d)(hk:Mo L (isF aS) (isK aS) d d')(hr:MEs L aS E r):MEs L aS E ((k,d'):: r):=⟨⟨d,h,hk⟩,hr⟩
inductive Mos (L:List LB) (F kp:Nat->Bool):List D->List D->Prop
 | nil:Mos L F kp [] []
 | cons {d d' ds ds'}:Mo L F kp d d'->Mos L F kp ds ds'->Mos L F kp (d :: ds) (d' :: ds')
variable{kp:Nat->Bool}{ds ds':List D}
theorem Mos.len(h:Mos L F kp ds ds'):ds.length=ds'.length:=by induction h with | nil=>rfl | cons _ _ ih=>simp[ih]
theorem Mos.get(h:Mos L F kp ds ds'):∀(i:Nat) d d',ds[i]? = some d->ds'[i]? = some d'->Mo L F kp d d':=by
 induction h<;>grind
theorem MB.zE3(h:Mos L F kp ds ds'):MB L F kp (.cells ds) (.cells ds'):=.cells h.len h.get
theorem zeM(e:En α)(kp:Nat->Bool)(t:Bool)(xs:List α):∀ cells,cells∈xs.map (e.c t)->D.zjh kp cells:=by
 intro cells h;obtain⟨x,_,rfl⟩:=qaH.1 h;exact e.kin kp t x
inductive Mt (L:List LB) (F kp:Nat->Bool):List (List D)->List (List D)->Prop
 | nil:Mt L F kp [] []
 | cons {x x':List D} {r r':List (List D)}:Mos L F kp x x'->Mt L F kp r r'->Mt L F kp (x :: r) (x' :: r')
variable{a b:List (List D)}
theorem Mt.len(h:Mt L F kp a b):a.length=b.length:=by induction h with | nil=>rfl | cons _ _ ih=>simp[ih]
theorem Mt.get{kp:Nat->Bool}{a b:List (List D)}(h:Mt L F kp a b):∀(i:Nat) x x',a[i]? = some x->b[i]? = some x'->x.length=x'.length/\∀(j:Nat) d d',x[j]? = some d->x'[j]? = some d'->Mo L F kp d d':=by
 induction h with
 | nil=>intro i d d' h1; simp at h1
 | cons h1 _ ih=>
  intro i d d' g1 g2;cases i with
  | zero=>simp at g1 g2; subst g1; subst g2; exact⟨h1.len,h1.get⟩
  | succ i=>grind
theorem Mos.kin{kp:Nat->Bool}:∀ {ds:List D},D.zjh kp ds->Mos L F kp ds ds
 | [],_=>.nil
 | _ :: _,h=>.cons (.same h.1) (Mos.kin h.2)
variable{c d:List (List D)}
theorem Mt.app(h1:Mt L F kp a b)(h2:Mt L F kp c d):Mt L F kp (a ++ c) (b ++ d):=by
 induction h1<;>grind [Mt]
theorem Mt.map{kp:Nat->Bool}(e:En α)(t:Bool):∀ xs:List α,Mt L F kp (xs.map (e.c t)) (xs.map (e.c t))
 | []=>.nil
 | x :: r=>.cons (Mos.kin (e.kin kp t x)) (Mt.map e t r)
theorem zAd{kp:Nat->Bool}{e:En α}{t:Bool}{z:α}{cells:List D}(h:Mos L F kp cells (e.c t z)):∀ k:Nat,Mt L F kp (List.replicate k cells) ((List.replicate k z).map (e.c t))
 | 0=>.nil
 | k+1=>.cons h (zAd h k)
theorem zCF{b:Nat}{n:Int}{t:Bool}{z:α}{zs:List α}{cells:List D}(g:zd7 b n z=some zs)(h:Mos L F kp cells (e.c t z)):Mt L F kp (List.replicate n.toNat cells) (zs.map (e.c t)):=by
 rw[(zar g).2];exact zAd h _
theorem MB.zE9(h:Mt L F kp a b):MB L F kp (.grow n a) (.grow n b):=.grow h.len h.get
theorem MB.zHj(h:Mt L F kp a b):MB L F kp (.els n a) (.els n b):=.els h.len h.get
theorem zuX{i:Int}{x:α}(h:zaE xs i=some x)(f:α->β){ys:List β}(hy:ys=xs.map f):ys[i.toNat]? = some (f x):=by rw[hy]; exact zcn h f
inductive Pw (P:D->D->Prop):List (List D)->List (List D)->Prop
 | nil:Pw P [] []
 | cons {x x':List D} {r r':List (List D)}:x.length=x'.length->(∀(j:Nat) d d',x[j]? = some d->x'[j]? = some d'->P d d')->Pw P r r'->Pw P (x :: r) (x' :: r')
variable{P:D->D->Prop}
theorem Pw.len(h:Pw P a b):a.length=b.length:=by induction h with | nil=>rfl | cons _ _ _ ih=>simp[ih]
theorem Pw.get(h:Pw P a b):∀(i:Nat) x x',a[i]? = some x->b[i]? = some x'->x.length=x'.length/\∀(j:Nat) d d',x[j]? = some d->x'[j]? = some d'->P d d':=by
 induction h<;>grind
theorem Pw.app(h1:Pw P a b)(h2:Pw P c d):Pw P (a ++ c) (b ++ d):=by
 induction h1<;>grind [Pw]
theorem Pw.map{P:D->D->Prop}{f g:α->List D}(h:∀ x,(f x).length=(g x).length/\∀(j:Nat) d d',(f x)[j]? = some d->(g x)[j]? = some d'->P d d'):∀ xs:List α,Pw P (xs.map f) (xs.map g)
 | []=>.nil
 | x :: r=>.cons (h x).1 (h x).2 (Pw.map h r)
theorem zvp{t t':Bool}(e:En α)(h:t'=true->t=true)(xs:List α):Pw (Snp L t') (xs.map (e.c t)) (xs.map (e.c t')):=Pw.map (λx=>⟨by rw[e.len,e.len],(e.snp x h).get⟩) xs
theorem zww{t:Bool}{x x':List D}{r r':List (List D)}(h:Snps L t x x')(hr:Pw (Snp L t) r r'):Pw (Snp L t) (x :: r) (x' :: r'):=.cons h.len h.get hr
theorem zne{β len:Nat}{els:List (List D)}(hn:n=e.n)(he:L[β]? = some (.els n els)\/L[β]? = some (.grow n els))(hs:st=els.length)(hl:len=els.length)(hc:∀ k,cap=some k->len<=k)(h:Pw (Snp L t') els (xs.map (e.c t'))):Snp L t' (.sl β 0 n len cap st) (fzE t' e xs):=by
 subst hn;have hlen:=h.len;refine .sl (zlb he hs) (by simp[hl]) hc (by rw[hl]; exact hlen) (λi cells cells' h1 h2=>?_) λi k cells cells' d d' h1 h2 h3 h4=>?_
 .rw[qaO]at h1; exact(h.get i _ _ h1 h2).1
 rw[qaO]at h1; exact(h.get i _ _ h1 h2).2 k d d' h3 h4
inductive Zs (L:List LB) (F:Nat->Bool) (s:Bool):List D->List D->Prop
 | nil:Zs L F s [] []
 | cons {d d' ds ds'}:Mz L F s d d'->Zs L F s ds ds'->Zs L F s (d :: ds) (d' :: ds')
theorem Zs.len(h:Zs L F s ds ds'):ds.length=ds'.length:=by induction h with | nil=>rfl | cons _ _ ih=>simp[ih]
theorem Zs.get(h:Zs L F s ds ds'):∀(i:Nat) d d',ds[i]? = some d->ds'[i]? = some d'->Mz L F s d d':=by
 induction h<;>grind
theorem MB.cs(h:D.zjh kp ds):MB L F kp (.cells ds) (.cells ds):=.same h
theorem MB.es(e:En α)(t:Bool)(xs:List α):MB L F kp (.els n (xs.map (e.c t))) (.els n (xs.map (e.c t))):=.same (zeM e kp t xs)
theorem MB.gs(e:En α)(t:Bool)(xs:List α):MB L F kp (.grow n (xs.map (e.c t))) (.grow n (xs.map (e.c t))):=.same (zeM e kp t xs)
inductive Mzs (L:List LB) (F:Nat->Bool):List D->List D->Prop
 | nil:Mzs L F [] []
 | cons {d d' ds ds'}:Mz L F false d d'->Mzs L F ds ds'->Mzs L F (d :: ds) (d' :: ds')
theorem Mzs.len(h:Mzs L F ds ds'):ds.length=ds'.length:=by induction h with | nil=>rfl | cons _ _ ih=>simp[ih]
theorem Mzs.get(h:Mzs L F ds ds'):∀(i:Nat) d d',ds[i]? = some d->ds'[i]? = some d'->Mz L F false d d':=by
 induction h<;>grind
theorem Mzs.agg{ds ds':List D}(h:Mzs L F ds ds'):Mz L F false (.agg ds) (.agg ds'):=.agg h.len h.get
theorem zus{c:Cx}{H:zam}:c.zeK H (λ_=>false) (λ_=>true)=c:=by simp[Cx.zeK]
theorem EvL.fnS{fns:Mach}{k0:Nat}{Q:LX->LSt->Prop}{S:LSt}{bar e:Bool}{k:List K}{d:Option Nat}{f:Nat}{xs:List X}{g:Option (Nat×Bool)}{l:List O}{args:List D}{res:D}(hf:FnA fns f args res)(hw:zbB S.env g=some true)(hx:zhj S.env xs=some ds)(hz:Mzs S.heap (λ_=>false) ds args)(hfr:D.frs args)(hres:res.fr)(hk:wp fns k0 (.ops bar e l :: k) (LSt.put ⟨S.N,S.env,S.heap⟩ d res) Q):EvL fns k0 (.ops bar e (⟨d,.call f xs,g⟩:: l):: k) S Q:=by
 refine EvL.call (Qp1:=λ_ _=>False) hw hx (λc B H vs hH hB hr=>(hf.call hfr hres (zrn bar _) (λ_ _=>False)) c B H vs hH hB ⟨by rw[<- hz.len]; exact hr.1,λi d' v h1 h2=>?_⟩) (λr L' h=>by obtain⟨rfl,rfl⟩:=h; exact hk) λ_ _ h=>h.elim
 have hi:=(qab.1 h1).1;have hi0:ds[i]? = some (ds[i]'(by have:=hz.len; omega)):=qac _;have hm:=znM (kp:=λ_=>true) hH (hz.get i _ d' hi0 h1) (Und.refl c) (hr.2 i _ v hi0 h2);rw[zus]at hm;exact hm.zu7 hH.apart
end
end Go.Dc
