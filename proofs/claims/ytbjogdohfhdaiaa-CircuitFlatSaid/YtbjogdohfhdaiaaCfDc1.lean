/-
 Typed values as trees: encoders; what the operations on lists come to. Conditions: none.
-/
import Derived.Test.YtbjogdohfhdaiaaCfJ28
set_option linter.unusedSimpArgs false
set_option linter.unusedVariables false
namespace Go.Dc
open Go Go.Mx Go.Lx
abbrev dI(n:Int):D:=.lit (.int .i64 n)
abbrev dU(n:Int):D:=.lit (.int .u64 n)
abbrev dU8(n:Int):D:=.lit (.int .u8 n)
abbrev dB(b:Bool):D:=.lit (.bool b)
abbrev w64(n:Int):Int:=IntKind.i64.wrap n
abbrev zfy:D:=.lit (.slice none 0 0)
structure En (α:Type) where
 n:Nat
 c:Bool->α->List D
 pos:0<n
 len:∀ t x,(c t x).length=n
 snp:∀ {L:List LB} {t t':Bool} x,(t'=true->t=true)->Snps L t' (c t x) (c t' x)
 mz:∀ {L:List LB} {F:Nat->Bool} {s t1 t2:Bool} x,(s=true\/t2=true->t1=true)->∀(i:Nat) d d',(c t1 x)[i]? = some d->(c t2 x)[i]? = some d'->Mz L F s d d'
 fr:∀ x,D.frs (c false x)
 kin:∀ kp t x,D.zg5 kp (c t x)
variable {α β γ:Type}
def fzE(t:Bool)(e:En α)(xs:List α):D:=.fz t e.n (xs.map (e.c t))
theorem zhq{α:Type}{a b d d':α}{i:Nat}(h1:[a][i]? = some d)(h2:[b][i]? = some d'):d=a/\d'=b:=by
 cases i with
 | zero=>simp at h1 h2; exact⟨h1.symm,h2.symm⟩
 | succ i=>simp at h1
variable{xs:List α}
theorem zdg{f g:α->β}{i:Nat}{y z:β}(h1:(xs.map f)[i]? = some y)(h2:(xs.map g)[i]? = some z):∃ x,xs[i]? = some x/\y=f x/\z=g x:=by
 simp only[qaO,qam]at h1 h2;obtain⟨x,q1,rfl⟩:=h1;obtain⟨x',q2,rfl⟩:=h2;rw[q1]at q2;cases q2;exact⟨x,q1,rfl,rfl⟩
theorem zbL{L:List LB}{t t':Bool}(e:En α)(xs:List α)(h:t'=true->t=true):Snp L t' (fzE t e xs) (fzE t' e xs):=by
 refine .fz h (by simp) (λi cells cells' h1 h2=>?_) λi k cells cells' d d' h1 h2 h3 h4=>?_
 .obtain⟨x,_,rfl,rfl⟩:=zdg h1 h2;rw[e.len,e.len]
 obtain⟨x,_,rfl,rfl⟩:=zdg h1 h2;exact(e.snp x h).get k d d' h3 h4
theorem zms{L:List LB}{F:Nat->Bool}{s t1 t2:Bool}(e:En α)(xs:List α)(h:s=true\/t2=true->t1=true):Mz L F s (fzE t1 e xs) (fzE t2 e xs):=by
 refine .fz h (by simp) (λi cells cells' h1 h2=>?_) λi k cells cells' d d' h1 h2 h3 h4=>?_
 .obtain⟨x,_,rfl,rfl⟩:=zdg h1 h2;rw[e.len,e.len]
 obtain⟨x,_,rfl,rfl⟩:=zdg h1 h2;refine e.mz x (λhx=>h ?_) k d d' h3 h4;rcases hx with hx | hx
 .cases s with
  | true=>exact .inl rfl
  | false=>exact .inr (by simpa using hx)
 exact .inr hx
theorem ztv{f:α->List D}(h:∀ x,D.frs (f x)):D.zz3 (xs.map f):=zpE f λx _=>h x
theorem zgz(e:En α)(xs:List α):(fzE false e xs).fr:=⟨rfl,ztv e.fr⟩
def eI(k:IntKind):En Int where
 n:=1
 c _ x:=[.lit (.int k x)]
 pos:=by simp
 len _ _:=rfl
 snp x _:=.cons (.lit _) .nil
 mz x _ i d d' h1 h2:=by obtain⟨rfl,rfl⟩:=zhq h1 h2; exact .lit _
 fr _:=⟨qdk,qdk⟩
 kin _ _ _:=⟨qdk,qdk⟩
def eB:En Bool where
 n:=1
 c _ x:=[.lit (.bool x)]
 pos:=by simp
 len _ _:=rfl
 snp x _:=.cons (.lit _) .nil
 mz x _ i d d' h1 h2:=by obtain⟨rfl,rfl⟩:=zhq h1 h2; exact .lit _
 fr _:=⟨qdk,qdk⟩
 kin _ _ _:=⟨qdk,qdk⟩
def eL(e:En α):En (List α) where
 n:=1
 c t x:=[fzE t e x]
 pos:=by simp
 len _ _:=rfl
 snp x h:=.cons (zbL e x h) .nil
 mz x h i d d' h1 h2:=by obtain⟨rfl,rfl⟩:=zhq h1 h2; exact zms e x h
 fr x:=⟨zgz e x,qdk⟩
 kin _ _ _:=⟨qdk,qdk⟩
theorem zww{L:List LB}{t:Bool}{a a' b b':List D}(h1:Snps L t a a')(h2:Snps L t b b'):Snps L t (a ++ b) (a' ++ b'):=by
 induction h1 with
 | nil=>exact h2
 | cons h _ ih=>exact .cons h ih
theorem zoR{kp:Nat->Bool}:∀ {a b:List D},D.zg5 kp a->D.zg5 kp b->D.zg5 kp (a ++ b)
 | [],b,_,h=>h
 | x :: r,b,h1,h2=>⟨h1.1,zoR h1.2 h2⟩
def eP(e:En α)(g:En β):En (α×β) where
 n:=e.n+g.n
 c t x:=e.c t x.1 ++ g.c t x.2
 pos:=qbb e.pos (qbQ _ _)
 len t x:=by simp[e.len,g.len]
 snp x h:=zww (e.snp x.1 h) (g.snp x.2 h)
 mz {L F s t1 t2} x h i d d' h1 h2:=by
  by_cases hi:i<e.n
  .rw[qaf (by rw[e.len]; exact hi)]at h1 h2;exact e.mz x.1 h i d d' h1 h2
  rw[qak (by rw[e.len]; omega),e.len]at h1 h2;exact g.mz x.2 h _ d d' h1 h2
 fr x:=zup (e.fr x.1) (g.fr x.2)
 kin kp t x:=zoR (e.kin kp t x.1) (g.kin kp t x.2)
def eM(f:β->α)(e:En α):En β where
 n:=e.n
 c t x:=e.c t (f x)
 pos:=e.pos
 len t x:=e.len t _
 snp x h:=e.snp _ h
 mz x h i d d' h1 h2:=e.mz _ h i d d' h1 h2
 fr x:=e.fr _
 kin kp t x:=e.kin kp t _
theorem zDf(k:IntKind)(t:Bool)(x:Int):(eI k).c t x=[.lit (.int k x)]:=rfl
theorem zDc(t:Bool)(x:Bool):eB.c t x=[.lit (.bool x)]:=rfl
theorem zBY(e:En α)(t:Bool)(x:List α):(eL e).c t x=[fzE t e x]:=rfl
def zaC(xs:List α)(i:Int):Option α:=if 0<=i then xs[i.toNat]? else none
variable{i:Int}{x:α}
theorem zaL(h:zaC xs i=some x):0<=i:=by
 unfold zaC at h;split at h
 .assumption
 cases h
theorem ziI(h:zaC xs i=some x):xs[i.toNat]? = some x:=by
 unfold zaC at h;split at h
 .exact h
 cases h
theorem zb3(h:zaC xs i=some x):i<xs.length:=by
 have h1:=(qab.1 (ziI h)).1;have h2:=zaL h;omega
theorem zaQ(h:zaC xs i=some x)(f:α->β):(xs.map f)[i.toNat]? = some (f x):=by
 rw[qaO,ziI h]; rfl
theorem zdy(h:zaC xs i=some x):x∈xs:=qay (ziI h)
theorem zlq{k:Nat}(h:k<xs.length):zaC xs (k:Int)=some xs[k]:=by simp[zaC,h]
theorem za1(L:List LB)(t:Bool)(e:En α)(xs:List α):zrp L (fzE t e xs)=some (dI xs.length):=by simp[fzE,zrp]
variable{e:En α}
theorem zao{n:Nat}(hn:n=e.n)(h:zaC xs i=some x)(L:List LB)(t:Bool):zvv L n i (fzE t e xs)=some (.fptr t (e.c t x)):=by
 simp only[fzE,zvv];rw[if_pos ⟨hn,zaL h⟩,zaQ h]
theorem zyw{n:Nat}(hn:n=e.n)(xs:List α)(L:List LB)(t:Bool):zpr L n (fzE t e xs)=some (xs.map (e.c t)):=by
 simp only[fzE,zpr];rw[if_pos hn]
theorem za6(t:Bool)(e:En α)(xs:List α):D.cells (fzE t e xs)=some [fzE t e xs]:=rfl
def ze8(xs:List α)(lo hi:Int):Option (List α):=if 0<=lo/\lo<=hi/\hi<=xs.length then some ((xs.drop lo.toNat).take (hi.toNat - lo.toNat))else none
variable{ys:List α}
theorem zsH{lo hi:Int}(h:ze8 xs lo hi=some ys):(0<=lo/\lo<=hi/\hi<=xs.length)/\ys=(xs.drop lo.toNat).take (hi.toNat - lo.toNat):=by
 unfold ze8 at h;split at h
 .cases h; exact⟨by assumption,rfl⟩
 cases h
theorem zuD{n:Nat}(hn:n=e.n){lo hi:Option Int}(h:ze8 xs (lo.getD 0) (hi.getD xs.length)=some ys)(L:List LB)(t:Bool):zrn L n lo hi none (fzE t e xs)=some (fzE t e ys):=by
 obtain⟨⟨h1,h2,h3⟩,rfl⟩:=zsH h;subst hn;simp only[fzE,zrn];rw[if_pos trivial];simp[zzz,bounds,zeS,h1,h2,h3]
theorem zAq{n:Nat}(hn:n=e.n){hi:Int}(h:ze8 xs 0 hi=some ys)(L:List LB)(t:Bool):zrn L n none (some hi) none (fzE t e xs)=some (fzE t e ys):=zuD (lo:=none) (hi:=some hi) hn h L t
theorem zAZ{n:Nat}(hn:n=e.n){lo:Int}(h:ze8 xs lo xs.length=some ys)(L:List LB)(t:Bool):zrn L n (some lo) none none (fzE t e xs)=some (fzE t e ys):=zuD (lo:=some lo) (hi:=none) hn h L t
def zd2(xs:List α)(i:Int)(v:α):Option (List α):=if 0<=i/\i<xs.length then some (xs.set i.toNat v)else none
theorem zoV{v:α}(h:zd2 xs i v=some ys):(0<=i/\i<xs.length)/\ys=xs.set i.toNat v:=by
 unfold zd2 at h;split at h
 .cases h; exact⟨by assumption,rfl⟩
 cases h
theorem za4{v:α}(h:zd2 xs i v=some ys):ys.length=xs.length:=by rw[(zoV h).2]; simp
theorem zbS{v:α}(h:zd2 xs i v=some ys)(f:α->β):(xs.map f).set i.toNat (f v)=ys.map f:=by rw[(zoV h).2,qct]
def zc2(b:Nat)(xs ys:List α):Option (List α):=if(xs.length+ys.length)* b<=zah then some (xs ++ ys)else none
variable{b:Nat}{zs:List α}
theorem ziG(h:zc2 b xs ys=some zs):(xs.length+ys.length)* b<=zah/\zs=xs ++ ys:=by
 unfold zc2 at h;split at h
 .cases h; exact⟨by assumption,rfl⟩
 cases h
theorem zdo(h:zc2 b xs ys=some zs)(f:α->β):xs.map f ++ ys.map f=zs.map f:=by rw[(ziG h).2,qb8]
theorem zfb(h:zc2 b xs ys=some zs):xs.length+ys.length=zs.length:=by rw[(ziG h).2,qav]
theorem zby(h:zc2 b xs ys=some zs):zs.length * b<=zah:=by rw[<- zfb h]; exact(ziG h).1
def zd5(b:Nat)(n:Int)(z:α):Option (List α):=if 0<=n/\n * b<=zah then some (List.replicate n.toNat z)else none
variable{n:Int}
theorem zaK{z:α}(h:zd5 b n z=some zs):(0<=n/\n * b<=zah)/\zs=List.replicate n.toNat z:=by
 unfold zd5 at h;split at h
 .cases h; exact⟨by assumption,rfl⟩
 cases h
theorem zcR{z:α}(h:zd5 b n z=some zs)(f:α->β):List.replicate n.toNat (f z)=zs.map f:=by rw[(zaK h).2,qcF]
theorem zbB{z:α}(h:zd5 b n z=some zs):zs.length=n.toNat:=by rw[(zaK h).2,List.length_replicate]
def zfk(b:Nat)(ys:List α):Option (List α):=if ys.length * b<=zah then some ys else none
theorem zmP(h:zfk b ys=some zs):ys.length * b<=zah:=by
 unfold zfk at h;split at h
 .assumption
 cases h
theorem zrX(h:zfk b ys=some zs):zs=ys:=by
 unfold zfk at h;split at h
 .cases h; rfl
 cases h
abbrev zfN(x y:Int):Int:=if y<x then y else x
abbrev zf8(x y:Int):Int:=if y > x then y else x
theorem zDe(m n:Int):(m != n)=!(m == n):=rfl
def zqO(k:IntKind)(m n:Int):Option Int:=bif n == 0 then none else some (k.wrap (m.tdiv n))
def znx(m n:Int):Option Int:=bif n == 0 then none else some (m.tmod n)
variable{k:IntKind}{m r:Int}
theorem zla(h:zqO k m n=some r):(n == 0)=false:=by
 unfold zqO at h;cases hn:(n == 0)with
 | true=>rw[hn]at h; cases h
 | false=>rfl
theorem znF(h:zqO k m n=some r):k.wrap (m.tdiv n)=r:=by
 unfold zqO at h;rw[zla h]at h;exact qal h
theorem zhe(h:znx m n=some r):(n == 0)=false:=by
 unfold znx at h;cases hn:(n == 0)with
 | true=>rw[hn]at h; cases h
 | false=>rfl
theorem zii(h:znx m n=some r):m.tmod n=r:=by
 unfold znx at h;rw[zhe h]at h;exact qal h
def zo9(k:IntKind)(m n:Int):Option Int:=if 0<=n then some (k.wrap (m * 2 ^ (min n.toNat k.bits)))else none
def zkk(k:IntKind)(m n:Int):Option Int:=if 0<=n then some (m.fdiv (2 ^ (min n.toNat k.bits)))else none
theorem zdj(h:zo9 k m n=some r):0<=n/\k.wrap (m * 2 ^ (min n.toNat k.bits))=r:=by
 unfold zo9 at h;split at h
 .cases h; exact⟨by assumption,rfl⟩
 cases h
theorem zbm(h:zkk k m n=some r):0<=n/\m.fdiv (2 ^ (min n.toNat k.bits))=r:=by
 unfold zkk at h;split at h
 .cases h; exact⟨by assumption,rfl⟩
 cases h
abbrev ziu(k:IntKind)(m n:Int):Int:=k.wrap (BitVec.ofInt k.bits m &&& BitVec.ofInt k.bits n).toNat
abbrev orI(k:IntKind)(m n:Int):Int:=k.wrap (BitVec.ofInt k.bits m ||| BitVec.ofInt k.bits n).toNat
abbrev zBP(k:IntKind)(m n:Int):Int:=k.wrap (BitVec.ofInt k.bits m &&& ~~~ BitVec.ofInt k.bits n).toNat
theorem bind_some{α β:Type}{o:Option α}{f:α->Option β}{b:β}(h:o.bind f=some b):∃ a,o=some a/\f a=some b:=by
 cases o with
 | none=>cases h
 | some a=>exact⟨a,rfl,h⟩
inductive Out (α ρ:Type) where
 | go (a:α)
 | ret (r:ρ)
section
variable {L:List LB} {t t':Bool} {F:Nat->Bool}
variable{n st:Nat}
theorem znV{L:List LB}{β:Nat}{es:List (List D)}(h:L[β]? = some (.els n es)\/L[β]? = some (.grow n es))(hs:st=es.length):zeg L β n st=some es:=by
 rcases h with h | h<;>simp[zeg,h,hs]
variable{cap:Option Nat}{e:En α}{xs:List α}
theorem zf5{β len:Nat}(hn:n=e.n)(he:L[β]? = some (.els n (xs.map (e.c t)))\/L[β]? = some (.grow n (xs.map (e.c t))))(hs:st=xs.length)(hl:len=xs.length)(hc:∀ k,cap=some k->len<=k)(h:t'=true->t=true):Snp L t' (.sl β 0 n len cap st) (fzE t' e xs):=by
 subst hn;refine .sl (znV he (by simpa using hs)) (by simp[hl]) hc (by simp[hl]) (λi cells cells' h1 h2=>?_) λi k cells cells' d d' h1 h2 h3 h4=>?_
 .rw[qaK]at h1;obtain⟨x,_,rfl,rfl⟩:=zdg h1 h2;rw[e.len,e.len]
 rw[qaK]at h1;obtain⟨x,_,rfl,rfl⟩:=zdg h1 h2;exact(e.snp x h).get k d d' h3 h4
variable{s:Bool}
theorem zo5{β len:Nat}(hF:F β=true)(hn:n=e.n)(he:L[β]? = some (.els n (xs.map (e.c t)))\/L[β]? = some (.grow n (xs.map (e.c t))))(hs:st=xs.length)(hl:len=xs.length)(hc:∀ k,cap=some k->len<=k)(h:s=true\/t'=true->t=true):Mz L F s (.sl β 0 n len cap st) (fzE t' e xs):=by
 subst hn;refine .sl hF (znV he (by simpa using hs)) (by simp[hl]) hc (by simp[hl]) (λi cells cells' h1 h2=>?_) λi k cells cells' d d' h1 h2 h3 h4=>?_
 .rw[qaK]at h1;obtain⟨x,_,rfl,rfl⟩:=zdg h1 h2;rw[e.len,e.len]
 rw[qaK]at h1;obtain⟨x,_,rfl,rfl⟩:=zdg h1 h2;refine e.mz x (λhx=>h ?_) k d d' h3 h4;rcases hx with hx | hx
 .cases s with
  | true=>exact .inl rfl
  | false=>exact .inr (by simpa using hx)
 exact .inr hx
theorem zhs(e:En α):Snp L t' zfy (fzE t' e []):=.nil _
theorem zuK(e:En α):Mz L F s zfy (fzE t' e []):=.nil
variable{as:List Lx.Act}{E r:List (Nat×D)}
theorem ms{k:Nat}{d:D}(h:lk E k=some d)(hk:d.kin (isK as))(hr:MEs L as E r):MEs L as E ((k,d):: r):=⟨⟨d,h,.same hk⟩,hr⟩
theorem mf{k:Nat}{d d':D}(h:lk E k=some d)(hk:Mz L (isF as) false d d')(hr:MEs L as E r):MEs L as E ((k,d'):: r):=⟨⟨d,h,.fr hk⟩,hr⟩
inductive Mos (L:List LB) (F kp:Nat->Bool):List D->List D->Prop
 | nil:Mos L F kp [] []
 | cons {d d' ds ds'}:Mo L F kp d d'->Mos L F kp ds ds'->Mos L F kp (d :: ds) (d' :: ds')
variable{kp:Nat->Bool}{ds ds':List D}
theorem Mos.len(h:Mos L F kp ds ds'):ds.length=ds'.length:=by induction h with | nil=>rfl | cons _ _ ih=>simp[ih]
theorem Mos.get(h:Mos L F kp ds ds'):∀(i:Nat) d d',ds[i]? = some d->ds'[i]? = some d'->Mo L F kp d d':=by
 induction h with
 | nil=>intro i d d' h1; simp at h1
 | cons h1 _ ih=>
  intro i d d' g1 g2;cases i with
  | zero=>simp at g1 g2; subst g1; subst g2; exact h1
  | succ i=>simp at g1 g2; exact ih i d d' g1 g2
theorem MB.zAx(h:Mos L F kp ds ds'):MB L F kp (.cells ds) (.cells ds'):=.cells h.len h.get
theorem zin(e:En α)(kp:Nat->Bool)(t:Bool)(xs:List α):∀ cells,cells∈xs.map (e.c t)->D.zg5 kp cells:=by
 intro cells h;obtain⟨x,_,rfl⟩:=qaJ.1 h;exact e.kin kp t x
inductive Mt (L:List LB) (F kp:Nat->Bool):List (List D)->List (List D)->Prop
 | nil:Mt L F kp [] []
 | cons {x x':List D} {r r':List (List D)}:Mos L F kp x x'->Mt L F kp r r'->Mt L F kp (x :: r) (x' :: r')
variable{a b:List (List D)}
theorem Mt.len(h:Mt L F kp a b):a.length=b.length:=by induction h with | nil=>rfl | cons _ _ ih=>simp[ih]
theorem Mt.get{kp:Nat->Bool}{a b:List (List D)}(h:Mt L F kp a b):∀(i:Nat) x x',a[i]? = some x->b[i]? = some x'->x.length=x'.length/\∀(j:Nat) d d',x[j]? = some d->x'[j]? = some d'->Mo L F kp d d':=by
 induction h with
 | nil=>intro i d d' h1; simp at h1
 | cons h1 _ ih=>
  intro i d d' g1 g2;cases i with
  | zero=>simp at g1 g2; subst g1; subst g2; exact⟨h1.len,h1.get⟩
  | succ i=>simp at g1 g2; exact ih i d d' g1 g2
theorem Mos.kin{kp:Nat->Bool}:∀ {ds:List D},D.zg5 kp ds->Mos L F kp ds ds
 | [],_=>.nil
 | _ :: _,h=>.cons (.same h.1) (Mos.kin h.2)
theorem Mt.map{kp:Nat->Bool}(e:En α)(t:Bool):∀ xs:List α,Mt L F kp (xs.map (e.c t)) (xs.map (e.c t))
 | []=>.nil
 | x :: r=>.cons (Mos.kin (e.kin kp t x)) (Mt.map e t r)
theorem MB.zDh(h:Mt L F kp a b):MB L F kp (.els n a) (.els n b):=.els h.len h.get
inductive Pw (P:D->D->Prop):List (List D)->List (List D)->Prop
 | nil:Pw P [] []
 | cons {x x':List D} {r r':List (List D)}:x.length=x'.length->(∀(j:Nat) d d',x[j]? = some d->x'[j]? = some d'->P d d')->Pw P r r'->Pw P (x :: r) (x' :: r')
variable{P:D->D->Prop}
theorem Pw.len(h:Pw P a b):a.length=b.length:=by induction h with | nil=>rfl | cons _ _ _ ih=>simp[ih]
theorem Pw.get(h:Pw P a b):∀(i:Nat) x x',a[i]? = some x->b[i]? = some x'->x.length=x'.length/\∀(j:Nat) d d',x[j]? = some d->x'[j]? = some d'->P d d':=by
 induction h with
 | nil=>intro i d d' h1; simp at h1
 | cons h1 h2 _ ih=>
  intro i d d' g1 g2;cases i with
  | zero=>simp at g1 g2; subst g1; subst g2; exact⟨h1,h2⟩
  | succ i=>simp at g1 g2; exact ih i d d' g1 g2
theorem Pw.map{P:D->D->Prop}{f g:α->List D}(h:∀ x,(f x).length=(g x).length/\∀(j:Nat) d d',(f x)[j]? = some d->(g x)[j]? = some d'->P d d'):∀ xs:List α,Pw P (xs.map f) (xs.map g)
 | []=>.nil
 | x :: r=>.cons (h x).1 (h x).2 (Pw.map h r)
theorem zhW{β len:Nat}{els:List (List D)}(hn:n=e.n)(he:L[β]? = some (.els n els)\/L[β]? = some (.grow n els))(hs:st=els.length)(hl:len=els.length)(hc:∀ k,cap=some k->len<=k)(h:Pw (Snp L t') els (xs.map (e.c t'))):Snp L t' (.sl β 0 n len cap st) (fzE t' e xs):=by
 subst hn;have hlen:=h.len;refine .sl (znV he hs) (by simp[hl]) hc (by rw[hl]; exact hlen) (λi cells cells' h1 h2=>?_) λi k cells cells' d d' h1 h2 h3 h4=>?_
 .rw[qaK]at h1; exact(h.get i _ _ h1 h2).1
 rw[qaK]at h1; exact(h.get i _ _ h1 h2).2 k d d' h3 h4
inductive Zs (L:List LB) (F:Nat->Bool) (s:Bool):List D->List D->Prop
 | nil:Zs L F s [] []
 | cons {d d' ds ds'}:Mz L F s d d'->Zs L F s ds ds'->Zs L F s (d :: ds) (d' :: ds')
theorem Zs.len(h:Zs L F s ds ds'):ds.length=ds'.length:=by induction h with | nil=>rfl | cons _ _ ih=>simp[ih]
theorem MB.cs(h:D.zg5 kp ds):MB L F kp (.cells ds) (.cells ds):=.same h
theorem MB.es(e:En α)(t:Bool)(xs:List α):MB L F kp (.els n (xs.map (e.c t))) (.els n (xs.map (e.c t))):=.same (zin e kp t xs)
theorem MB.gs(e:En α)(t:Bool)(xs:List α):MB L F kp (.grow n (xs.map (e.c t))) (.grow n (xs.map (e.c t))):=.same (zin e kp t xs)
inductive Mzs (L:List LB) (F:Nat->Bool):List D->List D->Prop
 | nil:Mzs L F [] []
 | cons {d d' ds ds'}:Mz L F false d d'->Mzs L F ds ds'->Mzs L F (d :: ds) (d' :: ds')
theorem Mzs.len(h:Mzs L F ds ds'):ds.length=ds'.length:=by induction h with | nil=>rfl | cons _ _ ih=>simp[ih]
theorem Mzs.get(h:Mzs L F ds ds'):∀(i:Nat) d d',ds[i]? = some d->ds'[i]? = some d'->Mz L F false d d':=by
 induction h with
 | nil=>intro i d d' h1; simp at h1
 | cons h1 _ ih=>
  intro i d d' g1 g2;cases i with
  | zero=>simp at g1 g2; subst g1; subst g2; exact h1
  | succ i=>simp at g1 g2; exact ih i d d' g1 g2
theorem Mzs.agg{ds ds':List D}(h:Mzs L F ds ds'):Mz L F false (.agg ds) (.agg ds'):=.agg h.len h.get
theorem zyz{c:Cx}{H:zaj}:c.zd0 H (λ_=>false) (λ_=>true)=c:=by simp[Cx.zd0]
theorem EvL.fnS{fns:Mach}{k0:Nat}{Q:LX->LSt->Prop}{S:LSt}{bar e:Bool}{k:List K}{d:Option Nat}{f:Nat}{xs:List X}{g:Option (Nat×Bool)}{l:List O}{args:List D}{res:D}(hf:FnA fns f args res)(hw:zbn S.env g=some true)(hx:zhi S.env xs=some ds)(hz:Mzs S.heap (λ_=>false) ds args)(hfr:D.frs args)(hres:res.fr)(hk:wp fns k0 (.ops bar e l :: k) (LSt.put ⟨S.N,S.env,S.heap⟩ d res) Q):EvL fns k0 (.ops bar e (⟨d,.call f xs,g⟩:: l):: k) S Q:=by
 refine EvL.call (Qp1:=λ_ _=>False) hw hx (λc B H vs hH hB hr=>(hf.call hfr hres (zoT bar _) (λ_ _=>False)) c B H vs hH hB ⟨by rw[<- hz.len]; exact hr.1,λi d' v h1 h2=>?_⟩) (λr L' h=>by obtain⟨rfl,rfl⟩:=h; exact hk) λ_ _ h=>h.elim
 have hi:=(qab.1 h1).1;have hi0:ds[i]? = some (ds[i]'(by have:=hz.len; omega)):=qac _;have hm:=zpZ (kp:=λ_=>true) hH (hz.get i _ d' hi0 h1) (Und.refl c) (hr.2 i _ v hi0 h2);rw[zyz]at hm;exact hm.zwM hH.apart
end
end Go.Dc
