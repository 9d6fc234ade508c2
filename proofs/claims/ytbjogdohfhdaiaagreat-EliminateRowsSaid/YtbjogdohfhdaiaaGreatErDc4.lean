/-
 Lists that are nil while they are empty; elements of lists of one's own that are opened. Conditions: none.
-/
import Derived.Test.YtbjogdohfhdaiaaGreatErDc3
set_option linter.unusedSimpArgs false
set_option linter.unusedVariables false
namespace Go.Dc
open Go Go.Mx Go.Lx
variable {α β γ:Type}
def nE(t:Bool)(e:En α):List α->D
 | []=>zez
 | x :: r=>fzE t e (x :: r)
theorem zAu(t:Bool)(e:En α){xs:List α}(h:xs.isEmpty=true):nE t e xs=zez:=by
 grind [nE]
theorem zFj{L:List LB}{t t':Bool}(e:En α)(xs:List α)(h:t'=true->t=true):Snp L t' (nE t e xs) (nE t' e xs):=by
 cases xs with
 | nil=>exact .lit _
 | cons x r=>exact zeg e _ h
theorem zqM{L:List LB}{t t':Bool}(e:En α)(xs:List α)(h:t'=true->t=true):Snp L t' (nE t e xs) (fzE t' e xs):=by
 cases xs with
 | nil=>exact .nil _
 | cons x r=>exact zeg e _ h
theorem zHo{L:List LB}{F:Nat->Bool}{s t1 t2:Bool}(e:En α)(xs:List α)(h:s=true\/t2=true->t1=true):Mz L F s (nE t1 e xs) (nE t2 e xs):=by
 cases xs with
 | nil=>exact .lit _
 | cons x r=>exact zdw e _ h
theorem zHA(e:En α)(xs:List α):(nE false e xs).fr:=by
 cases xs with
 | nil=>trivial
 | cons x r=>exact zb0 e _
theorem zpq(kp:Nat->Bool)(t:Bool)(e:En α)(xs:List α):(nE t e xs).kin kp:=by
 cases xs with
 | nil=>trivial
 | cons x r=>trivial
def eN(e:En α):En (List α) where
 n:=1
 c t x:=[nE t e x]
 pos:=by simp
 len _ _:=rfl
 snp x h:=.cons (zFj e x h) .nil
 mz x h i d d' h1 h2:=by obtain⟨rfl,rfl⟩:=zmW h1 h2; exact zHo e x h
 fr x:=⟨zHA e x,qds⟩
 kin kp t x:=⟨zpq kp t e x,qds⟩
section
variable {k0:Nat} {c:Cx} {L:List LB} {H:zam}
theorem ztv{vs:List V}{a m:Nat}(h:a+m<=vs.length):zbT vs a ((vs.drop a).take m)=vs:=by
 unfold zbT;rw[qbW,qct,qcm (by omega),qaE,<- List.drop_drop,qbZ,qbZ]
theorem zbi.zzX{N n m b i o:Nat}{E:List (Nat×D)}{L:List LB}{es:List (List D)}{cells:List D}(hn:0<n)(hb:L[b]? = some (.els m es))(hi:es[i]? = some cells)(ho:cells[o]? = some (.lit (.slice none 0 0))):
  zbi k0 ⟨N,E,L⟩ ⟨N,E,L.set b (.els m (es.set i (cells.set o (.sl L.length 0 n 0 none 0))))++ [.grow n []]⟩:=by
 intro c M h;obtain⟨g1,g2,g3⟩:=h.heap.new (x:=.ghost) (lb:=.grow n []) (o:=[]) (.inl ⟨rfl,rfl⟩) λc' hle hρ=>⟨hn,.inl ⟨rfl,hρ⟩⟩
 rw[qaP]at g1 g2;have hβ:b<L.length:=(qab.1 hb).1;have hil:=(qab.1 hi).1;refine⟨_,⟨λj d hj=>?_,h.len,⟨g1.base,g1.za,g1.zf,g1.own,g1.inj,λk x hx=>?_,λj lb hj=>?_⟩⟩,g2,g3.leK k0⟩
 .obtain⟨v,q1,q2⟩:=h.env j d hj;exact⟨v,q1,q2.mono g3⟩
 .grind [Go.Lx.RelH]
 by_cases hi':j=b
 .subst hi';rw[qar (by simpa using hβ),qa1 hβ]at hj;cases hj;obtain⟨q0,⟨qe,_⟩| ⟨bb,vs,q1,q2,q3⟩⟩:=g1.obj j (.els m es) (by rw[qar hβ]; exact hb)
  .subst qe; cases hi
  have hcl:=q3.len cells (qaC hi);have hrow:=q3.at_ hi;have hvl:=q3.zn9;have hroom:i * m+m<=vs.length:=by
   rw[hvl];have:(i+1)* m<=es.length * m:=qas m hil;rw[qaQ,qa2]at this;exact this
  have hnew:Rs (c.put L.length .ghost) (cells.set o (.sl L.length 0 n 0 none 0)) ((vs.drop (i * m)).take m):=by
   refine⟨by rw[qaw]; exact hrow.1,λk d v w1 w2=>?_⟩;rw[List.getElem?_set]at w1;split at w1
   .rename_i hk;subst hk;split at w1
    .cases w1;have:=hrow.2 o _ v ho w2;cases zob this;exact .slg (zbd _ _ _)
    cases w1
   exact hrow.2 k d v w1 w2
  refine⟨q0,.inr ⟨bb,vs,by rw[qaw]; exact q1,q2,?_⟩⟩;have:=q3.set hil (by rw[qaw]; exact hcl) hnew;rw[ztv hroom]at this;exact this
 grind [Go.Lx.RelH]
end
section
variable {L:List LB} {F kp:Nat->Bool}
variable{t:Bool}{n:Nat}{e:En α}{xs:List α}
theorem zxP{s t':Bool}{b st:Nat}(hF:F b=true)(hn:n=e.n)(he:L[b]? = some (.grow n (xs.map (e.c t))))(hs:st=xs.length)(h:s=true\/t'=true->t=true):Mz L F s (.sl b 0 n xs.length none st) (nE t' e xs):=by
 subst hs;cases xs with
 | nil=>exact .ghost he
 | cons x r=>grind [zkX,nE]
variable{a b:List (List D)}
theorem Mt.set{c d:List D}(h:Mt L F kp a b)(hc:Mos L F kp c d):∀ i:Nat,Mt L F kp (a.set i c) (b.set i d):=by
 induction h with
 | nil=>intro i; exact .nil
 | cons h1 h2 ih=>
  intro i;cases i with
  | zero=>exact .cons hc h2
  | succ i=>exact .cons h1 (ih i)
theorem MB.close{ys:List α}{i:Int}{y:α}{c:List D}(g:zeT xs i y=some ys)(hc:Mos L F kp c (e.c t y)):MB L F kp (.els n ((xs.map (e.c t)).set i.toNat c)) (.els n (ys.map (e.c t))):=by
 rw[<- zd6 g (e.c t)];exact MB.zHj (Mt.set (Mt.map e t xs) hc _)
theorem MB.opn{i:Nat}{c:List D}(h:D.zjh kp c):MB L F kp (.els n ((xs.map (e.c t)).set i c)) (.els n ((xs.map (e.c t)).set i c)):=MB.zHj (Mt.set (Mt.map e t xs) (Mos.kin h) i)
theorem Pw.set{P:D->D->Prop}{c d:List D}(h:Pw P a b)(h1:c.length=d.length)(h2:∀(j:Nat) x x',c[j]? = some x->d[j]? = some x'->P x x'):∀ i:Nat,Pw P (a.set i c) (b.set i d):=by
 induction h with
 | nil=>intro i; exact .nil
 | cons g1 g2 g3 ih=>
  intro i;cases i with
  | zero=>exact .cons h1 h2 g3
  | succ i=>exact .cons g1 g2 (ih i)
end
end Go.Dc
