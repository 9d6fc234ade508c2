/-
 Steps of walks, by default tactics. Conditions: none.
-/
import Derived.Test.YtbjogdohfhdaiaaCfDm
set_option linter.unusedVariables false
set_option linter.unusedSimpArgs false
namespace Go.Dc
open Go Go.Mx Go.Lx
variable{β:Type}
theorem bsM{α:Type}{o:Option α}{f:α->Option β}{r:β}(h:o.bind f=some r):∃ x,o=some x/\f x=some r:=bind_some h
def zCv(k:Nat):List (Nat×D)->D
 | []=>.any
 |(j,d):: r=>bif j == k then d else zCv k r
def zCs(E E':List (Nat×D)):List Nat->List (Nat×D)
 | []=>E'
 | k :: ks=>(k,zCv k E):: zCs E E' ks
def zCu(k:Nat):List Nat->Bool
 | []=>false
 | j :: r=>bif j == k then true else zCu k r
def zBN(E':List (Nat×D))(ks:List Nat):List (Nat×D)->List (Nat×D)
 | []=>E'
 |(j,d):: r=>bif zCu j ks then zBN E' ks r else(j,d):: zBN E' ks r
def zBT(X:List LB):List (Nat×LB)->List LB->List LB
 | [],L=>L ++ X
 |(i,b):: r,L=>zBT X r (L.set i b)
def uKM(S:LSt)(ks:List Nat)(E:List (Nat×D))(L:List (Nat×LB))(X:List LB):LSt:=⟨S.N,zCs S.env E ks,zBT X L S.heap⟩
def uDM(S:LSt)(ks:List Nat)(E:List (Nat×D))(L:List (Nat×LB))(X:List LB):LSt:=⟨S.N,zBN E ks S.env,zBT X L S.heap⟩
theorem zdD{α:Type}{T T':β->LSt}{f':α->LSt}(hT:T=T')(f:α->LSt)(e:T=T'->f=f':=by intro h; simp only[h,uKM,uDM,zCs,zBN,zCu,zCv,zBT,qbK,qbL,List.set,qbe,qaL,qaY,Nat.reduceBEq,qdl,qdm]; exact Eq.refl _):∃ T:α->LSt,T=f':=⟨f,e hT⟩
variable{xs:List Int}{i x:Int}
theorem ixM(h:zaC xs i=some x)(L:List LB)(t:Bool):zvv L 1 i (fzE t (eI .i64) xs)=some (.fptr t ((eI .i64).c t x)):=zao (n:=1) (e:=eI .i64) rfl h L t
variable{ys:List Int}
theorem siM(h:zd2 xs i x=some ys):(xs.map ((eI .i64).c true)).set i.toNat [dI x]=ys.map ((eI .i64).c true):=zbS h _
variable{b:Nat}
theorem piM(h:zc2 b xs [x]=some ys):xs.map ((eI .i64).c true)++ [[dI x]]=ys.map ((eI .i64).c true):=zdo h _
variable{n:Int}
theorem miM(h:zd5 b n x=some xs):List.replicate n.toNat [dI x]=xs.map ((eI .i64).c true):=zcR h ((eI .i64).c true)
theorem giM(h:zaC xs i=some x):(xs.map ((eI .i64).c true))[i.toNat]? = some [dI x]:=zaQ h _
theorem suM(h:zd2 xs i x=some ys):(xs.map ((eI .u64).c true)).set i.toNat [dU x]=ys.map ((eI .u64).c true):=zbS h _
theorem muM(h:zd5 b n x=some xs):List.replicate n.toNat [dU x]=xs.map ((eI .u64).c true):=zcR h ((eI .u64).c true)
theorem guM(h:zaC xs i=some x):(xs.map ((eI .u64).c true))[i.toNat]? = some [dU x]:=zaQ h _
theorem mbM(h:zd5 b n x=some xs):List.replicate n.toNat [dU8 x]=xs.map ((eI .u8).c true):=zcR h ((eI .u8).c true)
theorem ltM{xs:List β}{x:β}{n:Nat}(e:xs.length=n)(g:zaC xs i=some x):i<(n:Int):=e ▸ zb3 g
theorem plM{xs ys:List β}{x:β}(h:zc2 b xs [x]=some ys):xs.length+1=ys.length:=zfb h
def zzL:List LB->List Lx.Act
 | []=>[]
 | .gone :: r=>.d :: zzL r
 | _ :: r=>.k :: zzL r
variable{E E':List (Nat×D)}{L':List LB}
theorem wAM{N:Nat}{L:List LB}(hL:MBs L (zzL L') 0 L L':=by repeat' first | exact trivial | exact rfl | exact MB.cs (by repeat' first | exact trivial | exact rfl | refine⟨?_,?_⟩)| exact MB.es _ _ _ | exact MB.gs _ _ _ | refine⟨?_,?_⟩)(hE:MEs L (zzL L') E E':=by repeat' first | exact trivial | exact rfl | refine ms ?_ ?_ ?_ | refine⟨?_,?_⟩)(hl:zlY (zzL L') L'.length=true:=by rfl):zaT 0 ⟨N,E,L⟩ ⟨N,E',L'⟩:=zaT.m0 (zzL L') hl hE hL
def zyc:List LB->List Lx.Act
 | []=>[]
 | _ :: r=>.k :: zyc r
theorem zxr:∀ {L:List LB} {j:Nat},j<L.length->isK (zyc L) j=true
 | [],j,h=>nomatch h
 | b :: r,0,h=>rfl
 | b :: r,j+1,h=>zxr (L:=r) (Nat.lt_of_succ_lt_succ h)
theorem wKM{k0 N:Nat}{L:List LB}(hL:MBs L (zyc L') 0 L L':=by repeat' first | exact trivial | exact rfl | exact .same (hkin _ (λj hj=>zxr (qbb hj (qah rfl))))| exact MB.cs (by repeat' first | exact trivial | exact rfl | refine⟨?_,?_⟩)| exact MB.es _ _ _ | exact MB.gs _ _ _ | refine⟨?_,?_⟩)(hE:MEs L (zyc L') E E':=by repeat' first | exact trivial | exact rfl | refine ms ?_ ?_ ?_ | refine⟨?_,?_⟩)(hk:zwJ (zyc L') k0=true:=by rfl)(hl:zlY (zyc L') L'.length=true:=by rfl):zaT k0 ⟨N,E,L⟩ ⟨N,E',L'⟩:=zaT.mK (zyc L') hk hl hE hL
theorem zeV{α:Type}{T T':α->LSt}{o b:α}{k:Nat}{S:LSt}(j:some b=some o)(hT:T=T')(w:zaT k S (T' b):=by first | exact wAM | exact wKM):∃ a,a=o/\zaT k S (T a):=⟨b,qal j,hT ▸ w⟩
theorem zzG{α:Type}{T T':α->LSt}{o:Out α β}{b:α}{k:Nat}{S:LSt}(j:some (Out.go b)=some o)(hT:T=T')(w:zaT k S (T' b):=by first | exact wAM | exact wKM):∃ a,o=.go a/\zaT k S (T a):=⟨b,(qal j).symm,hT ▸ w⟩
theorem anM{P Q:Prop}(p:P)(q:Q):P/\Q:=⟨p,q⟩
theorem zdk{α:Type}{T T':α->LSt}{P:α->Prop}{k:Nat}{S:LSt}(hT:T=T')(a:α)(hp:P a)(w:zaT k S (T' a):=by first | exact wAM | exact wKM):∃ a,P a/\zaT k S (T a):=⟨a,hp,hT ▸ w⟩
section
variable {m:Mach} {k0:Nat} {k:List K} {S:LSt} {Q:LX->LSt->Prop} {A G G0 G1 Y:Prop} {α:Type} {T T':α->LSt}
theorem wSM(h:G)(e:wp m k0 k (some S) Q=G:=by(try simp only[rnA,Nat.reduceEqDiff,Nat.reduceLT,reduceCtorEq,Nat.reduceAdd,Nat.reduceLeDiff,Int.reduceBEq,Int.reduceLE,Int.reduceLT,Nat.reduceBEq,Nat.reduceMul,Nat.reduceSub,Int.reduceToNat,reduceIte,za1,za6]); exact Eq.refl _):EvL m k0 k S Q:=zab (e.mpr h)
theorem sSM(h:G)(e:A=G:=by(try simp only[rnA,Nat.reduceEqDiff,Nat.reduceLT,reduceCtorEq,Nat.reduceAdd,Nat.reduceLeDiff,Int.reduceBEq,Int.reduceLE,Int.reduceLT,Nat.reduceBEq,Nat.reduceMul,Nat.reduceSub,Int.reduceToNat,reduceIte,za1,za6]); exact Eq.refl _):A:=e.mpr h
theorem sXM(x:Y)(h:G)(e:Y->A=G:=by intro x; (try simp only[x,rnA,Nat.reduceEqDiff,Nat.reduceLT,reduceCtorEq,Nat.reduceAdd,Nat.reduceLeDiff,Int.reduceBEq,Int.reduceLE,Int.reduceLT,Nat.reduceBEq,Nat.reduceMul,Nat.reduceSub,Int.reduceToNat,reduceIte,za1,za6]); exact Eq.refl _):A:=(e x).mpr h
variable{Y1 Y2:Prop}
theorem zku(x1:Y1)(x2:Y2)(h:G)(e:Y1->Y2->A=G:=by intro x1 x2; (try simp only[x1,x2,rnA,Nat.reduceEqDiff,Nat.reduceLT,reduceCtorEq,Nat.reduceAdd,Nat.reduceLeDiff,Int.reduceBEq,Int.reduceLE,Int.reduceLT,Nat.reduceBEq,Nat.reduceMul,Nat.reduceSub,Int.reduceToNat,reduceIte,za1,za6]); exact Eq.refl _):A:=(e x1 x2).mpr h
variable{Y3:Prop}
theorem zu2(x1:Y1)(x2:Y2)(x3:Y3)(h:G)(e:Y1->Y2->Y3->A=G:=by intro x1 x2 x3; (try simp only[x1,x2,x3,rnA,Nat.reduceEqDiff,Nat.reduceLT,reduceCtorEq,Nat.reduceAdd,Nat.reduceLeDiff,Int.reduceBEq,Int.reduceLE,Int.reduceLT,Nat.reduceBEq,Nat.reduceMul,Nat.reduceSub,Int.reduceToNat,reduceIte,za1,za6]); exact Eq.refl _):A:=(e x1 x2 x3).mpr h
variable{Y4:Prop}
theorem zwN(x1:Y1)(x2:Y2)(x3:Y3)(x4:Y4)(h:G)(e:Y1->Y2->Y3->Y4->A=G:=by intro x1 x2 x3 x4; (try simp only[x1,x2,x3,x4,rnA,Nat.reduceEqDiff,Nat.reduceLT,reduceCtorEq,Nat.reduceAdd,Nat.reduceLeDiff,Int.reduceBEq,Int.reduceLE,Int.reduceLT,Nat.reduceBEq,Nat.reduceMul,Nat.reduceSub,Int.reduceToNat,reduceIte,za1,za6]); exact Eq.refl _):A:=(e x1 x2 x3 x4).mpr h
theorem zxN(x1:Y1)(x2:Y2)(x3:Y3)(x4:Y4){Y5:Prop}(x5:Y5)(h:G)(e:Y1->Y2->Y3->Y4->Y5->A=G:=by intro x1 x2 x3 x4 x5; (try simp only[x1,x2,x3,x4,x5,rnA,Nat.reduceEqDiff,Nat.reduceLT,reduceCtorEq,Nat.reduceAdd,Nat.reduceLeDiff,Int.reduceBEq,Int.reduceLE,Int.reduceLT,Nat.reduceBEq,Nat.reduceMul,Nat.reduceSub,Int.reduceToNat,reduceIte,za1,za6]); exact Eq.refl _):A:=(e x1 x2 x3 x4 x5).mpr h
theorem ziz(x1:Y1)(x2:Y2)(x3:Y3)(x4:Y4){Y5:Prop}(x5:Y5){Y6:Prop}(x6:Y6)(h:G)(e:Y1->Y2->Y3->Y4->Y5->Y6->A=G:=by intro x1 x2 x3 x4 x5 x6; (try simp only[x1,x2,x3,x4,x5,x6,rnA,Nat.reduceEqDiff,Nat.reduceLT,reduceCtorEq,Nat.reduceAdd,Nat.reduceLeDiff,Int.reduceBEq,Int.reduceLE,Int.reduceLT,Nat.reduceBEq,Nat.reduceMul,Nat.reduceSub,Int.reduceToNat,reduceIte,za1,za6]); exact Eq.refl _):A:=(e x1 x2 x3 x4 x5 x6).mpr h
theorem wTM{a:α}(hT:T=T')(h:G)(e:wp m k0 k (some (T' a)) Q=G:=by(try simp only[rnA,Nat.reduceEqDiff,Nat.reduceLT,reduceCtorEq,Nat.reduceAdd,Nat.reduceLeDiff,Int.reduceBEq,Int.reduceLE,Int.reduceLT,Nat.reduceBEq,Nat.reduceMul,Nat.reduceSub,Int.reduceToNat,reduceIte,za1,za6]); exact Eq.refl _):EvL m k0 k (T a) Q:=hT ▸ zab (e.mpr h)
theorem cBM{c:Bool}{a b:Option α}{r:α}(j:cond c a b=some r)(h0:c=false->b=some r->G0)(h1:c=true->a=some r->G1)
  (e0:c=false->A=G0:=by intro c; (try simp only[c,rnA,Nat.reduceEqDiff,Nat.reduceLT,reduceCtorEq,Nat.reduceAdd,Nat.reduceLeDiff,Int.reduceBEq,Int.reduceLE,Int.reduceLT,Nat.reduceBEq,Nat.reduceMul,Nat.reduceSub,Int.reduceToNat,reduceIte,za1,za6]); exact Eq.refl _)
  (e1:c=true->A=G1:=by intro c; (try simp only[c,rnA,Nat.reduceEqDiff,Nat.reduceLT,reduceCtorEq,Nat.reduceAdd,Nat.reduceLeDiff,Int.reduceBEq,Int.reduceLE,Int.reduceLT,Nat.reduceBEq,Nat.reduceMul,Nat.reduceSub,Int.reduceToNat,reduceIte,za1,za6]); exact Eq.refl _):A:=by
 cases c with
 | false=>exact(e0 rfl).mpr (h0 rfl j)
 | true=>exact(e1 rfl).mpr (h1 rfl j)
theorem bJM{o:α}{s:Option α}{c:C}(j:s=some o)(hT:T=T')(h:s=some o->T=T'->EvL m k0 (.code c :: .inv (Jn k0 T λa=>a=o):: k) S Q:=by
  intro j hT; refine wSM ?_; repeat' first | exact zeV j hT | refine cBM j ?_ ?_<;>intro c j):EvL m k0 (.code c :: .inv (Jn k0 T λa=>a=o):: k) S Q:=h j hT
theorem rdM{x:C}(hT:T=T')(P:Nat->α->Prop){n:Nat}(a:α)(hp:P n a)(hs:∀ n a,P (n+1) a->EvL m k0 (.code x :: .inv (Jn k0 T (P n)):: k) (T a) Q)
  (hz:∀ a,¬ P 0 a:=by intro _ h; first | exact nomatch (show none=some _ from h)| exact nomatch (show none=some _ from h.1))
  (w:zaT k0 S (T' a):=by first | exact wAM | exact wKM):EvL m k0 (.code (.loop x):: k) S Q:=EvL.rounds T P n a (hT ▸ w) hp hz hs
section
variable {L:List LB} {t t':Bool} {f:Nat} {g:Option (Nat×Bool)} {l:List O} {ds args:List D} {res:D} {bar e:Bool} {d:Option Nat}
theorem zCP{β:Type}{e:En β}{xs:List β}:Snp L false (fzE t e xs) (fzE false e xs):=zbL e xs (λh=>nomatch h)
theorem zBZ{β:Type}{e:En β}{xs:List β}:Snp L t' (fzE true e xs) (fzE t' e xs):=zbL e xs (λ_=>rfl)
theorem nfM{P:Prop}(h:false=true):P:=nomatch h
theorem ttM{P:Prop}(_:P):true=true:=rfl
theorem sOM{β:Type}{e:En β}{β n len st:Nat}{cap:Option Nat}{xs:List _}(he:L[β]? = some (.els n (xs.map (e.c t)))\/L[β]? = some (.grow n (xs.map (e.c t))):=by first | exact .inl rfl | exact .inr rfl)
  (hn:n=e.n:=by rfl) (hs:st=xs.length:=by first | exact rfl | assumption | (symm; assumption)| exact(zbB (by assumption)).symm | exact(za4 (by assumption)).symm | exact((za4 (by assumption)).trans (by assumption)).symm) (hl:len=xs.length:=by first | exact rfl | assumption | (symm; assumption)| exact(zbB (by assumption)).symm | exact(za4 (by assumption)).symm | exact((za4 (by assumption)).trans (by assumption)).symm)
  (hc:∀ k,cap=some k->len<=k:=by intro k h; cases h; all_goals exact qap _) (h:t'=true->t=true:=by first | exact nfM | exact ttM | exact id):Snp L t' (.sl β 0 n len cap st) (fzE t' e xs):=zf5 hn he hs hl hc h
variable{rs:List RX}
theorem rQM(h:zd1 S.heap S.env rs=some ds:=by rfl)(hs:Snp S.heap true (zcK ds) res:=by repeat' first | exact .lit _ | exact .nil | exact .any | refine .cons ?_ ?_ | refine Snp.zrH ?_ | refine Snp.zrr ?_ | exact zCP | exact zBZ | exact zbL _ _ id | exact zhs _ | exact sOM):zg4 rs res .ret S:=.ret h hs
theorem rAM(h:zd1 S.heap S.env rs=some ds:=by rfl)(hs:Snp S.heap false (zcK ds) res:=by repeat' first | exact .lit _ | exact .nil | exact .any | refine .cons ?_ ?_ | refine Snp.zrH ?_ | refine Snp.zrr ?_ | exact zCP | exact zBZ | exact zbL _ _ id | exact zhs _ | exact sOM):zpl rs res .ret S:=.ret h hs
theorem rHM{a r:α}(j:some a=some r)(h:some a=some r->A:=by intro h; obtain rfl:=qal h; first | exact rQM | exact rAM):A:=h j
variable{xs:List Mx.X}
theorem fCM(hf:Lx.Fn m f args res)(h:G)(hw:zbn S.env g=some true:=by rfl)(hx:zhi S.env xs=some ds:=by rfl)(hs:Snps S.heap false ds args:=by repeat' first | exact .lit _ | exact .nil | exact .any | refine .cons ?_ ?_ | refine Snp.zrH ?_ | refine Snp.zrr ?_ | exact zCP | exact zBZ | exact zbL _ _ id | exact zhs _ | exact sOM)(q:wp m k0 (.ops bar e l :: k) (LSt.put ⟨S.N,S.env,S.heap⟩ d res) Q=G:=by(try simp only[rnA,Nat.reduceEqDiff,Nat.reduceLT,reduceCtorEq,Nat.reduceAdd,Nat.reduceLeDiff,Int.reduceBEq,Int.reduceLE,Int.reduceLT,Nat.reduceBEq,Nat.reduceMul,Nat.reduceSub,Int.reduceToNat,reduceIte,za1,za6]); exact Eq.refl _):EvL m k0 (.ops bar e (⟨d,.call f xs,g⟩:: l):: k) S Q:=EvL.fn hf hw hx hs (q.mpr h)
theorem fDM(hf:FnA m f args res)(h:G)(hw:zbn S.env g=some true:=by rfl)(hx:zhi S.env xs=some ds:=by rfl)(hz:Mzs S.heap (λ_=>false) ds args:=by repeat' first | exact .lit _ | exact .nil | refine .cons ?_ ?_ | refine Mzs.agg ?_ | exact zms _ _ (λh=>by cases h<;>contradiction)| exact zms _ _ (λ_=>rfl)| exact zuK _)(hfr:D.frs args:=by repeat' first | exact trivial | exact rfl | exact zgz _ _ | exact En.fr _ _ | refine⟨?_,?_⟩)(hres:res.fr:=by repeat' first | exact trivial | exact rfl | exact zgz _ _ | exact En.fr _ _ | refine⟨?_,?_⟩)(q:wp m k0 (.ops bar e l :: k) (LSt.put ⟨S.N,S.env,S.heap⟩ d res) Q=G:=by(try simp only[rnA,Nat.reduceEqDiff,Nat.reduceLT,reduceCtorEq,Nat.reduceAdd,Nat.reduceLeDiff,Int.reduceBEq,Int.reduceLE,Int.reduceLT,Nat.reduceBEq,Nat.reduceMul,Nat.reduceSub,Int.reduceToNat,reduceIte,za1,za6]); exact Eq.refl _):EvL m k0 (.ops bar e (⟨d,.call f xs,g⟩:: l):: k) S Q:=EvL.fnS hf hw hx hz hfr hres (q.mpr h)
end
end
end Go.Dc
