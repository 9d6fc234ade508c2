/-
 What r02_Draft_Cards computes. Conditions: none.
-/
import Derived.Test.YtbjogdohfhdaiaaCfQt
import Derived.Test.YtbjogdohfhdaiaaCfHGn
set_option linter.unusedSimpArgs false
set_option linter.unusedVariables false
set_option maxRecDepth 100000
set_option maxHeartbeats 4000000
namespace Go.Dc
open Go Go.Mx Go.Lx Go.Proofs
def za9(p0:S_haruspexref02_Draft):Nat->Int->(List Int)->Option (List Int)
 | 0,_,_=>none
 | n+1,v4,l1=>(
((bif (decide (v4<(p0.c.length:Int)))then(
some (decide (v4<5)))
else(
some false):Option Bool)).bind λv13=>
bif v13 then(
(zaC p0.c v4).bind λx3=>
(zc2 8 l1 [(w64 (1+(w64 (x3.tmod 4))))]).bind λy5=>
za9 p0 n (w64 (v4+1)) y5)
else(
some l1))
def zbD(N:Nat)(p0:S_haruspexref02_Draft):Option (List Int):=
((za9 p0 N 0 []:Option (List Int))).bind λl1=>
some l1
theorem zgr{N:Nat}{p0:S_haruspexref02_Draft}{r:(List Int)}(h:zbD N p0=some r):Lx.Fn mC 113 [(.agg [(fzE false (eI .u8) p0.c),(.lit (.int .u16 p0.which)),(fzE false (eI .u8) p0.order)])] (fzE true (eI .i64) r):=by
 refine gnO ?_;unfold zbD at h;refine wSM ?_;obtain⟨o5,j5,h⟩:=bsM h;obtain⟨T5,hT5⟩:=mkT λa:(List Int)=>⟨28,[(3,(.sl 1 0 1 a.length none a.length))],[.gone,.grow 1 (a.map ((eI .i64).c true))]⟩
 refine EvL.jn T5 (λa=>a=o5) ?_ ?_
 .refine wSM ?_;obtain⟨T9,hT9⟩:=mkT λa:(Int×(List Int))=>⟨28,[(1,(.ptr 0 0)),(3,(.sl 1 0 1 a.2.length none a.2.length)),(4,(dI a.1))],[.cells [(fzE false (eI .u8) p0.c),(.lit (.int .u16 p0.which)),(fzE false (eI .u8) p0.order)],.grow 1 (a.2.map ((eI .i64).c true))]⟩
  refine EvL.zjG (zaT.ghost (n:=1) (k:=3) (by decide) rfl) ?_;refine EvL.rounds (α:=(Int×(List Int))) T9 (λn a=>za9 p0 n a.1 a.2=some o5) N (0,[]) (by rw[hT9]; exact wm0 [.k,.k] ⟨MB.cs ⟨qdk,qdk,qdk,qdk⟩,⟨MB.gs (eI .i64) true [],qdk⟩⟩) j5 (λ_ h=>nomatch (show(none:Option (List Int))=some o5 from h)) ?_;rintro n ⟨v4,l1⟩ j5;simp only[za9]at j5;refine wTM hT9 ?_;obtain⟨o10,j10,j5⟩:=bsM j5;obtain⟨T10,hT10⟩:=zdD hT9 λa:Bool=>uDM (T9 (v4,l1)) [] [(13,(dB a))] [] []
  refine EvL.jn T10 _ (bJM j10 hT10) ?_;rintro v13 rfl;refine wTM hT10 ?_;refine cBM j5 (λ_ j5=>?_) λ_ j5=>?_
  .exact zeV j5 hT5
  obtain⟨x3,g4,j5⟩:=bsM j5;obtain⟨y5,g6,j5⟩:=bsM j5;refine zwN (zao (n:=1) (e:=(eI .u8)) rfl g4) (zby g6) (plM g6) (piM g6) ?_;exact zdk hT9 ((w64 (v4+1)),y5) j5
 rintro l1 rfl;refine wTM hT5 ?_;exact rHM h
def zfO(cards:List Int):Option (List Int):=some cards
variable{α:Type}{L:List LB}
theorem zDU{β:Nat}(e:En α)(x:α)(h:L[β]? = some (.cells (e.c false x))):Snp L false (.ptr β 0) (.fptr false (e.c false x)):=
 .ptr h (by omega) λk d d' h3 h4=>by
  rw[qaK]at h3;exact(e.snp (L:=L) (t:=false) (t':=false) x id).get k d d' h3 h4
variable{cards:List Int}
theorem ze0{r:List Int}(h:zfO cards=some r):
  Lx.FnA mC 132 [fzE false (eI .i64) cards] (.clo 149 [] [.fptr false ((eL (eI .i64)).c false r)]):=by
 cases h;refine zzC ?_;refine zab ?_;simp only[rnA,Nat.reduceEqDiff,Nat.reduceLT,reduceCtorEq];exact zpl.ret rfl (.clo rfl rfl (Snps.get .nil) (Snps.get (.cons (zDU (eL (eI .i64)) cards rfl) .nil)))
def zie(cards:List Int):Nat->List Int->Option (List Int×Int)
 | 0,vals=>some (vals,-1)
 | k+1,vals=>(zaC vals (k:Int)).bind λv=>(zaC cards (k:Int)).bind λc=>bif v == w64 (c - 1)then(zd2 vals (k:Int) 0).bind λvals'=>zie cards k vals' else some (vals,(k:Int))
def zzE(cards:List Int):Nat->List Int->Int->Option (List (Int×List Int))
 | 0,_,_=>none
 | n+1,vals,i=>(zie cards cards.length vals).bind λr=>bif decide (r.2<0)then some [(i,vals)]else
   (zaC r.1 r.2).bind λv=>(zd2 r.1 r.2 (w64 (v+1))).bind λvals'=>(zzE cards n vals' (w64 (i+1))).map λl=>(i,vals):: l
def zBH(cards:List Int):Option (List (Int×List Int)):=(zeh cards).bind λ_=>(zd5 8 (cards.length:Int) 0).bind λz=>zzE cards ((cards.foldl (· * ·) 1).toNat) z 0
theorem mapM_some{β:Type}{o:Option α}{f:α->β}{b:β}(h:o.map f=some b):∃ a,o=some a/\b=f a:=by
 cases o with
 | none=>cases h
 | some a=>cases h; exact⟨a,rfl,rfl⟩
variable{n:Nat}
theorem zva(h:L.length=n)(x:LB):(L ++ [x])[n]? = some x:=by subst h; simp
theorem zwH(h:L.length=n)(x y:LB):(L ++ [x]).set n y=L ++ [y]:=by subst h; simp
theorem zeU{u:List (Int×List Int)}(hu:zBH cards=some u):
  Gen mC 149 [] [.fptr false ((eL (eI .i64)).c false cards)] u (λy n0 args G=>args=[dI y.1,.sl n0 0 1 y.2.length (some y.2.length) y.2.length]/\G=[.els 1 (y.2.map ((eI .i64).c true))]):=by
 intro n0 β P Ps hβ hlen hround L hP;refine gnL ?_;obtain⟨_,hsm,hu⟩:=bind_some hu;obtain⟨z,hz,hv⟩:=bind_some hu;have hL:=hlen _ _ hP;have hm:IntKind.i64.wrap ((cards.length:Int) - 1)=(cards.length:Int) - 1:=by
  have:=zfr hsm;exact wrap64 (by omega) (by omega)
 refine zab ?_;simp only[rnA,Nat.reduceEqDiff,Nat.reduceLT,Nat.reduceAdd,reduceCtorEq,za1,(zaK hz).1.1,(zaK hz).1.2,qbC,qaq,(show List.replicate cards.length [(dI 0)]=z.map ((eI .i64).c true)from(zcR hz ((eI .i64).c true)))];refine EvL.scope (zab ?_);simp only[rnA];rw[hL];refine EvL.loop (α:=Nat×Nat×List Int×Int×List LB) (λa=>⟨45,[(0,.yld β),(1,.fptr false ((eL (eI .i64)).c false cards)),(3,.sl n0 0 1 cards.length (some cards.length) cards.length),(4,dI a.2.2.2.1)],a.2.2.2.2 ++ [.els 1 (a.2.2.1.map ((eI .i64).c true))]⟩)
  (λa=>P a.2.1 a.2.2.2.2/\zzE cards a.1 a.2.2.1 a.2.2.2.1=some (u.drop a.2.1)/\a.2.2.1.length=cards.length) (λa=>a.1) ((cards.foldl (· * ·) 1).toNat,0,z,0,L) (by refine zaT.sub ?_; exact⟨rfl,rfl,rfl,rfl,qdk⟩) ⟨hP,hv,by rw[zbB hz,qaq]⟩ ?_
 rintro⟨n,j,vals,i,L'⟩ ⟨hPi,hvk,hvl⟩;simp only at hPi hvk hvl;cases n with
 | zero=>cases hvk
 | succ n=>
 unfold zzE at hvk;obtain⟨⟨vals1,kk⟩,hc,hvk⟩:=bind_some hvk;simp only at hvk;have hul:∃ r,u.drop j=(i,vals):: r:=by
  cases hk:decide (kk<0)with
  | true=>rw[hk,qdl]at hvk; exact⟨[],(qal hvk).symm⟩
  | false=>
   rw[hk,qdm]at hvk;obtain⟨v,_,hvk⟩:=bind_some hvk;obtain⟨vals2,_,hvk⟩:=bind_some hvk;obtain⟨l,_,hl⟩:=mapM_some hvk;exact⟨l,hl⟩
 obtain⟨r,hul⟩:=hul;have hj:j<u.length:=by
  refine Nat.lt_of_not_le λhn=>?_
  rw[qaD hn]at hul;cases hul
 have huj:u[j]? = some (i,vals):=by
  rw[qat hj]at hul;rw[qac hj,(qc5 hul).1]
 have hur:u.drop (j+1)=r:=by
  rw[qat hj]at hul;exact(qc5 hul).2
 refine zab ?_;simp only[rnA,Nat.reduceEqDiff,Nat.reduceLT,reduceCtorEq];refine EvL.yield rfl rfl rfl (hround j (i,vals) L' _ [.els 1 (vals.map ((eI .i64).c true))] huj hPi ⟨by rw[hvl],rfl⟩) ?_;rintro b L2 ⟨L1,rfl,hl1,hb⟩;cases b with
 | false=>
  simp only[rnA,Nat.reduceEqDiff,Nat.reduceLT,reduceCtorEq];exact⟨[],rfl,L1,_,rfl,hl1,.inr hb⟩
 | true=>
 have hga:=zva hl1;have hsa:=zwH hl1;simp only[rnA,Nat.reduceEqDiff,Nat.reduceLT,reduceCtorEq,za1,hm];refine EvL.jn (λa:List Int×Int=>⟨45,[(0,.yld β),(1,.fptr false ((eL (eI .i64)).c false cards)),(3,.sl n0 0 1 cards.length (some cards.length) cards.length),(4,dI i),(5,dI a.2)],L1 ++ [.els 1 (a.1.map ((eI .i64).c true))]⟩) (λa=>a=(vals1,kk)/\a.1.length=cards.length) ?_ ?_
 .refine zab ?_;simp only[rnA];refine EvL.loop (α:=Nat×List Int) (λa=>⟨45,[(0,.yld β),(1,.fptr false ((eL (eI .i64)).c false cards)),(3,.sl n0 0 1 cards.length (some cards.length) cards.length),(4,dI i),(5,dI ((a.1:Int) - 1))],L1 ++ [.els 1 (a.2.map ((eI .i64).c true))]⟩)
   (λa=>zie cards a.1 a.2=some (vals1,kk)/\a.2.length=cards.length/\a.1<=cards.length) (λa=>a.1) (cards.length,vals) (by refine zaT.sub ?_; exact⟨rfl,rfl,rfl,rfl,rfl,qdk⟩) ⟨hc,hvl,qap _⟩ ?_
  rintro⟨f,vs⟩ ⟨hf,hvs,hfl⟩;simp only at hf hvs hfl;refine zab ?_;simp only[rnA];cases f with
  | zero=>
   cases hf;refine EvL.scope (zab ?_);have hk:((0:Nat):Int) - 1 = -1:=rfl;simp only[rnA,Nat.reduceEqDiff,Nat.reduceLT,Int.reduceLE,reduceCtorEq,hk];exact⟨_,⟨rfl,hvs⟩,zaT.sub ⟨rfl,rfl,rfl,rfl,rfl,qdk⟩⟩
  | succ f=>
   have hk:((f+1:Nat):Int) - 1=(f:Int):=by omega
   have hk0:(0:Int)<=(f:Int):=by omega
   unfold zie at hf;obtain⟨v,q1,hf⟩:=bind_some hf;obtain⟨c,q2,hf⟩:=bind_some hf;refine EvL.scope (zab ?_);cases hb:(v == w64 (c - 1))with
   | false=>
    rw[hb,qdm]at hf;cases hf;simp only[rnA,Nat.reduceEqDiff,Nat.reduceLT,reduceCtorEq,hk,hk0,hga,hvs,(show(f:Int)<((cards.length:Nat):Int)from hvs ▸ zb3 q1),zaQ q1 ((eI .i64).c true),zao (n:=1) (e:=eI .i64) rfl q2,hb];exact⟨_,⟨rfl,hvs⟩,zaT.sub ⟨rfl,rfl,rfl,rfl,rfl,qdk⟩⟩
   | true=>
    rw[hb,qdl]at hf;obtain⟨vs',q4,hf⟩:=bind_some hf;have hw:IntKind.i64.wrap ((f:Int) - 1)=(f:Int) - 1:=by
     have:=zfr hsm;exact wrap64 (by omega) (by omega)
    simp only[rnA,Nat.reduceEqDiff,Nat.reduceLT,Nat.reduceLeDiff,reduceCtorEq,hk,hk0,hga,hsa,hvs,(show(f:Int)<((cards.length:Nat):Int)from hvs ▸ zb3 q1),zaQ q1 ((eI .i64).c true),zao (n:=1) (e:=eI .i64) rfl q2,hb,(show(vs.map ((eI .i64).c true)).set (f:Int).toNat [dI 0]=vs'.map ((eI .i64).c true)from zbS q4 ((eI .i64).c true)),hw];exact⟨(f,vs'),⟨hf,by rw[za4 q4]; exact hvs,by omega⟩,qaW f,zaT.sub ⟨rfl,rfl,rfl,rfl,rfl,qdk⟩⟩
 rintro a ⟨rfl,hvs⟩;simp only at hvs;refine zab ?_;cases hk:decide (kk<0)with
 | true=>
  rw[hk,qdl]at hvk;simp only[rnA,Nat.reduceEqDiff,Nat.reduceLT,reduceCtorEq,hk];have h1:u.length=j+1:=by
   have h2:=qal hvk;have h3:u.drop (j+1)=[]:=by
    rw[hur];rw[<- h2]at hul;exact(qc5 hul).2.symm
   have h4:=qdh.1 h3;omega
  exact⟨[],rfl,L1,_,rfl,hl1,.inl (by rw[h1]; exact hb)⟩
 | false=>
  rw[hk,qdm]at hvk;obtain⟨v,q1,hvk⟩:=bind_some hvk;obtain⟨vals2,q2,hvk⟩:=bind_some hvk;obtain⟨l,q4,hl⟩:=mapM_some hvk;simp only[rnA,Nat.reduceEqDiff,Nat.reduceLT,Nat.reduceLeDiff,reduceCtorEq,hk,hga,hsa,hvs,zaL q1,(show kk<((cards.length:Nat):Int)from hvs ▸ zb3 q1),zaQ q1 ((eI .i64).c true),(show(vals1.map ((eI .i64).c true)).set kk.toNat [dI (w64 (v+1))]=vals2.map ((eI .i64).c true)from zbS q2 ((eI .i64).c true))];refine⟨(n,j+1,vals2,w64 (i+1),L1),⟨hb,?_,by rw[za4 q2]; exact hvs⟩,qaW n,zaT.sub ⟨rfl,rfl,rfl,rfl,qdk⟩⟩;simp only;rw[q4,hur];rw[hul]at hl;rw[(qc5 hl).2]
def zdf(p0:Int)(p1:Int):Option Int:=
some (w64 (p0+(zfN p1 (w64 (4611686018427387904 - p0)))))
theorem zcN{p0:Int}{p1:Int}{r:Int}(h:zdf p0 p1=some r):Lx.Fn mC 110 [(dI p0),(dI p1)] (dI r):=by
 refine gnO ?_;unfold zdf at h;refine zab ?_;try simp only[rnA,Nat.reduceEqDiff,reduceIte,Nat.reduceLT,Nat.reduceAdd,Nat.reduceLeDiff,Nat.reduceMul,Nat.reduceSub,Int.reduceLE,Int.reduceLT,Int.reduceBEq,Nat.reduceBEq,reduceCtorEq]
 replace h:=qal h; subst h;exact zg4.ret rfl (.lit _)
def zpU:C:=
 .seq (.reg false false [⟨some 2,.mov (.c (.slice none 0 0)),none⟩])
 (.seq (.reg false false [⟨some 16,.mov (.s 0),none⟩,
 ⟨some 17,.nilck (.s 16),none⟩,
 ⟨some 18,.fld 0 (.s 17),none⟩,
 ⟨some 19,.fld 0 (.s 18),none⟩,
 ⟨some 20,.load none (.s 19),none⟩,
 ⟨some 21,.len (.s 20),none⟩,
 ⟨some 22,.mk 1 24 [(.slice none 0 0)] (.s 21) (.s 21),none⟩,
 ⟨some 3,.mov (.s 22),none⟩])
 (.seq (.seq (.reg false false [⟨some 23,.mov (.s 0),none⟩,
 ⟨some 24,.nilck (.s 23),none⟩,
 ⟨some 25,.fld 0 (.s 24),none⟩,
 ⟨some 26,.fld 0 (.s 25),none⟩,
 ⟨some 27,.load none (.s 26),none⟩,
 ⟨some 28,.len (.s 27),none⟩,
 ⟨some 29,.mov (.c (.int .i64 0)),none⟩])
 (.scope (.block 0 (.loop (.seq (.reg false false [⟨some 30,.bin .lss (.s 29) (.s 28),none⟩])
 (.seq (.cond (.s 30) (.skip)
 (.exit 0))
 (.seq (.block 1 (.seq (.reg false false [⟨some 31,.mov (.s 29),none⟩,
 ⟨some 32,.idxS 1 (.s 27) (.s 29),none⟩,
 ⟨some 33,.load none (.s 32),none⟩,
 ⟨some 4,.mov (.s 31),none⟩,
 ⟨some 5,.mov (.s 33),none⟩])
 (.reg false false [⟨some 34,.mov (.s 3),none⟩,
 ⟨some 35,.mov (.s 4),none⟩,
 ⟨some 36,.mov (.s 5),none⟩,
 ⟨some 37,.mk 1 8 [(.int .i64 0)] (.s 36) (.s 36),none⟩,
 ⟨some 38,.idxS 1 (.s 34) (.s 35),none⟩,
 ⟨none,.store 1 (.s 38) (.s 37),none⟩])))
 (.reg false false [⟨some 39,.bin .add (.s 29) (.c (.int .i64 1)),none⟩,
 ⟨some 29,.mov (.s 39),none⟩]))))))))
 (.seq (.reg false false [⟨some 40,.mov (.s 0),none⟩,
 ⟨some 41,.nilck (.s 40),none⟩,
 ⟨some 42,.fld 0 (.s 41),none⟩,
 ⟨some 43,.fld 1 (.s 42),none⟩,
 ⟨some 44,.load none (.s 43),none⟩,
 ⟨some 45,.len (.s 44),none⟩,
 ⟨some 46,.bin .sub (.s 45) (.c (.int .i64 1)),none⟩,
 ⟨some 6,.mov (.s 46),none⟩])
 (.seq (.reg false false [⟨some 47,.mov (.s 0),none⟩,
 ⟨some 48,.nilck (.s 47),none⟩,
 ⟨some 49,.fld 0 (.s 48),none⟩,
 ⟨some 50,.fld 1 (.s 49),none⟩,
 ⟨some 51,.load none (.s 50),none⟩,
 ⟨some 52,.len (.s 51),none⟩,
 ⟨some 53,.mk 1 8 [(.int .i64 0)] (.s 52) (.s 52),none⟩,
 ⟨some 7,.mov (.s 53),none⟩])
 (.seq (.reg false false [⟨some 54,.mov (.s 7),none⟩,
 ⟨some 55,.mov (.s 6),none⟩,
 ⟨some 56,.idxS 1 (.s 54) (.s 55),none⟩,
 ⟨none,.store 1 (.s 56) (.c (.int .i64 1)),none⟩])
 (.seq (.seq (.reg false false [⟨some 57,.mov (.s 6),none⟩,
 ⟨some 8,.mov (.s 57),none⟩])
 (.scope (.block 2 (.loop (.seq (.seq (.reg false false [⟨some 58,.mov (.s 8),none⟩,
 ⟨some 59,.bin .geq (.s 58) (.c (.int .i64 0)),none⟩])
 (.cond (.s 59) (.skip)
 (.exit 2)))
 (.seq (.block 3 (.seq (.reg false false [⟨some 62,.mov (.s 7),none⟩,
 ⟨some 63,.mov (.s 8),none⟩,
 ⟨some 64,.idxS 1 (.s 62) (.s 63),none⟩,
 ⟨some 65,.load none (.s 64),none⟩,
 ⟨some 9,.mov (.s 65),none⟩])
 (.seq (.seq (.reg false false [⟨some 66,.mov (.s 9),none⟩,
 ⟨some 67,.bin .eql (.s 66) (.c (.int .i64 4611686018427387904)),none⟩])
 (.scope (.cond (.s 67) (.reg false false [⟨some 68,.mov (.s 8),none⟩,
 ⟨some 69,.build [(.int .i64 0)] [(0,1,(.s 68))],none⟩,
 ⟨some 70,.mkI 185 (.s 69),none⟩,
 ⟨none,.panic (.s 70),none⟩])
 (.skip))))
 (.seq (.reg false false [⟨some 71,.mov (.s 0),none⟩,
 ⟨some 72,.nilck (.s 71),none⟩,
 ⟨some 73,.fld 0 (.s 72),none⟩,
 ⟨some 74,.fld 1 (.s 73),none⟩,
 ⟨some 75,.load none (.s 74),none⟩,
 ⟨some 76,.mov (.s 8),none⟩,
 ⟨some 77,.idxS 5 (.s 75) (.s 76),none⟩,
 ⟨some 78,.load (some 5) (.s 77),none⟩,
 ⟨some 10,.alloc [(.int .i64 0),(.int .i64 0),(.int .i64 0),(.int .i64 0),(.slice none 0 0)],none⟩,
 ⟨none,.store 5 (.s 10) (.s 78),none⟩])
 (.seq (.reg false false [⟨some 79,.fld 0 (.s 10),none⟩,
 ⟨some 80,.load none (.s 79),none⟩])
 (.block 4 (.seq (.reg false false [⟨some 82,.bin .eql (.s 80) (.c (.int .i64 2)),none⟩,
 ⟨some 81,.mov (.s 82),none⟩])
 (.scope (.cond (.s 81) (.seq (.reg true false [⟨some 83,.mov (.s 3),none⟩,
 ⟨some 84,.fld 1 (.s 10),none⟩,
 ⟨some 85,.load none (.s 84),none⟩,
 ⟨some 86,.idxS 1 (.s 83) (.s 85),none⟩,
 ⟨some 87,.load none (.s 86),none⟩,
 ⟨some 88,.fld 2 (.s 10),none⟩,
 ⟨some 89,.load none (.s 88),none⟩,
 ⟨some 90,.idxS 1 (.s 87) (.s 89),none⟩,
 ⟨some 11,.mov (.s 90),none⟩])
 (.seq (.reg false false [⟨some 91,.mov (.s 11),none⟩,
 ⟨some 92,.mov (.s 11),none⟩,
 ⟨some 93,.nilck (.s 92),none⟩,
 ⟨some 94,.load none (.s 93),none⟩,
 ⟨some 95,.mov (.s 9),none⟩,
 ⟨some 96,.call 110 [(.s 94),(.s 95)],none⟩,
 ⟨some 97,.nilck (.s 91),none⟩,
 ⟨none,.store 1 (.s 97) (.s 96),none⟩])
 (.seq (.reg false false [⟨some 98,.mov (.s 11),none⟩,
 ⟨some 99,.nilck (.s 98),none⟩,
 ⟨some 100,.load none (.s 99),none⟩,
 ⟨some 101,.bin .eql (.s 100) (.c (.int .i64 4611686018427387904)),none⟩])
 (.cond (.s 101) (.reg false false [⟨some 102,.mov (.s 8),none⟩,
 ⟨some 103,.build [(.int .i64 0)] [(0,1,(.s 102))],none⟩,
 ⟨some 104,.mkI 185 (.s 103),none⟩,
 ⟨none,.panic (.s 104),none⟩])
 (.skip)))))
 (.seq (.reg false false [⟨some 106,.bin .eql (.s 80) (.c (.int .i64 3)),none⟩,
 ⟨some 105,.mov (.s 106),none⟩])
 (.cond (.s 105) (.seq (.reg false false [⟨some 107,.fld 4 (.s 10),none⟩,
 ⟨some 108,.load none (.s 107),none⟩,
 ⟨some 109,.len (.s 108),none⟩,
 ⟨some 110,.mov (.c (.int .i64 0)),none⟩])
 (.scope (.block 5 (.loop (.seq (.reg false false [⟨some 111,.bin .lss (.s 110) (.s 109),none⟩])
 (.seq (.cond (.s 111) (.skip)
 (.exit 5))
 (.seq (.block 6 (.seq (.reg false false [⟨some 112,.idxS 1 (.s 108) (.s 110),none⟩,
 ⟨some 113,.load none (.s 112),none⟩,
 ⟨some 13,.mov (.s 113),none⟩])
 (.reg false false [⟨some 114,.mov (.s 7),none⟩,
 ⟨some 115,.mov (.s 13),none⟩,
 ⟨some 116,.mov (.s 7),none⟩,
 ⟨some 117,.mov (.s 13),none⟩,
 ⟨some 118,.idxS 1 (.s 116) (.s 117),none⟩,
 ⟨some 119,.load none (.s 118),none⟩,
 ⟨some 120,.mov (.s 9),none⟩,
 ⟨some 121,.call 110 [(.s 119),(.s 120)],none⟩,
 ⟨some 122,.idxS 1 (.s 114) (.s 115),none⟩,
 ⟨none,.store 1 (.s 122) (.s 121),none⟩])))
 (.reg false false [⟨some 123,.bin .add (.s 110) (.c (.int .i64 1)),none⟩,
 ⟨some 110,.mov (.s 123),none⟩]))))))))
 (.seq (.reg false false [⟨some 125,.bin .eql (.s 80) (.c (.int .i64 4)),none⟩,
 ⟨some 124,.mov (.s 125),none⟩])
 (.cond (.s 124) (.seq (.reg false false [⟨some 126,.mov (.s 0),none⟩,
 ⟨some 127,.fld 4 (.s 10),none⟩,
 ⟨some 128,.load none (.s 127),none⟩,
 ⟨some 129,.call 111 [(.s 126),(.s 128)],none⟩,
 ⟨some 130,.len (.s 129),none⟩,
 ⟨some 131,.mov (.c (.int .i64 0)),none⟩])
 (.scope (.block 7 (.loop (.seq (.reg false false [⟨some 132,.bin .lss (.s 131) (.s 130),none⟩])
 (.seq (.cond (.s 132) (.skip)
 (.exit 7))
 (.seq (.block 8 (.seq (.reg false false [⟨some 133,.mov (.s 131),none⟩,
 ⟨some 134,.idxS 1 (.s 129) (.s 131),none⟩,
 ⟨some 135,.load none (.s 134),none⟩,
 ⟨some 14,.mov (.s 133),none⟩,
 ⟨some 15,.mov (.s 135),none⟩])
 (.reg true true [⟨some 136,.mov (.s 7),none⟩,
 ⟨some 137,.fld 4 (.s 10),none⟩,
 ⟨some 138,.load none (.s 137),none⟩,
 ⟨some 139,.mov (.s 14),none⟩,
 ⟨some 140,.idxS 1 (.s 138) (.s 139),none⟩,
 ⟨some 141,.load none (.s 140),none⟩,
 ⟨some 142,.mov (.s 7),none⟩,
 ⟨some 143,.fld 4 (.s 10),none⟩,
 ⟨some 144,.load none (.s 143),none⟩,
 ⟨some 145,.mov (.s 14),none⟩,
 ⟨some 146,.idxS 1 (.s 144) (.s 145),none⟩,
 ⟨some 147,.load none (.s 146),none⟩,
 ⟨some 148,.idxS 1 (.s 142) (.s 147),none⟩,
 ⟨some 149,.load none (.s 148),none⟩,
 ⟨some 150,.mov (.s 9),none⟩,
 ⟨some 151,.mov (.s 15),none⟩,
 ⟨some 152,.call 112 [(.s 150),(.s 151)],none⟩,
 ⟨some 153,.call 110 [(.s 149),(.s 152)],none⟩,
 ⟨some 154,.idxS 1 (.s 136) (.s 141),none⟩,
 ⟨none,.store 1 (.s 154) (.s 153),none⟩])))
 (.reg false false [⟨some 155,.bin .add (.s 131) (.c (.int .i64 1)),none⟩,
 ⟨some 131,.mov (.s 155),none⟩]))))))))
 (.skip))))))))))))))
 (.reg false false [⟨some 60,.mov (.s 8),none⟩,
 ⟨some 61,.bin .sub (.s 60) (.c (.int .i64 1)),none⟩,
 ⟨some 8,.mov (.s 61),none⟩])))))))
 (.seq (.reg false false [⟨some 156,.mov (.s 3),none⟩,
 ⟨some 2,.mov (.s 156),none⟩])
 (.ret))))))))
theorem zq3:zlG mC 65=some (157,zpU,[.tmp 2],false):=zcr (by kernel_rfl)
abbrev KB(n:Nat)(es:List (List D)):Prop:=∀ kp:Nat->Bool,(∀ j,j<n->kp j=true)->∀ cs∈es,D.zg5 kp cs
theorem Mt.zg5{L:List LB}{F kp:Nat->Bool}:∀ {es:List (List D)},(∀ cs∈es,D.zg5 kp cs)->Mt L F kp es es
 | [],_=>.nil
 | x :: r,h=>.cons (Mos.kin (h x qao)) (Mt.zg5 λcs hc=>h cs (qai _ hc))
theorem KB.map(e:En α)(t:Bool)(xs:List α):KB n (xs.map (e.c t)):=λkp _=>zin e kp t xs
theorem KB.one{c:List D}(h:∀ kp:Nat->Bool,(∀ j,j<n->kp j=true)->D.zg5 kp c):KB n [c]:=λkp hk cs hm=>by rw[qbf.1 hm]; exact h kp hk
theorem KB.le{m:Nat}{a:List (List D)}(ha:KB n a)(h:n<=m):KB m a:=λkp hk=>ha kp λj hj=>hk j (qbb hj h)
abbrev fzR(r:List Int):List D:=[fzE true (eI .i64) r]
theorem kfz{kp:Nat->Bool}{rs:List (List Int)}:∀ cs∈rs.map fzR,D.zg5 kp cs:=zin (eL (eI .i64)) kp true rs
theorem KB.fz{n:Nat}{rs:List (List Int)}:KB n (rs.map fzR):=λkp _=>kfz
theorem KB.nil:KB n []:=λ_ _ _ h=>nomatch h
structure FitN (x:S_api_Node):Prop where
 ps:(x.parents.length+1)* 8<=zah
 rs:(x.rows.length+1)* 24<=zah
 row:∀ r∈x.rows,(r.length+1)* 8<=zah
theorem FitN.r1{x:S_api_Node}(h:FitN x):x.rows.length * 24<=zah:=by have:=h.rs; omega
theorem FitN.w1{x:S_api_Node}(h:FitN x):∀ r∈x.rows,r.length * 8<=zah:=λr hr=>by have:=h.row r hr; omega
instance (x:S_api_Node):Decidable (FitN x):=decidable_of_iff ((x.parents.length+1)* 8<=zah/\(x.rows.length+1)* 24<=zah/\∀ r∈x.rows,(r.length+1)* 8<=zah) ⟨λh=>⟨h.1,h.2.1,h.2.2⟩,λh=>⟨h.ps,h.rs,h.row⟩⟩
end Go.Dc
