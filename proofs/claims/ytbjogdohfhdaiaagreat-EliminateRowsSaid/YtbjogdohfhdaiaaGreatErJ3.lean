/-
 What r02_Draft_Cards computes. Conditions: none.
-/
import Derived.Test.YtbjogdohfhdaiaaGreatErDm
import Derived.Test.YtbjogdohfhdaiaaGreatErLy17
set_option linter.unusedSimpArgs false
set_option linter.unusedVariables false
set_option maxRecDepth 100000
set_option maxHeartbeats 4000000
namespace Go.Dc
open Go Go.Mx Go.Lx Go.Proofs
def zbQ(p0:S_haruspexref02_Draft):Nat->Int->(List Int)->Option (List Int)
 | 0,_,_=>none
 | n+1,v4,l1=>(
((bif (decide (v4<(p0.c.length:Int)))then(
some (decide (v4<5)))
else(
some false):Option Bool)).bind λv13=>
bif v13 then(
(zaE p0.c v4).bind λx3=>
(zdE 8 l1 [(w64 (1+(w64 (x3.tmod 4))))]).bind λy5=>
zbQ p0 n (w64 (v4+1)) y5)
else(
some l1))
def zct(N:Nat)(p0:S_haruspexref02_Draft):Option (List Int):=
((zbQ p0 N 0 []:Option (List Int))).bind λl1=>
some l1
variable{r:(List Int)}
theorem zhU{N:Nat}{p0:S_haruspexref02_Draft}(h:zct N p0=some r):Lx.Fn mC 64 [(.agg [(fzE false (eI .u8) p0.c),(.lit (.int .u16 p0.which)),(fzE false (eI .u8) p0.order)])] (fzE true (eI .i64) r):=by
 refine gnO ?_;unfold zct at h;refine wSM ?_;obtain⟨o5,j5,h⟩:=bsM h;refine usM [] 1 (λa:(List Int)=>([(3,(.sl 1 0 1 a.length none a.length))],[(0,.gone)],[.grow 1 (a.map ((eI .i64).c true))])) λT5 hT5=>?_
 refine EvL.jn T5 (λa=>a=o5) ?_ ?_
 .refine wSM ?_;refine usM [1] 1 (λa:(Int×(List Int))=>([(3,(.sl 1 0 1 a.2.length none a.2.length)),(4,(dI a.1))],[],[.grow 1 (a.2.map ((eI .i64).c true))])) λT9 hT9=>?_
  refine EvL.zgB (zbi.ghost (n:=1) (k:=3) (by decide) rfl) ?_;refine EvL.rounds (α:=(Int×(List Int))) T9 (λn a=>zbQ p0 n a.1 a.2=some o5) N (0,[]) (by rw[hT9]; exact wm0 [.k,.k] ⟨MB.cs ⟨qds,qds,qds,qds⟩,⟨MB.gs (eI .i64) true [],qds⟩⟩) j5 (λ_ h=>nomatch (show(none:Option (List Int))=some o5 from h)) ?_;rintro n ⟨v4,l1⟩ j5;simp only[zbQ]at j5;refine wTM hT9 ?_;obtain⟨o10,j10,j5⟩:=bsM j5;obtain⟨T10,hT10⟩:=zdp hT9 λa:Bool=>uDM (T9 (v4,l1)) [] [(13,(dB a))] [] []
  refine EvL.jn T10 _ (bJM j10 hT10) ?_;rintro v13 rfl;refine wTM hT10 ?_;refine cBM j5 (λ_ j5=>?_) λ_ j5=>?_
  .exact zde j5 hT5
  obtain⟨x3,g4,y5,g6,j5⟩:=zgs j5;refine sXM (anM (zaz (n:=1) (e:=(eI .u8)) rfl g4) (anM (zb9 g6) (anM (plM g6) (piM g6)))) ?_;exact zcz hT9 ((w64 (v4+1)),y5) j5
 rintro l1 rfl;refine wTM hT5 ?_;exact rHM h
def zoh:C:=
 (.seq (rg [oB 9 .lss 8 7])
 (.seq (.cond (.s 9) (.skip)
 (.exit 0))
 (.seq (.block 1 (.seq (rg [oM 10 8,
 oI 11 1 6 8,
 oL 12 11,
 oM 3 10,
 oM 4 12])
 (.seq (rg [oM 13 0,
 oM 14 3,
 oM 15 4,
 ⟨some 16,.zd8 (.s 13) [(.s 14),(.s 15)],none⟩,
 ⟨some 17,.un .not (.s 16),none⟩])
 (.cond (.s 17) (.ret)
 (.skip)))))
 (rg [oD 18 .add 8 1,
 oM 8 18]))))
def zA9:C:=
 .seq (rg [oF 5 2 1,
 oL 6 5,
 oE 7 6,
 oK 8 0])
 (.scope (.block 0 (.loop zoh)))
theorem zzp:zt6 mC 129=some (19,zA9,[],false):=zgQ (by kernel_rfl)
variable{α:Type}
theorem zyQ{xs:List α}{i:Nat}{x:α}(h:xs[i]? = some x):(zuo xs)[i]? = some ((i:Int),x):=by
 simp[zuo,h]
theorem zzC(xs:List α):(zuo xs).length=xs.length:=by simp[zuo]
variable{L:List LB}
theorem ztF{L1:List LB}(h:L=L1 ++ []):L=L1:=by simpa using h
theorem zjx(x:S_api_Node){u:Unit}(hu:zfm x.rows=some u):Gen mC 129 [] [.fptr false (zab.c false x)] (zuo x.rows) (λy n0 args G=>args=[dI y.1,fzE false (eI .i64) y.2]/\G=[]):=by
 intro n0 β P Ps hβ hlen hround L hP;refine zdD.ofM zzp (zeD rfl) (qad rfl) ?_;simp only[zA9,zCX];refine zad ?_;refine sXM @zaj ?_;refine EvL.scope (zad ?_);refine sSM ?_;have hw:∀(i:Nat),(i:Int)<x.rows.length->IntKind.i64.wrap ((i:Int)+1)=((i+1:Nat):Int):=by
  intro i hi;have:=zhJ hu;rw[wrap64 (by omega) (by omega)];omega
 refine EvL.loop (α:=Nat×List LB) (λa=>⟨19,[(0,.yld β),(6,fzE false (eL (eI .i64)) x.rows),(7,dI x.rows.length),(8,dI a.1)],a.2⟩) (λa=>P a.1 a.2/\a.1<=x.rows.length) (λa=>x.rows.length - a.1) (0,L) (zbi.sub ⟨rfl,rfl,rfl,rfl,qds⟩) ⟨hP,qau _⟩ ?_;rintro⟨i,L'⟩ ⟨hPi,hi⟩;simp only[zoh,zCX];refine zad ?_;cases hc:decide ((i:Int)<(x.rows.length:Int))with
 | false=>
  refine sXM hc ?_;refine⟨[],rfl,L',[],by simp,hlen _ _ hPi,.inl ?_⟩;rw[zzC];have h1:=qdD hc;have h2:i=x.rows.length:=by omega
  rw[<- h2];exact hPi
 | true=>
  have h1:=of_decide_eq_true hc;have h2:i<x.rows.length:=by omega
  have hg:zaE x.rows (i:Int)=some x.rows[i]:=znp h2;refine sXM (anM hc (zaz (n:=1) (e:=eL (eI .i64)) rfl hg)) ?_;refine EvL.yield rfl rfl rfl (hround i ((i:Int),x.rows[i]) L' _ [] (zyQ (qac h2)) hPi ⟨rfl,rfl⟩|> λh=>by rw[qaP]at h; exact h) ?_;rintro b L2 ⟨L1,hL2,hl1,hb⟩;have:=ztF hL2;subst this;cases b with
  | true=>
   refine sSM ?_;refine⟨(i+1,L2),⟨hb,h2⟩,?_,zbi.sub ⟨rfl,rfl,rfl,?_,qds⟩⟩
   .show x.rows.length - (i+1)<x.rows.length - i; omega
   .simp only[lk,if_true];rw[hw i h1]
  | false=>
   refine sSM ?_;exact⟨[],rfl,L2,[],by simp,hl1,.inr hb⟩
def zcQ(p0:(List Int)):Nat->Int->Int->Option (Int×Bool)
 | 0,_,_=>none
 | n+1,v2,v11=>(
bif (decide (v11<(p0.length:Int)))then(
(zaE p0 v11).bind λx3=>
((bif (decide (x3<1))then(
some true)
else(
bif (decide (8<x3))then(
some true)
else(
some (decide (4096<(w64 (v2 * x3)))))):Option Bool)).bind λv15=>
bif v15 then(
some (0,false))
else(
zcQ p0 n (w64 (v2 * x3)) (w64 (v11+1))))
else(
some (v2,true)))
def zeW(p0:(List Int)):Option (Int×Bool):=
bif (decide (12<(p0.length:Int)))then(
some (0,false))
else(
((zcQ p0 ((p0.length:Int) - 0+2:Int).toNat 1 0:Option ((Int×Bool)))).bind λo=>match o with
|(v2,v3)=>(
some (v2,v3)))
variable{p0:(List Int)}
theorem zlu{r:(Int×Bool)}(h:zeW p0=some r):Lx.Fn mC 89 [(fzE false (eI .i64) p0)] (.tup [(dI r.1),(dB r.2)]):=by
 refine gnO ?_;unfold zeW at h;refine wSM ?_;refine EvL.scope (zad ?_);refine sSM ?_;refine cBM h (λ_ h=>?_) λ_ h=>?_
 .obtain⟨o12,j12,h⟩:=bsM h;refine usM [] 0 (λa:(Int×Bool)=>([(2,(dI a.1)),(3,(dB a.2))],[],[])) λT12 hT12=>?_
  refine EvL.jn T12 (λa=>a=o12) ?_ ?_
  .refine wSM ?_;refine usM [3,9,10] 0 (λa:(Int×Int)=>([(2,(dI a.1)),(11,(dI a.2))],[],[])) λT15 hT15=>?_
   refine rdM hT15 (λn a=>zcQ p0 n a.1 a.2=some o12) (1,0) j12 ?_;rintro n ⟨v2,v11⟩ j12;simp only[zcQ]at j12;refine wTM hT15 ?_;refine cBM j12 (λ_ j12=>?_) λ_ j12=>?_
   .exact zde j12 hT12
   obtain⟨x3,g4,j12⟩:=bsM j12;refine sXM (ixM g4) ?_;obtain⟨o16,j16,j12⟩:=bsM j12;obtain⟨T16,hT16⟩:=zdp hT15 λa:Bool=>uDM (T15 (v2,v11)) [] [(5,(dI x3)),(15,(dB a))] [] []
   refine EvL.jn T16 _ (bJM j16 hT16) ?_;rintro v15 rfl;refine wTM hT16 ?_;refine cBM j12 (λ_ j12=>?_) λ_ j12=>?_
   .exact zcz hT15 ((w64 (v2 * x3)),(w64 (v11+1))) j12
   exact zde j12 hT12
  rintro⟨v2,v3⟩ rfl;dsimp only at h;refine wTM hT12 ?_;exact rHM h
 exact rHM h
def zcx(p1:S_api_Net)(p0:S_haruspexref05_Known):Nat->Int->(List Int)->Option (List Int)
 | 0,_,_=>none
 | n+1,v6,l2=>(
bif (decide (v6<(p1.nodes.length:Int)))then(
(ziN .u8 p0.which (IntKind.u64.wrap v6)).bind λq2=>
((bif ((ziv .u8 q2 1)== 1)then(
(zaE [p0.v.a0,p0.v.a1,p0.v.a2,p0.v.a3,p0.v.a4,p0.v.a5,p0.v.a6,p0.v.a7] v6).bind λx5=>
(zaE p1.nodes v6).bind λx7=>
(zp3 (w64 x5) x7.zaF).bind λq9=>
some q9)
else(
some (-1)):Option Int)).bind λv7=>
(zdE 8 l2 [v7]).bind λy11=>
zcx p1 p0 n (w64 (v6+1)) y11)
else(
some l2))
def zcj(p0:S_haruspexref05_Known)(p1:S_api_Net):Option (List Int):=
((zcx p1 p0 ((p1.nodes.length:Int) - 0+2:Int).toNat 0 []:Option (List Int))).bind λl2=>
some l2
theorem zke{p0:S_haruspexref05_Known}{p1:S_api_Net}(h:zcj p0 p1=some r):Lx.Fn mC 25 [(.agg [(dU8 p0.which),(dU8 p0.v.a0),(dU8 p0.v.a1),(dU8 p0.v.a2),(dU8 p0.v.a3),(dU8 p0.v.a4),(dU8 p0.v.a5),(dU8 p0.v.a6),(dU8 p0.v.a7)]),(.agg [(dI p1.grain),(fzE false zab p1.nodes)])] (fzE true (eI .i64) r):=by
 refine gnO ?_;unfold zcj at h;refine wSM ?_;obtain⟨o5,j5,h⟩:=bsM h;refine usM [] 2 (λa:(List Int)=>([(5,(.sl 2 0 1 a.length none a.length))],[(0,.gone),(1,.gone)],[.grow 1 (a.map ((eI .i64).c true))])) λT5 hT5=>?_
 refine EvL.jn T5 (λa=>a=o5) ?_ ?_
 .refine wSM ?_;refine usM [2,3] 2 (λa:(Int×(List Int))=>([(5,(.sl 2 0 1 a.2.length none a.2.length)),(6,(dI a.1))],[],[.grow 1 (a.2.map ((eI .i64).c true))])) λT9 hT9=>?_
  refine EvL.zgB (zbi.ghost (n:=1) (k:=5) (by decide) rfl) ?_;refine EvL.rounds (α:=(Int×(List Int))) T9 (λn a=>zcx p1 p0 n a.1 a.2=some o5) ((p1.nodes.length:Int) - 0+2:Int).toNat (0,[]) (by rw[hT9]; exact wm0 [.k,.k,.k] ⟨MB.cs ⟨qds,qds,qds,qds,qds,qds,qds,qds,qds,qds⟩,⟨MB.cs ⟨qds,qds,qds⟩,⟨MB.gs (eI .i64) true [],qds⟩⟩⟩) j5 (λ_ h=>nomatch (show(none:Option (List Int))=some o5 from h)) ?_;rintro n ⟨v6,l2⟩ j5;simp only[zcx]at j5;refine wTM hT9 ?_;refine cBM j5 (λ_ j5=>?_) λ_ j5=>?_
  .exact zde j5 hT5
  obtain⟨q2,g3,j5⟩:=bsM j5;refine sXM (anM ((zaX g3).1) ((zaX g3).2)) ?_;obtain⟨o10,j10,j5⟩:=bsM j5;obtain⟨T10,hT10⟩:=zdp hT9 λa:Int=>uDM (T9 (v6,l2)) [] [(7,(dI a))] [] []
  refine EvL.jn T10 (λa=>a=o10) ?_ ?_
  .refine wSM ?_;refine cBM j10 (λ_ j10=>?_) λ_ j10=>?_
   .exact zde j10 hT10
   obtain⟨x5,g6,x7,g8,q9,g10,j10⟩:=zjp j10;refine sXM (anM @zaj (anM (za2 g6) (anM (show v6<((8:Nat):Int)from zeh g6) (anM @qb7 (anM (show [(dU8 p0.which),(dU8 p0.v.a0),(dU8 p0.v.a1),(dU8 p0.v.a2),(dU8 p0.v.a3),(dU8 p0.v.a4),(dU8 p0.v.a5),(dU8 p0.v.a6),(dU8 p0.v.a7)][1+v6.toNat]? = some (.lit (.int .u8 x5))from zBP (a:=1) (i:=v6) g6 (λx=>(.lit (.int .u8 x):D)) rfl) (anM (zaz (n:=3) (e:=zab) rfl g8) (anM (zhy g10) (zgD g10)))))))) ?_;exact zde j10 hT10
  rintro v7 rfl;refine wTM hT10 ?_;obtain⟨y11,g12,j5⟩:=bsM j5;refine sXM (anM (zb9 g12) (anM (plM g12) (piM g12))) ?_;exact zcz hT9 ((w64 (v6+1)),y11) j5
 rintro l2 rfl;refine wTM hT5 ?_;exact rHM h
def zbO(p1:(List Int))(p0:S_api_Net):Nat->Int->Option (Out Unit Bool)
 | 0,_=>none
 | n+1,v5=>(
bif (decide (v5<(p1.length:Int)))then(
(((zaE p1 v5).bind λx3=>
bif (decide (x3<(-1)))then(
some true)
else(
(zaE p0.nodes v5).bind λx6=>
some (decide (x6.zaF<=x3))):Option Bool)).bind λv35=>
bif v35 then(
some (.ret false))
else(
zbO p1 p0 n (w64 (v5+1))))
else(
some (.go ())))
def zet(p0:S_api_Net)(p1:(List Int)):Option Bool:=
bif ((p1.length:Int)==(p0.nodes.length:Int))then(
((zbO p1 p0 ((p1.length:Int) - 0+2:Int).toNat 0:Option (Out Unit Bool))).bind λo=>match o with
| .go _=>(
some true)
| .ret r=>some r)
else(
some false)
def zc8(p0:(List Int)):Option (Int×Int):=
(zeW p0).bind λr1=>
bif r1.2 then(
some (r1.1,0))
else(
some (0,20))
theorem ziD{r:(Int×Int)}(h:zc8 p0=some r):Lx.Fn mC 60 [(fzE false (eI .i64) p0)] (.tup [(dI r.1),(dI r.2)]):=by
 refine gnO ?_;unfold zc8 at h;refine zad ?_;obtain⟨r1,g2,h⟩:=bsM h;refine sSM ?_;refine fCM (zlu g2) ?_;refine cBM h (λ_ h=>?_) λ_ h=>?_
 .exact rHM h
 exact rHM h
def zbe(p0:(List Int))(p1:Int):Nat->Int->Option (Out Unit Int)
 | 0,_=>none
 | n+1,v8=>(
bif (decide (v8<(p0.length:Int)))then(
(zaE p0 v8).bind λx2=>
bif (p1 == x2)then(
some (.ret v8))
else(
zbe p0 p1 n (w64 (v8+1))))
else(
some (.go ())))
def zbF(p0:(List Int))(p1:Int):Option Int:=
((zbe p0 p1 ((p0.length:Int) - 0+2:Int).toNat 0:Option (Out Unit Int))).bind λo=>match o with
| .go _=>(
some (-1))
| .ret r=>some r
theorem zf0{p1:Int}{r:Int}(h:zbF p0 p1=some r):Lx.Fn mC 124 [(fzE false (eI .i64) p0),(dI p1)] (dI r):=by
 refine gnO ?_;unfold zbF at h;refine wSM ?_;obtain⟨o1,j1,h⟩:=bsM h;refine usM [] 0 (λa:Unit=>([],[],[])) λT1 hT1=>?_
 refine EvL.jn T1 (λa=>o1=.go a) ?_ ?_
 .refine wSM ?_;refine usM [0,1,7] 0 (λa:Int=>([(8,(dI a))],[],[])) λT2 hT2=>?_
  refine rdM hT2 (λn a=>zbe p0 p1 n a=some o1) 0 j1 ?_;rintro n v8 j1;simp only[zbe]at j1;refine wTM hT2 ?_;refine cBM j1 (λ_ j1=>?_) λ_ j1=>?_
  .exact zsT j1 hT1
  obtain⟨x2,g3,j1⟩:=bsM j1;refine sXM (ixM g3) ?_;refine cBM j1 (λ_ j1=>?_) λ_ j1=>?_
  .exact zcz hT2 (w64 (v8+1)) j1
  obtain rfl:=qaf j1;exact rHM h
 rintro⟨⟩ rfl;dsimp only at h;refine wTM hT1 ?_;exact rHM h
def zas(p0:S_factor_table)(p1:Int):Option Int:=
(zbF p0.factor.vars p1).bind λr1=>
some r1
theorem zaW{p0:S_factor_table}{p1:Int}{r:Int}(h:zas p0 p1=some r):Lx.Fn mC 107 [(.agg [(fzE false (eI .i64) p0.factor.vars),(fzE false (eI .i64) p0.factor.zaf),(fzE false (eI .i64) p0.factor.w),(fzE false (eI .i64) p0.steps)]),(dI p1)] (dI r):=by
 refine gnO ?_;unfold zas at h;refine zad ?_;obtain⟨r1,g2,h⟩:=bsM h;refine sSM ?_;refine fCM (zf0 g2) ?_;exact rHM h
theorem zwu{β:Nat}(e:En α)(x:α)(h:L[β]? = some (.cells (e.c false x))):Snp L false (.ptr β 0) (.fptr false (e.c false x)):=
 .ptr h (by omega) λk d d' h3 h4=>by
  rw[qaO]at h3;exact(e.snp (L:=L) (t:=false) (t':=false) x id).get k d d' h3 h4
def zcc(zaf steps:List Int):Option (List Int×List Int):=some (zaf,steps)
variable{steps:List Int}
theorem zdh{zaf:List Int}{r:List Int×List Int}(h:zcc zaf steps=some r):
  Lx.FnA mC 110 [fzE false (eI .i64) zaf,fzE false (eI .i64) steps] (.clo 125 [] [.fptr false ((eL (eI .i64)).c false r.1),.fptr false ((eL (eI .i64)).c false r.2)]):=by
 cases h;refine zCt ?_;refine wSM ?_;exact zv1.ret rfl (.clo rfl rfl (Snps.get .nil) (Snps.get (.cons (zwu (eL (eI .i64)) zaf rfl) (.cons (zwu (eL (eI .i64)) steps rfl) .nil))))
def zlB(zaf steps:List Int):Nat->List Int->Int->Option (List Int×Int×Int)
 | 0,vals,a=>some (vals,a,-1)
 | k+1,vals,a=>(zaE vals (k:Int)).bind λv=>(zaE zaf (k:Int)).bind λc=>bif v == w64 (c - 1)then(zaE steps (k:Int)).bind λst=>(zeT vals (k:Int) 0).bind λvals'=>zlB zaf steps k vals' (w64 (a - w64 (v * st)))else some (vals,a,(k:Int))
def zDq(zaf steps:List Int):Nat->List Int->Int->Int->Option (List (Int×Int×List Int))
 | 0,_,_,_=>none
 | n+1,vals,i,a=>(zlB zaf steps zaf.length vals a).bind λr=>bif decide (r.2.2<0)then some [(i,a,vals)]else
   (zaE r.1 r.2.2).bind λv=>(zeT r.1 r.2.2 (w64 (v+1))).bind λvals'=>(zaE steps r.2.2).bind λst=>(zDq zaf steps n vals' (w64 (i+1)) (w64 (r.2.1+st))).map λl=>(i,a,vals):: l
def zAB(zaf steps:List Int):Option (List (Int×Int×List Int)):=(zfm zaf).bind λ_=>(zd7 8 (zaf.length:Int) 0).bind λz=>zDq zaf steps ((zaf.foldl (· * ·) 1).toNat) z 0 0
theorem zoP{β:Type}{o:Option α}{f:α->β}{b:β}(h:o.map f=some b):∃ a,o=some a/\b=f a:=by
 cases o with
 | none=>cases h
 | some a=>cases h; exact⟨a,rfl,rfl⟩
theorem zBp{n:Nat}(h:L.length=n)(x:LB):(L ++ [x])[n]? = some x:=by subst h; simp
theorem zBk{n:Nat}(h:L.length=n)(x y:LB):(L ++ [x]).set n y=L ++ [y]:=by subst h; simp
def zAx:C:=
 (.seq (.seq (.scope (.reg true false [oM 19 7,
 oD 20 .geq 19 0,
 oM 21 20,
 oMg 22 4 21 true,
 oMg 23 7 21 true,
 ⟨some 24,.idxS 1 (.s 22) (.s 23),some (21,true)⟩,
 oLg 25 24 21 true,
 oLg 26 1 21 true,
 oMg 27 7 21 true,
 ⟨some 28,.idxS 1 (.s 26) (.s 27),some (21,true)⟩,
 oLg 29 28 21 true,
 oDg 30 .sub 29 1 21 true,
 ⟨some 31,.bin .eql (.s 25) (.s 30),some (21,true)⟩,
 ⟨some 32,.pick (.s 21) (.s 31) (.c (.bool false)),none⟩]))
 (.cond (.s 32) (.skip)
 (.exit 2)))
 (.block 3 (.seq (.reg true false [oM 33 6,
 oM 34 4,
 oM 35 7,
 oI 36 1 34 35,
 oL 37 36,
 oL 38 2,
 oM 39 7,
 oI 40 1 38 39,
 oL 41 40,
 oB 42 .mul 37 41,
 oB 43 .sub 33 42,
 oM 6 43])
 (.seq (rg [oM 44 4,
 oM 45 7,
 oI 46 1 44 45,
 ⟨none,.store 1 (.s 46) (.c (.int .i64 0)),none⟩])
 (rg [oM 47 7,
 oD 48 .sub 47 1,
 oM 7 48])))))
def zsE:C:=.block 1 (.seq (.seq (.reg false false [⟨some 11,.mov (.s 0),none⟩,
 ⟨some 12,.mov (.s 5),none⟩,
 ⟨some 13,.mov (.s 6),none⟩,
 ⟨some 14,.zd8 (.s 11) [(.s 12),(.s 13)],none⟩,
 ⟨some 15,.un .not (.s 14),none⟩])
 (.cond (.s 15) (.ret)
 (.skip)))
 (.seq (.reg false false [⟨some 16,.load none (.s 1),none⟩,
 ⟨some 17,.len (.s 16),none⟩,
 ⟨some 18,.bin .sub (.s 17) (.c (.int .i64 1)),none⟩,
 ⟨some 7,.mov (.s 18),none⟩])
 (.seq (.scope (.block 2 (.loop zAx)))
 (.seq (.seq (.reg false false [⟨some 49,.mov (.s 7),none⟩,
 ⟨some 50,.bin .lss (.s 49) (.c (.int .i64 0)),none⟩])
 (.cond (.s 50) (.ret)
 (.skip)))
 (.seq (.reg false false [⟨some 51,.mov (.s 4),none⟩,
 ⟨some 52,.mov (.s 7),none⟩,
 ⟨some 53,.idxS 1 (.s 51) (.s 52),none⟩,
 ⟨some 54,.load none (.s 53),none⟩,
 ⟨some 55,.bin .add (.s 54) (.c (.int .i64 1)),none⟩,
 ⟨some 56,.idxS 1 (.s 51) (.s 52),none⟩,
 ⟨none,.store 1 (.s 56) (.s 55),none⟩])
 (.seq (.reg false false [⟨some 57,.mov (.s 6),none⟩,
 ⟨some 58,.load none (.s 2),none⟩,
 ⟨some 59,.mov (.s 7),none⟩,
 ⟨some 60,.idxS 1 (.s 58) (.s 59),none⟩,
 ⟨some 61,.load none (.s 60),none⟩,
 ⟨some 62,.bin .add (.s 57) (.s 61),none⟩,
 ⟨some 6,.mov (.s 62),none⟩])
 (.reg false false [⟨some 63,.mov (.s 5),none⟩,
 ⟨some 64,.bin .add (.s 63) (.c (.int .i64 1)),none⟩,
 ⟨some 5,.mov (.s 64),none⟩])))))))
def zEp:C:=.seq (.reg false false [⟨some 8,.load none (.s 1),none⟩,
 ⟨some 9,.len (.s 8),none⟩,
 ⟨some 10,.mk 1 8 [(.int .i64 0)] (.s 9) (.s 9),none⟩,
 ⟨some 4,.mov (.s 10),none⟩,
 ⟨some 5,.mov (.c (.int .i64 0)),none⟩,
 ⟨some 6,.mov (.c (.int .i64 0)),none⟩])
 (.scope (.block 0 (.loop zsE)))
theorem zDa:zt6 mC 125=some (65,zEp,[],false):=zgQ (by kernel_rfl)
theorem zcV{zaf:List Int}{u:List (Int×Int×List Int)}(hu:zAB zaf steps=some u):
  Gen mC 125 [] [.fptr false ((eL (eI .i64)).c false zaf),.fptr false ((eL (eI .i64)).c false steps)] u (λy n0 args G=>args=[dI y.1,dI y.2.1]/\G=[.els 1 (y.2.2.map ((eI .i64).c true))]):=by
 intro n0 β P Ps hβ hlen hround L hP;refine zdD.ofM zDa (zeD rfl) (qad rfl) ?_;obtain⟨_,hsm,hu⟩:=bsM hu;obtain⟨z,hz,hv⟩:=bsM hu;have hL:=hlen _ _ hP;have hm:IntKind.i64.wrap ((zaf.length:Int) - 1)=(zaf.length:Int) - 1:=by
  have:=zhJ hsm;exact wrap64 (by omega) (by omega)
 unfold zEp;refine zad ?_;refine sXM (anM ((zar hz).1.1) (anM ((zar hz).1.2) (anM @qbI (anM @qax (show List.replicate zaf.length [(dI 0)]=z.map ((eI .i64).c true)from(zfF hz ((eI .i64).c true))))))) ?_;refine EvL.scope (zad ?_);refine sSM ?_;rw[hL];refine EvL.loop (α:=Nat×Nat×List Int×Int×Int×List LB) (λa=>⟨65,[(0,.yld β),(1,.fptr false ((eL (eI .i64)).c false zaf)),(2,.fptr false ((eL (eI .i64)).c false steps)),(4,.sl n0 0 1 zaf.length (some zaf.length) zaf.length),(5,dI a.2.2.2.1),(6,dI a.2.2.2.2.1)],a.2.2.2.2.2 ++ [.els 1 (a.2.2.1.map ((eI .i64).c true))]⟩)
  (λa=>P a.2.1 a.2.2.2.2.2/\zDq zaf steps a.1 a.2.2.1 a.2.2.2.1 a.2.2.2.2.1=some (u.drop a.2.1)/\a.2.2.1.length=zaf.length) (λa=>a.1) ((zaf.foldl (· * ·) 1).toNat,0,z,0,0,L) (by refine zbi.sub ?_; exact⟨rfl,rfl,rfl,rfl,rfl,rfl,qds⟩) ⟨hP,hv,by rw[zbh hz,qax]⟩ ?_
 rintro⟨n,j,vals,i,at_,L'⟩ ⟨hPi,hvk,hvl⟩;simp only at hPi hvk hvl;cases n with
 | zero=>cases hvk
 | succ n=>
 unfold zDq at hvk;obtain⟨⟨vals1,at1,kk⟩,hc,hvk⟩:=bsM hvk;simp only at hvk;have hul:∃ r,u.drop j=(i,at_,vals):: r:=by
  cases hk:decide (kk<0)with
  | true=>rw[hk,qdt]at hvk; exact⟨[],(qaf hvk).symm⟩
  | false=>
   rw[hk,qdu]at hvk;obtain⟨v,_,vals2,_,st,_,hvk⟩:=zjp hvk;obtain⟨l,_,hl⟩:=zoP hvk;exact⟨l,hl⟩
 obtain⟨r,hul⟩:=hul;have hj:j<u.length:=by
  refine Nat.lt_of_not_le λhn=>?_
  rw[qbn hn]at hul;cases hul
 have huj:u[j]? = some (i,at_,vals):=by
  rw[qay hj]at hul;rw[qac hj,(qcI hul).1]
 have hur:u.drop (j+1)=r:=by
  rw[qay hj]at hul;exact(qcI hul).2
 unfold zsE;refine wSM ?_;refine EvL.yield rfl rfl rfl (hround j (i,at_,vals) L' _ [.els 1 (vals.map ((eI .i64).c true))] huj hPi ⟨rfl,rfl⟩) ?_;rintro b L2 ⟨L1,rfl,hl1,hb⟩;cases b with
 | false=>
  refine sSM ?_;exact⟨[],rfl,L1,_,rfl,hl1,.inr hb⟩
 | true=>
 have hga:=zBp hl1;have hsa:=zBk hl1;refine sXM hm ?_;refine EvL.jn (λa:List Int×Int×Int=>⟨65,[(0,.yld β),(1,.fptr false ((eL (eI .i64)).c false zaf)),(2,.fptr false ((eL (eI .i64)).c false steps)),(4,.sl n0 0 1 zaf.length (some zaf.length) zaf.length),(5,dI i),(6,dI a.2.1),(7,dI a.2.2)],L1 ++ [.els 1 (a.1.map ((eI .i64).c true))]⟩) (λa=>a=(vals1,at1,kk)/\a.1.length=zaf.length) ?_ ?_
 .refine wSM ?_;refine EvL.loop (α:=Nat×List Int×Int) (λa=>⟨65,[(0,.yld β),(1,.fptr false ((eL (eI .i64)).c false zaf)),(2,.fptr false ((eL (eI .i64)).c false steps)),(4,.sl n0 0 1 zaf.length (some zaf.length) zaf.length),(5,dI i),(6,dI a.2.2),(7,dI ((a.1:Int) - 1))],L1 ++ [.els 1 (a.2.1.map ((eI .i64).c true))]⟩)
   (λa=>zlB zaf steps a.1 a.2.1 a.2.2=some (vals1,at1,kk)/\a.2.1.length=zaf.length/\a.1<=zaf.length) (λa=>a.1) (zaf.length,vals,at_) (by refine zbi.sub ?_; exact⟨rfl,rfl,rfl,rfl,rfl,rfl,rfl,qds⟩) ⟨hc,hvl,qap _⟩ ?_
  rintro⟨f,vs,a⟩ ⟨hf,hvs,hfl⟩;simp only at hf hvs hfl;simp only[zAx,zCX];refine wSM ?_;cases f with
  | zero=>
   cases hf;refine EvL.scope (zad ?_);have hk:((0:Nat):Int) - 1 = -1:=rfl;refine sXM hk ?_;exact⟨_,⟨rfl,hvs⟩,zbi.sub ⟨rfl,rfl,rfl,rfl,rfl,rfl,rfl,qds⟩⟩
  | succ f=>
   have hk:((f+1:Nat):Int) - 1=(f:Int):=by omega
   have hk0:(0:Int)<=(f:Int):=by omega
   unfold zlB at hf;obtain⟨v,q1,c,q2,hf⟩:=zgs hf;refine EvL.scope (zad ?_);cases hb:(v == w64 (c - 1))with
   | false=>
    rw[hb,qdu]at hf;cases hf;refine sXM (anM hk (anM hk0 (anM hga (anM hvs (anM (show(f:Int)<((zaf.length:Nat):Int)from hvs ▸ zeh q1) (anM (zcn q1 ((eI .i64).c true)) (anM (zaz (n:=1) (e:=eI .i64) rfl q2) hb))))))) ?_;exact⟨_,⟨rfl,hvs⟩,zbi.sub ⟨rfl,rfl,rfl,rfl,rfl,rfl,rfl,qds⟩⟩
   | true=>
    rw[hb,qdt]at hf;obtain⟨st,q3,vs',q4,hf⟩:=zgs hf;have hw:IntKind.i64.wrap ((f:Int) - 1)=(f:Int) - 1:=by
     have:=zhJ hsm;exact wrap64 (by omega) (by omega)
    refine sXM (anM hk (anM hk0 (anM hga (anM hsa (anM hvs (anM (show(f:Int)<((zaf.length:Nat):Int)from hvs ▸ zeh q1) (anM (zcn q1 ((eI .i64).c true)) (anM (zaz (n:=1) (e:=eI .i64) rfl q2) (anM (zaz (n:=1) (e:=eI .i64) rfl q3) (anM hb (anM (show(vs.map ((eI .i64).c true)).set (f:Int).toNat [dI 0]=vs'.map ((eI .i64).c true)from zd6 q4 ((eI .i64).c true)) hw))))))))))) ?_;exact⟨(f,vs',w64 (a - w64 (v * st))),⟨hf,by rw[zaS q4]; exact hvs,by omega⟩,qbo f,zbi.sub ⟨rfl,rfl,rfl,rfl,rfl,rfl,rfl,qds⟩⟩
 rintro a ⟨rfl,hvs⟩;simp only at hvs;refine zad ?_;cases hk:decide (kk<0)with
 | true=>
  rw[hk,qdt]at hvk;refine sXM hk ?_;have h1:u.length=j+1:=by
   have h2:=qaf hvk;have h3:u.drop (j+1)=[]:=by
    rw[hur];rw[<- h2]at hul;exact(qcI hul).2.symm
   have h4:=List.drop_eq_nil_iff.1 h3;omega
  exact⟨[],rfl,L1,_,rfl,hl1,.inl (by rw[h1]; exact hb)⟩
 | false=>
  rw[hk,qdu]at hvk;obtain⟨v,q1,vals2,q2,st,q3,hvk⟩:=zjp hvk;obtain⟨l,q4,hl⟩:=zoP hvk;refine sXM (anM hk (anM hga (anM hsa (anM hvs (anM (za2 q1) (anM (show kk<((zaf.length:Nat):Int)from hvs ▸ zeh q1) (anM (zcn q1 ((eI .i64).c true)) (anM (show(vals1.map ((eI .i64).c true)).set kk.toNat [dI (w64 (v+1))]=vals2.map ((eI .i64).c true)from zd6 q2 ((eI .i64).c true)) (zaz (n:=1) (e:=eI .i64) rfl q3))))))))) ?_;refine⟨(n,j+1,vals2,w64 (i+1),w64 (at1+st),L1),⟨hb,?_,by rw[zaS q2]; exact hvs⟩,qbo n,zbi.sub ⟨rfl,rfl,rfl,rfl,rfl,rfl,qds⟩⟩;simp only;rw[q4,hur];rw[hul]at hl;rw[(qcI hl).2]
def zcl(p0:S_haruspexlaw09_Ask)(p1:Int):Option Int:=
(zp3 (IntKind.u64.wrap p0.v) (IntKind.u64.wrap (zly p1 1))).bind λq1=>
some (w64 q1)
theorem zj4{p0:S_haruspexlaw09_Ask}{p1:Int}{r:Int}(h:zcl p0 p1=some r):Lx.Fn mC 26 [(.agg [(dU8 p0.known.which),(dU8 p0.known.v.a0),(dU8 p0.known.v.a1),(dU8 p0.known.v.a2),(dU8 p0.known.v.a3),(dU8 p0.known.v.a4),(dU8 p0.known.v.a5),(dU8 p0.known.v.a6),(dU8 p0.known.v.a7),(dI p0.v),(dU8 p0.l.a0),(dU8 p0.l.a1),(dU8 p0.l.a2),(dU8 p0.l.a3),(dU8 p0.l.a4),(dU8 p0.l.a5),(dU8 p0.l.a6),(dU8 p0.l.a7),(fzE false (eI .i64) p0.e),(fzE false (eI .i64) p0.order)]),(dI p1)] (dI r):=by
 refine gnO ?_;unfold zcl at h;refine zad ?_;obtain⟨q1,g2,h⟩:=bsM h;refine sXM (anM (zhy g2) (zgD g2)) ?_;exact rHM h
end Go.Dc
