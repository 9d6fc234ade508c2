/-
 What net.rows hands back: a closure over its node. Conditions: none.
-/
import Derived.Test.YtbjogdohfhdaiaaGreatErDm
import Derived.Test.YtbjogdohfhdaiaaGreatErLy18
import Derived.Test.YtbjogdohfhdaiaaGreatErLy17
set_option linter.unusedSimpArgs false
set_option linter.unusedVariables false
set_option maxRecDepth 100000
set_option maxHeartbeats 4000000
namespace Go.Dc
open Go Go.Mx Go.Lx Go.Proofs
def zfL(x:S_api_Node):Option S_api_Node:=some x
theorem zkZ{x r:S_api_Node}(h:zfL x=some r):Lx.FnA mC 114 [.agg (zab.c false x)] (.clo 129 [] [.fptr false (zab.c false r)]):=by
 cases h;refine zCt ?_;refine zad ?_;refine sXM @zaj ?_;refine zv1.ret rfl (.clo rfl rfl (λi d d' h1 h2=>by simp at h1) λi d d' h1 h2=>?_);cases i with
 | zero=>
  simp only[qcG,qae]at h1 h2;subst h1;subst h2;exact .ptr rfl (qap _) λk d d' h3 h4=>by
   rw[qaO]at h3;exact(zab.snp (L:=_) (t:=false) (t':=false) x id).get k d d' h3 h4
 | succ i=>simp at h1
def zdk(p0:(List Int))(v5:Int)(C1:Nat):Nat->Int->(List Int)->Option (Out3 Unit (Int×(List Int)) ((List Int)×Bool))
 | 0,_,_=>none
 | n+1,v18,l0'=>(
bif (decide (v18<(p0.length:Int)))then(
(zaE p0 v18).bind λx5=>
(((ziN .u64 v5 v18).bind λq7=>
bif ((ziv .u64 q7 1)== 0)then(
some (((zBd .u64 x5 v5)== 0),l0'))
else(
some (false,l0')):Option ((Bool×(List Int))))).bind λo=>match o with
|(v33,l0'')=>(
bif v33 then(
(zqU C1 l0'' [v18]).bind λy11=>
(zpp .u64 1 v18).bind λq13=>
some (.brk ((orI .u64 v5 q13),y11)))
else(
zdk p0 v5 C1 n (w64 (v18+1)) l0'')))
else(
some (.go ())))
def zdi(p0:(List Int))(C1:Nat):Nat->Int->(List Int)->Option (Out (List Int) ((List Int)×Bool))
 | 0,_,_=>none
 | n+1,v5,l0=>(
bif (decide (((l0.length:Nat):Int)<(p0.length:Int)))then(
((zdk p0 v5 C1 ((p0.length:Int) - 0+2:Int).toNat 0 l0:Option (Out3 Unit (Int×(List Int)) ((List Int)×Bool)))).bind λo=>match o with
| .go _=>(
some (.ret ([],false)))
| .brk (v5',l0')=>(
zdi p0 C1 n v5' l0')
| .ret r=>some (.ret r))
else(
some (.go l0)))
def zeA(p0:(List Int)):Option ((List Int)×Bool):=
(zDy 8 (p0.length:Int)).bind λC1=>
((zdi p0 C1 ((p0.length:Int) - ((([]:List Int).length:Nat):Int)+2:Int).toNat 0 ([]:List Int):Option (Out (List Int) ((List Int)×Bool)))).bind λo=>match o with
| .go l0=>(
some (l0,true))
| .ret r=>some r
theorem zns{p0:(List Int)}{r:((List Int)×Bool)}(h:zeA p0=some r):Lx.Fn mC 88 [(fzE false (eI .u64) p0)] (.tup [(fzE true (eI .i64) r.1),(dB r.2)]):=by
 refine gnO ?_;unfold zeA at h;refine wSM ?_;refine EvL.scope (zad ?_);obtain⟨C1,g2,h⟩:=bsM h;refine sXM (anM ((znR g2).1.1) (anM ((znR g2).1.2) (anM ((znR g2).2) (anM @qbI (anM @Int.toNat_zero (show List.replicate C1 [(dI 0)]=(room [] C1 0).map ((eI .i64).c true)from zx8 g2 0 ((eI .i64).c true))))))) ?_;obtain⟨o84,j84,h⟩:=bsM h;refine usM [] 1 (λa:(List Int)=>([(4,(.sl 0 0 1 a.length (some C1) C1))],[(0,.els 1 ((room a C1 0).map ((eI .i64).c true)))],[])) λT84 hT84=>?_
 refine EvL.jn T84 (λa=>o84=.go a/\a.length<=C1) ?_ ?_
 .refine wSM ?_;refine usM [0] 1 (λa:(Int×(List Int))=>([(4,(.sl 0 0 1 a.2.length (some C1) C1)),(5,(dU a.1))],[(0,.els 1 ((room a.2 C1 0).map ((eI .i64).c true)))],[])) λT103 hT103=>?_
  refine rdM hT103 (λn a=>zdi p0 C1 n a.1 a.2=some o84/\a.2.length<=C1) (0,([]:List Int)) ⟨j84,(qau _)⟩ ?_;rintro n ⟨v5,l0⟩ ⟨j84,el0⟩;simp only[zdi]at j84;rw[congrFun hT103 (v5,l0)];refine zad ?_;refine sXM (zjN el0 0) ?_;refine cBM j84 (λ_ j84=>?_) λ_ j84=>?_
  .obtain rfl:=qaf j84;exact zcz hT84 _ ⟨rfl,el0⟩
  obtain⟨o108,j108,j84⟩:=bsM j84;refine usM [] 0 (λa:Unit=>([],[],[])) λT108 hT108=>?_
  refine usM [0] 1 (λa:(Int×(List Int))=>([(4,(.sl 0 0 1 a.2.length (some C1) C1)),(5,(dU a.1))],[(0,.els 1 ((room a.2 C1 0).map ((eI .i64).c true)))],[])) λTB108 hTB108=>?_
  refine EvL.jn2 (id:=1) T108 (λa=>o108=.go a) TB108 (λa=>o108=.brk a/\a.2.length<=C1) (λid S hx=>by first | (rcases hx with⟨hx | hx,_⟩<;> cases hx)| exact hx.elim) ?_ ?_ ?_
  .refine wSM ?_;refine usM [0,5,16,17] 1 (λa:(Int×(List Int))=>([(4,(.sl 0 0 1 a.2.length (some C1) C1)),(18,(dI a.1))],[(0,.els 1 ((room a.2 C1 0).map ((eI .i64).c true)))],[])) λT111 hT111=>?_
   refine rdM hT111 (λn a=>zdk p0 v5 C1 n a.1 a.2=some o108/\a.2.length<=C1) (0,l0) ⟨j108,el0⟩ ?_;rintro n ⟨v18,l0'⟩ ⟨j108,el0'⟩;simp only[zdk]at j108;refine wTM hT111 ?_;refine cBM j108 (λ_ j108=>?_) λ_ j108=>?_
   .obtain rfl:=qaf j108;exact zcz hT108 _ rfl
   obtain⟨x5,g6,j108⟩:=bsM j108;refine sXM (zaz (n:=1) (e:=(eI .u64)) rfl g6) ?_;obtain⟨o112,j112,j108⟩:=bsM j108;obtain⟨T112,hT112⟩:=zdp hT111 λa:(Bool×(List Int))=>uDM (T111 (v18,l0')) [4] [(4,(.sl 0 0 1 a.2.length (some C1) C1)),(6,(dI v18)),(33,(dB a.1))] [(0,.els 1 ((room a.2 C1 0).map ((eI .i64).c true)))] []
   refine EvL.jn T112 (λa=>a=o112/\a.2.length<=C1) ?_ ?_
   .refine zad ?_;obtain⟨q7,g8,j112⟩:=bsM j112;refine sXM (anM ((zaX g8).1) ((zaX g8).2)) ?_;refine cBM j112 (λ_ j112=>?_) λ_ j112=>?_
    .obtain rfl:=qaf j112;exact zcz hT112 _ ⟨rfl,el0'⟩
    obtain rfl:=qaf j112;exact zcz hT112 _ ⟨rfl,el0'⟩
   rintro⟨v33,l0''⟩ ⟨rfl,el0''⟩;dsimp only at j108;refine wTM hT112 ?_;refine cBM j108 (λ_ j108=>?_) λ_ j108=>?_
   .exact zcz hT111 ((w64 (v18+1)),l0'') ⟨j108,el0''⟩
   obtain⟨y11,g12,q13,g14,j108⟩:=zgs j108;refine sXM (anM (zjN el0'' 0) (anM (show l0''.length+1=y11.length from zos g12) (anM (zr1 g12) (anM (show((room l0'' C1 0).map ((eI .i64).c true)).take l0''.length ++ [[(dI v18)]]++ ((room l0'' C1 0).map ((eI .i64).c true)).drop y11.length=(room y11 C1 0).map ((eI .i64).c true)from zuP g12 0 ((eI .i64).c true)) (anM ((zbK g14).1) ((zbK g14).2)))))) ?_;obtain rfl:=qaf j108;exact zcz hTB108 _ ⟨rfl,(zr1 g12)⟩
  .rintro⟨⟩ rfl;dsimp only at j84;refine wTM hT108 ?_;obtain rfl:=qaf j84;exact rHM h
  rintro⟨v5',l0'⟩ ⟨rfl,el0'⟩;dsimp only at j84;refine wTM hTB108 ?_;exact zcz hT103 (v5',l0') ⟨j84,el0'⟩
 rintro l0 ⟨rfl,el0⟩;dsimp only at h;refine wTM hT84 ?_;obtain rfl:=qaf h;exact zjI.ret rfl (Snp.zDB (.cons (zyn (e:=(eI .i64)) (t:=true) (z:=0) rfl rfl el0 (λ_=>rfl)) (.cons (.lit _) .nil)))
def zcg(p0:Int):Option Bool:=
some false
variable{p0:Int}{r:Bool}
theorem ze7(h:zcg p0=some r):Lx.Fn mC 135 [(dI p0)] (dB r):=by
 refine gnO ?_;unfold zcg at h;refine wSM ?_;exact rHM h
def zel(q:S_eliminate_query)(list:List S_api_Factor)(order:List Int):Option (S_eliminate_query×List S_api_Factor×List Int):=some (q,list,order)
theorem zkP{α:Type}{L:List LB}{F:Nat->Bool}{β:Nat}{t2 t:Bool}(e:En α)(x:α)(hF:F β=true)(hL:L[β]? = some (.cells (e.c t x)))(h:t2=true->t=true):Mz L F false (.ptr β 0) (.fptr t2 (e.c t2 x)):=
 .ptr hF hL (by rw[e.len,e.len]; omega) λk d d' h1 h2=>e.mz x (by simpa using h) k d d' (by rwa [qaO]at h1) h2
theorem ziB{q:S_eliminate_query}{list:List S_api_Factor}{order:List Int}{r:S_eliminate_query×List S_api_Factor×List Int}(h:zel q list order=some r):
  FnT mC 52 [.agg (zaq.c false q),fzE false zaa list,fzE false (eI .i64) order]
   [.clo 78 [] [.fptr false ((eL (eI .i64)).c false r.2.2),.fptr false (zaq.c false r.1),.ptr 1 0]] [.gone,.cells [fzE false zaa r.2.1]]:=by
 cases h;refine zHI (by conv=>lhs; cbv) ?_;refine zad ?_;refine sXM @zbD ?_;exact zBK.ret ⟨8,[(6,.clo 78 [] [.fptr false ((eL (eI .i64)).c false order),.fptr false (zaq.c false q),.ptr 1 0])],[.gone,.cells [fzE false zaa list]]⟩
  (zbi.m0 [.f,.k,.f] rfl (mx rfl (Mo.clo rfl rfl (Mos.get .nil) (Mos.get (.cons (.fr (zkP (t:=false) (eL (eI .i64)) order rfl rfl (λh=>h))) (.cons (.fr (zkP (t:=false) zaq q rfl rfl (λh=>h))) (.cons (.same rfl) .nil))))) trivial) ⟨rfl,⟨MB.cs ⟨qds,qds⟩,qds⟩⟩) rfl rfl
def zcp(p0:Int)(kp0:Int):Option Bool:=
some (p0 == kp0)
variable{kp0:Int}
theorem zgI(h:zcp p0 kp0=some r):Lx.Fn mC 106 [(dI p0),(.fptr false [(dI kp0)])] (dB r):=by
 refine gnO ?_;unfold zcp at h;refine wSM ?_;exact rHM h
def zat(p0:(List Int))(kp0:Int):Nat->Int->(List Int)->(List Int)->Option ((List Int)×(List Int))
 | 0,_,_,_=>none
 | n+1,v10,l0,l1=>(
bif (decide (v10<(p0.length:Int)))then(
(zaE p0 v10).bind λx2=>
(zcp x2 kp0).bind λr4=>
((bif r4 then(
(zdE 8 l0 [x2]).bind λy9=>
some (y9,l1))
else(
(zdE 8 l1 [x2]).bind λy7=>
some (l0,y7)):Option (((List Int)×(List Int))))).bind λo=>match o with
|(l0',l1')=>(
zat p0 kp0 n (w64 (v10+1)) l0' l1'))
else(
some (l0,l1)))
def zbP(p0:(List Int))(kp0:Int):Option ((List Int)×(List Int)):=
((zat p0 kp0 ((p0.length:Int) - 0+2:Int).toNat 0 [] []:Option (((List Int)×(List Int))))).bind λo=>match o with
|(l0,l1)=>(
some (l0,l1))
theorem zfv{p0:(List Int)}{r:((List Int)×(List Int))}(h:zbP p0 kp0=some r):Lx.Fn mC 105 [(fzE false (eI .i64) p0),(.clo 106 [] [(.fptr false [(dI kp0)])])] (.tup [(fzE true (eI .i64) r.1),(fzE true (eI .i64) r.2)]):=by
 refine gnO ?_;unfold zbP at h;refine wSM ?_;obtain⟨o5,j5,h⟩:=bsM h;refine usM [] 0 (λa:((List Int)×(List Int))=>([(4,(.sl 0 0 1 a.1.length none a.1.length)),(5,(.sl 1 0 1 a.2.length none a.2.length))],[],[.grow 1 (a.1.map ((eI .i64).c true)),.grow 1 (a.2.map ((eI .i64).c true))])) λT5 hT5=>?_
 refine EvL.jn T5 (λa=>a=o5) ?_ ?_
 .refine wSM ?_;obtain⟨T9,hT9⟩:=mkT λa:(Int×(List Int)×(List Int))=>⟨28,[(1,(.clo 106 [] [(.fptr false [(dI kp0)])])),(4,(.sl 0 0 1 a.2.1.length none a.2.1.length)),(5,(.sl 1 0 1 a.2.2.length none a.2.2.length)),(8,(fzE false (eI .i64) p0)),(9,(dI (p0.length:Int))),(10,(dI a.1))],[.grow 1 (a.2.1.map ((eI .i64).c true)),.grow 1 (a.2.2.map ((eI .i64).c true))]⟩
  refine EvL.zgB (zbi.ghost (n:=1) (k:=4) (by decide) rfl) ?_;refine EvL.zgB (zbi.ghost (n:=1) (k:=5) (by decide) rfl) ?_;refine EvL.rounds (α:=(Int×(List Int)×(List Int))) T9 (λn a=>zat p0 kp0 n a.1 a.2.1 a.2.2=some o5) ((p0.length:Int) - 0+2:Int).toNat (0,[],[]) (by rw[hT9]; exact wm0 [.k,.k] ⟨MB.gs (eI .i64) true [],⟨MB.gs (eI .i64) true [],qds⟩⟩) j5 (λ_ h=>nomatch (show(none:Option ((List Int)×(List Int)))=some o5 from h)) ?_;rintro n ⟨v10,l0,l1⟩ j5;simp only[zat]at j5;refine wTM hT9 ?_;refine cBM j5 (λ_ j5=>?_) λ_ j5=>?_
  .exact zde j5 hT5
  obtain⟨x2,g3,r4,g5,j5⟩:=zgs j5;refine sXM (ixM g3) ?_;refine EvL.fnv rfl rfl (zgI g5) rfl (.cons (.lit _) (.cons (.fptr (λh=>nomatch h) rfl (Snps.get (.cons (.lit _) .nil))) .nil)) ?_;refine sSM ?_;obtain⟨o10,j10,j5⟩:=bsM j5;obtain⟨T10,hT10⟩:=zdp hT9 λa:((List Int)×(List Int))=>uDM (T9 (v10,l0,l1)) [4,5] [(4,(.sl 0 0 1 a.1.length none a.1.length)),(5,(.sl 1 0 1 a.2.length none a.2.length))] [(0,.grow 1 (a.1.map ((eI .i64).c true))),(1,.grow 1 (a.2.map ((eI .i64).c true)))] []
  refine EvL.jn T10 (λa=>a=o10) ?_ ?_
  .refine wSM ?_;refine cBM j10 (λ_ j10=>?_) λ_ j10=>?_
   .obtain⟨y7,g8,j10⟩:=bsM j10;refine sXM (anM (zb9 g8) (anM (plM g8) (piM g8))) ?_;exact zde j10 hT10
   obtain⟨y9,g10,j10⟩:=bsM j10;refine sXM (anM (zb9 g10) (anM (plM g10) (piM g10))) ?_;exact zde j10 hT10
  rintro⟨l0',l1'⟩ rfl;dsimp only at j5;refine wTM hT10 ?_;exact zcz hT9 ((w64 (v10+1)),l0',l1') j5
 rintro⟨l0,l1⟩ rfl;dsimp only at h;refine wTM hT5 ?_;exact rHM h
def zb8(p0:S_api_Factor)(p1:Int):Option Bool:=
(zbP p0.vars p1).bind λr1=>
some (decide (0<(r1.1.length:Int)))
theorem zgf{p0:S_api_Factor}{p1:Int}(h:zb8 p0 p1=some r):Lx.Fn mC 76 [(.agg [(fzE false (eI .i64) p0.vars),(fzE false (eI .i64) p0.zaf),(fzE false (eI .i64) p0.w)]),(dI p1)] (dB r):=by
 refine gnO ?_;unfold zb8 at h;refine zad ?_;obtain⟨r1,g2,h⟩:=bsM h;refine sSM ?_;refine EvL.fn (zfv g2) rfl rfl (.cons (zeg _ _ (λh=>nomatch h)) (.cons (.clo rfl rfl (Snps.get .nil) (Snps.get (.cons (.ptr rfl (qad rfl) (λk d d' h1 h2=>(Snps.get (.cons (.lit _) .nil)) k d d' (by rwa [qaO]at h1) h2)) .nil))) .nil)) ?_;refine sSM ?_;exact rHM h
def zaH(p1:(List Int))(p0:S_eliminate_query):Nat->Int->Int->Option (Out Unit Bool)
 | 0,_,_=>none
 | n+1,v5,v21=>(
bif (decide (v21<(p1.length:Int)))then(
(zaE p1 v21).bind λx5=>
((bif (decide (x5<0))then(
some true)
else(
bif (decide ((p0.net.nodes.length:Int)<=x5))then(
some true)
else(
(ziN .u64 v5 x5).bind λq9=>
some ((ziv .u64 q9 1)== 1))):Option Bool)).bind λv41=>
bif v41 then(
some (.ret false))
else(
(zpp .u64 1 x5).bind λq12=>
zaH p1 p0 n (orI .u64 v5 q12) (w64 (v21+1))))
else(
some (.go ())))
def zbp(p0:S_eliminate_query)(p1:(List Int)):Option Bool:=
bif ((p1.length:Int)==(w64 ((p0.net.nodes.length:Int) - 1)))then(
(zpp .u64 1 p0.node).bind λq2=>
((zaH p1 p0 ((p1.length:Int) - 0+2:Int).toNat q2 0:Option (Out Unit Bool))).bind λo=>match o with
| .go _=>(
some true)
| .ret r=>some r)
else(
some false)
theorem zfi{p0:S_eliminate_query}{p1:(List Int)}(h:zbp p0 p1=some r):Lx.Fn mC 40 [(.agg [(dI p0.net.grain),(fzE false zab p0.net.nodes),(fzE false (eI .i64) p0.known),(dI p0.node)]),(fzE false (eI .i64) p1)] (dB r):=by
 refine gnO ?_;unfold zbp at h;refine wSM ?_;refine cBM h (λ_ h=>?_) λ_ h=>?_
 .exact rHM h
 obtain⟨q2,g3,h⟩:=bsM h;refine sXM (anM ((zbK g3).1) ((zbK g3).2)) ?_;obtain⟨o4,j4,h⟩:=bsM h;refine usM [] 0 (λa:Unit=>([],[],[])) λT4 hT4=>?_
 refine EvL.jn T4 (λa=>o4=.go a) ?_ ?_
 .refine wSM ?_;refine usM [2,19,20] 1 (λa:(Int×Int)=>([(5,(dU a.1)),(21,(dI a.2))],[],[])) λT7 hT7=>?_
  refine rdM hT7 (λn a=>zaH p1 p0 n a.1 a.2=some o4) (q2,0) j4 ?_;rintro n ⟨v5,v21⟩ j4;simp only[zaH]at j4;refine wTM hT7 ?_;refine cBM j4 (λ_ j4=>?_) λ_ j4=>?_
  .exact zsT j4 hT4
  obtain⟨x5,g6,j4⟩:=bsM j4;refine sXM (ixM g6) ?_;obtain⟨o8,j8,j4⟩:=bsM j4;obtain⟨T8,hT8⟩:=zdp hT7 λa:Bool=>uDM (T7 (v5,v21)) [] [(7,(dI x5)),(41,(dB a))] [] []
  refine EvL.jn T8 (λa=>a=o8) ?_ ?_
  .refine wSM ?_;refine cBM j8 (λ_ j8=>?_) λ_ j8=>?_
   .refine cBM j8 (λ_ j8=>?_) λ_ j8=>?_
    .obtain⟨q9,g10,j8⟩:=bsM j8;refine sXM (anM ((zaX g10).1) ((zaX g10).2)) ?_;exact zde j8 hT8
    exact zde j8 hT8
   exact zde j8 hT8
  rintro v41 rfl;refine wTM hT8 ?_;refine cBM j4 (λ_ j4=>?_) λ_ j4=>?_
  .obtain⟨q12,g13,j4⟩:=bsM j4;refine sXM (anM ((zbK g13).1) ((zbK g13).2)) ?_;exact zcz hT7 ((orI .u64 v5 q12),(w64 (v21+1))) j4
  obtain rfl:=qaf j4;exact rHM h
 rintro⟨⟩ rfl;dsimp only at h;refine wTM hT4 ?_;exact rHM h
def zcE(p0:Int)(p1:Int)(p2:A8_Intu8):Nat->(List Int)->Int->Option (List Int)
 | 0,_,_=>none
 | n+1,v7,v8=>(
bif (decide (v8<p0))then(
((bif (v8 == p1)then(
some v7)
else(
(zaE [p2.a0,p2.a1,p2.a2,p2.a3,p2.a4,p2.a5,p2.a6,p2.a7] (v8.tmod 8)).bind λx3=>
(zp3 (w64 x3) (w64 ((v7.length:Int)+1))).bind λq5=>
(zev v7 0 q5).bind λy7=>
(zex 8 y7).bind λy9=>
(zdE 8 y7 [v8]).bind λy11=>
(zev v7 q5 v7.length).bind λy13=>
(zdE 8 y11 y13).bind λy15=>
some y15):Option (List Int))).bind λv7'=>
zcE p0 p1 p2 n v7' (w64 (v8+1)))
else(
some v7))
def zdb(p0:Int)(p1:Int)(p2:A8_Intu8):Option (List Int):=
((zcE p0 p1 p2 (p0 - 0+2:Int).toNat [] 0:Option (List Int))).bind λv7=>
some v7
theorem zmz{p1:Int}{p2:A8_Intu8}{r:(List Int)}(h:zdb p0 p1 p2=some r):Lx.Fn mC 27 [(dI p0),(dI p1),(.agg [(dU8 p2.a0),(dU8 p2.a1),(dU8 p2.a2),(dU8 p2.a3),(dU8 p2.a4),(dU8 p2.a5),(dU8 p2.a6),(dU8 p2.a7)])] (fzE true (eI .i64) r):=by
 refine gnO ?_;unfold zdb at h;refine wSM ?_;obtain⟨o4,j4,h⟩:=bsM h;refine usM [] 0 (λa:(List Int)=>([(7,(fzE true (eI .i64) a))],[],[])) λT4 hT4=>?_
 refine EvL.jn T4 (λa=>a=o4) ?_ ?_
 .refine wSM ?_;refine usM [0,1,5] 1 (λa:((List Int)×Int)=>([(7,(fzE true (eI .i64) a.1)),(8,(dI a.2))],[],[])) λT7 hT7=>?_
  refine EvL.rounds (α:=((List Int)×Int)) T7 (λn a=>zcE p0 p1 p2 n a.1 a.2=some o4) (p0 - 0+2:Int).toNat ([],0) (by rw[hT7]; exact zbi.m0 [.k] rfl (msq (msq (msq (mf rfl (zjm (eI .i64)) (msq trivial))))) ⟨MB.cs ⟨qds,qds,qds,qds,qds,qds,qds,qds,qds⟩,qds⟩) j4 (λ_ h=>nomatch (show(none:Option (List Int))=some o4 from h)) ?_;rintro n ⟨v7,v8⟩ j4;simp only[zcE]at j4;refine wTM hT7 ?_;refine cBM j4 (λ_ j4=>?_) λ_ j4=>?_
  .exact zde j4 hT4
  obtain⟨o8,j8,j4⟩:=bsM j4;obtain⟨T8,hT8⟩:=mkT λa:(List Int)=>⟨42,[(0,(dI p0)),(1,(dI p1)),(5,(.ptr 0 0)),(7,(fzE true (eI .i64) a)),(8,(dI v8))],[.cells [(dU8 p2.a0),(dU8 p2.a1),(dU8 p2.a2),(dU8 p2.a3),(dU8 p2.a4),(dU8 p2.a5),(dU8 p2.a6),(dU8 p2.a7)]]⟩
  refine EvL.jn T8 (λa=>a=o8) ?_ ?_
  .refine zad ?_;try simp only[rnA,Nat.reduceEqDiff,Nat.reduceLT,reduceCtorEq]
   cases c2:(v8 == p1)
   .rw[c2,qdu]at j8;obtain⟨x3,g4,q5,g6,y7,g8,j8⟩:=zjp j8;obtain⟨y9,g10,y11,g12,y13,g14,j8⟩:=zjp j8;obtain⟨y15,g16,j8⟩:=bsM j8;refine zHX (za2 g4) (show(v8.tmod 8)<((8:Nat):Int)from zeh g4) @qb7 (show [(dU8 p2.a0),(dU8 p2.a1),(dU8 p2.a2),(dU8 p2.a3),(dU8 p2.a4),(dU8 p2.a5),(dU8 p2.a6),(dU8 p2.a7)][(v8.tmod 8).toNat]? = some (.lit (.int .u8 x3))from zuX g4 (λx=>(.lit (.int .u8 x):D)) rfl) (zhy g6) (anM (zgD g6) (anM (zAn (n:=1) (e:=(eI .i64)) rfl g8) (anM (zmX (n:=1) (e:=(eI .i64)) rfl) (anM (zkM g10) (anM (zb9 g12) (anM (plM g12) (anM (piM g12) (anM (zAg (n:=1) (e:=(eI .i64)) rfl g14) (anM (zb9 g16) (anM (show y11.length+y13.length=y15.length from zfB g16) (show y11.map ((eI .i64).c true)++ y13.map ((eI .i64).c true)=y15.map ((eI .i64).c true)from zdW g16 ((eI .i64).c true)))))))))))) ?_;replace j8:=qaf j8; subst j8;exact lfj hT8 rfl (zbi.m0 [.k,.f] rfl (msq (msq (msq (mf rfl (zkX (e:=(eI .i64)) (t:=true) rfl rfl (.inr rfl) rfl rfl (λk h=>nomatch h) (λh=>by cases h<;>rfl)) (msq trivial))))) ⟨MB.cs ⟨qds,qds,qds,qds,qds,qds,qds,qds,qds⟩,qds⟩)
   rw[c2,qdt]at j8;refine sSM ?_;exact zde j8 hT8
  rintro v7' rfl;refine wTM hT8 ?_;exact zcz hT7 (v7',(w64 (v8+1))) j4
 rintro v7 rfl;refine wTM hT4 ?_;exact rHM h
abbrev gdN:Nat:=96
abbrev gdD:Nat:=118
def zH6:C:=
 .seq (.reg false false [⟨some 2,.alloc [(.int .i64 0),(.int .i64 0)],none⟩,
 ⟨some 3,.alloc [(.int .i64 0)],none⟩])
 (.seq (.reg false false [⟨some 4,.clo gdD [] [(.s 2),(.s 3)],none⟩,
 ⟨none,.defer (.s 4) [],none⟩])
 (.seq (.reg false false [⟨some 5,.mov (.s 0),none⟩,
 ⟨some 6,.zd8 (.s 5) [],none⟩,
 ⟨none,.store 2 (.s 2) (.s 6),none⟩,
 ⟨none,.store 1 (.s 3) (.c (.int .i64 0)),none⟩])
 (.ret)))
def zEK:C:=
 .seq (.reg false false [⟨some 3,.recover,none⟩,
 ⟨some 4,.eqi true (.s 3),none⟩])
 (.cond (.s 4) (.seq (.reg false false [⟨some 2,.alloc [(.int .i64 0),(.int .i64 0)],none⟩])
 (.reg false false [⟨some 5,.load (some 2) (.s 2),none⟩,
 ⟨none,.store 2 (.s 0) (.s 5),none⟩,
 ⟨none,.store 1 (.s 1) (.c (.int .i64 6)),none⟩]))
 (.skip))
def zyg:Mx.Fn:=⟨7,zH6,[.cell 2 (some 2),.cell 3 none],false⟩
def zuG:Mx.Fn:=⟨6,zEK,[],false⟩
theorem zFr:mC.fns gdN=some zyg:=by
 have h:zjG Tryz.prog gdN=some zyg:=by
  rw[<- ziH]
  kernel_rfl
 exact h
theorem zEy:mC.fns gdD=some zuG:=by
 have h:zjG Tryz.prog gdD=some zuG:=by
  rw[<- ziH]
  kernel_rfl
 exact h
theorem zFx:mC.has gdN zyg:=⟨zFr,zeD rfl⟩
theorem zzI(n B a b:Nat)(h:zam):(mC.run (n+1)).dcall B gdD [.ptr a 0,.ptr b 0] none h=some (none,h):=by
 show zm6 (mC.run n) mC.fns B gdD [.ptr a 0,.ptr b 0] none h=_;unfold zm6;rw[zEy];have e:Nat.ble 2 6=true:=rfl;simp[zuG,zEK,zgn,exec,zqQ,isRec,zr8,wanted,St.put,zak,q,ev,evB,zcL,zbc,List.replicate,e]
abbrev lI(n:Int):V:=.lit (.int .i64 n)
variable{a b:Int}
theorem zEF{B:Nat}{h:zam}{f:Nat}{ws:List V}{Q:CR->zam->Prop}(hB:B<=h.length)(hc:EvF mC B f ws (h ++ [.blk [lI 0,lI 0]]++ [.blk [lI 0]]) λcr H'=>cr=.ret (.agg [lI a,lI b])/\H'[h.length]? = some (.blk [lI 0,lI 0])/\H'[h.length+1]? = some (.blk [lI 0])/\
   Q (.ret (.tup [.agg [lI a,lI b],lI 0])) ((H'.set h.length (.blk [lI a,lI b])).set (h.length+1) (.blk [lI 0]))):EvF mC B gdN [.clo f [] ws] h Q:=by
 obtain⟨N,cr,H',h1,rfl,h2,h3,h4⟩:=hc;have hb1:zax H' h.length=some [lI 0,lI 0]:=by simp[zax,h2]
 have hl1:h.length<H'.length:=(qab.1 h2).1;have hl2:h.length+1<H'.length:=(qab.1 h3).1;have hb2:zax (H'.set h.length (.blk [lI a,lI b])) (h.length+1)=some [lI 0]:=by simp[zax,h3]
 have hb3:zax ((H'.set h.length (.blk [lI a,lI b])).set (h.length+1) (.blk [lI 0])) h.length=some [lI a,lI b]:=by simp[zax,hl1]
 have hb4:zax ((H'.set h.length (.blk [lI a,lI b])).set (h.length+1) (.blk [lI 0])) (h.length+1)=some [lI 0]:=by simp[zax,hl2]
 have e1:Nat.ble 1 7=true:=rfl;have e2:Nat.ble 2 2=true:=rfl;have e3:Nat.ble 1 1=true:=rfl;refine⟨N+3,_,_,λn hn=>?_,h4⟩;obtain⟨m,rfl⟩:∃ m,n=m+2:=⟨n - 2,by omega⟩;rw[Mach.zni zFx];unfold zi2;rw[zFr];have hh:=h1 (m+1) (by omega);have hdc:=zzI m B h.length (h.length+1) ((H'.set h.length (.blk [lI a,lI b])).set (h.length+1) (.blk [lI 0]));simp[zyg,zH6,body,exec,zbg,zdv,wanted,St.put,zak,q,Mx.eff,ev,evs,zbc,List.replicate,V.cells,zhm,qat hB,qat (Nat.le_succ_of_le hB),zbT,zno,zpM,fin,zcL,zht,takeN,zhB,e1]at hh hdc ⊢;simp[hh,hdc,hb1,hb2,hb3,hb4,qat hB,e2,e3,leave];exact⟨_,rfl,rfl⟩
theorem zyf{c:Cx}{v:V}(h:R c (.agg [dI a,dI b]) v):v=.agg [lI a,lI b]:=by
 cases h with
 | agg h1 h2=>
  rename_i vs
  match vs,h1,h2 with
  | [x,y],_,h2=>
   have e1:=h2 0 _ _ rfl rfl;have e2:=h2 1 _ _ rfl rfl;cases zob e1;cases zob e2;rfl
  | [],h1,_=>simp at h1
  | [_],h1,_=>simp at h1
  | _ :: _ :: _ :: _,h1,_=>simp at h1
theorem zGG{f:Nat}{us:List D}(hf:Lx.Fn mC f us (.agg [dI a,dI b])):Lx.Fn mC gdN [.clo f [] us] (.tup [.agg [dI a,dI b],dI 0]):=by
 intro z B H vs hz hB hr;obtain⟨v,vs',rfl,h1,h2⟩:=hr.inv;have hvs:vs'=[]:=qbf h2.1.symm;subst hvs;cases h1 with
 | clo q1 q2 q3 q4=>
  rename_i vs ws;have hv0:vs=[]:=qbf q1.symm;subst hv0;have hlen:(H ++ [Ob.blk [lI 0,lI 0]]++ [Ob.blk [lI 0]]).length=H.length+2:=by simp
  have hpre:∀ b,b<H.length->(H ++ [Ob.blk [lI 0,lI 0]]++ [Ob.blk [lI 0]])[b]? = H[b]?:=λb hb=>by
   rw[qaE,qar hb]
  have hrs:Rs ⟨z,λ_=>none,λ_=>none,(H ++ [Ob.blk [lI 0,lI 0]]++ [Ob.blk [lI 0]]).length⟩ us ws:=
   Rs.mono ⟨q2,q4⟩ ⟨λ_ _ h=>h,λ_ _ h=>h,λβ x hx=>(by cases hx),λb cs cs' h=>(by cases h)⟩
  refine zEF (a:=a) (b:=b) hB (EvF.mono (hf z B _ ws (λb cs hb=>by rw[hpre b (qab.1 (hz b cs hb)).1]; exact hz b cs hb) (by rw[hlen]; omega) hrs) ?_);rintro cr H' ⟨k1,k2,v,zf,rfl,_,k5⟩;rw[hlen]at k1 k2;have g1:(H ++ [Ob.blk [lI 0,lI 0]]++ [Ob.blk [lI 0]])[H.length]? = some (Ob.blk [lI 0,lI 0]):=by simp
  have g2:(H ++ [Ob.blk [lI 0,lI 0]]++ [Ob.blk [lI 0]])[H.length+1]? = some (Ob.blk [lI 0]):=by simp
  refine⟨by rw[zyf k5],by rw[k2 _ (by omega)]; exact g1,by rw[k2 _ (by omega)]; exact g2,by simp only[qaw]; omega,λb hb=>?_,_,λ_=>none,rfl,λb cs hb=>(by cases hb),?_⟩
  .rw[qaD (by omega),qaD (by omega),k2 b (by omega),hpre b hb]
  refine .tup rfl λi d v h1 h2=>?_
  match i with
  | 0=>
   cases h1; cases h2;refine .agg rfl λi d v h1 h2=>?_
   match i with
   | 0=>cases h1; cases h2; exact .lit _
   | 1=>cases h1; cases h2; exact .lit _
   | i+2=>simp at h1
  | 1=>cases h1; cases h2; exact .lit _
  | i+2=>simp at h1
def zep(p0:Bool)(p1:A2_Intu64)(p2:A2_Intu64):Option S_api_Q:=
((bif (p1.a0 == 0)then(
bif (decide (4611686018427387903<p1.a1))then(
some true)
else(
bif (p2.a0 == 0)then(
some (decide (4611686018427387903<p2.a1)))
else(
some true)))
else(
some true):Option Bool)).bind λv24=>
bif v24 then(
none)
else(
bif p0 then(
some (S_api_Q.mk (w64 (0 - (w64 p1.a1))) (w64 p2.a1)))
else(
some (S_api_Q.mk (w64 p1.a1) (w64 p2.a1))))
theorem zfV{p0:Bool}{p1:A2_Intu64}{p2:A2_Intu64}{r:S_api_Q}(h:zep p0 p1 p2=some r):Lx.Fn mC 100 [(dB p0),(.agg [(dU p1.a0),(dU p1.a1)]),(.agg [(dU p2.a0),(dU p2.a1)])] (.agg [(dI r.n),(dI r.d)]):=by
 refine gnO ?_;unfold zep at h;refine wSM ?_;obtain⟨o1,j1,h⟩:=bsM h;refine usM [0,4,5,6] 3 (λa:Bool=>([(24,(dB a))],[],[])) λT1 hT1=>?_
 refine EvL.jn T1 (λa=>a=o1) ?_ ?_
 .refine zad ?_;refine sXM (anM @qb4 @qci) ?_;refine cBM j1 (λ_ j1=>?_) λ_ j1=>?_
  .exact zde j1 hT1
  refine sXM (anM @qb4 @qa2) ?_;refine cBM j1 (λ_ j1=>?_) λ_ j1=>?_
  .refine sXM (anM @qb4 @qci) ?_;refine cBM j1 (λ_ j1=>?_) λ_ j1=>?_
   .exact zde j1 hT1
   refine sXM (anM @qb4 @qa2) ?_;exact zde j1 hT1
  exact zde j1 hT1
 rintro v24 rfl;refine wTM hT1 ?_;refine EvL.scope (zad ?_);refine sSM ?_;refine cBM h (λ_ h=>?_) λ_ h=>?_
 .refine cBM h (λ_ h=>?_) λ_ h=>?_
  .refine sXM (anM @qb4 @qa2) ?_;exact rHM h
  refine sXM (anM @qb4 @qa2) ?_;exact rHM h
 exact nomatch h
def zbJ:Nat->Int->Int->Option Int
 | 0,_,_=>none
 | n+1,v0,v1=>(
bif (v1 == 0)then(
some v0)
else(
(zp3 v0 v1).bind λq2=>
zbJ n v1 q2))
def zdY(N:Nat)(p0:Int)(p1:Int):Option Int:=
((zbJ N p0 p1:Option Int)).bind λv0=>
some v0
variable{N:Nat}
theorem zls{p1:Int}{r:Int}(h:zdY N p0 p1=some r):Lx.Fn mC 98 [(dU p0),(dU p1)] (dU r):=by
 refine gnO ?_;unfold zdY at h;refine wSM ?_;obtain⟨o1,j1,h⟩:=bsM h;refine usM [] 0 (λa:Int=>([(0,(dU a))],[],[])) λT1 hT1=>?_
 refine EvL.jn T1 (λa=>a=o1) ?_ ?_
 .refine wSM ?_;refine usM [] 0 (λa:(Int×Int)=>([(0,(dU a.1)),(1,(dU a.2))],[],[])) λT2 hT2=>?_
  refine rdM hT2 (λn a=>zbJ n a.1 a.2=some o1) (p0,p1) j1 ?_;rintro n ⟨v0,v1⟩ j1;simp only[zbJ]at j1;refine wTM hT2 ?_;refine cBM j1 (λ_ j1=>?_) λ_ j1=>?_
  .obtain⟨q2,g3,j1⟩:=bsM j1;refine sXM (anM (zhy g3) (zgD g3)) ?_;exact zcz hT2 (v1,q2) j1
  exact zde j1 hT1
 rintro v0 rfl;refine wTM hT1 ?_;exact rHM h
def zbA(p0:Int):Option Int:=
bif (decide (p0<0))then(
some (IntKind.u64.wrap (0 - (IntKind.u64.wrap p0))))
else(
some (IntKind.u64.wrap p0))
theorem zb1{r:Int}(h:zbA p0=some r):Lx.Fn mC 99 [(dI p0)] (dU r):=by
 refine gnO ?_;unfold zbA at h;refine wSM ?_;refine cBM h (λ_ h=>?_) λ_ h=>?_
 .exact rHM h
 exact rHM h
def zdA(N:Nat)(kp0:Int)(kp1:Int):Option S_api_Q:=
(zbA kp0).bind λr1=>
(zbA kp1).bind λr3=>
(zdY N r1 r3).bind λr5=>
bif (decide (kp0<0))then(
bif (decide (kp1<0))then(
(zbA kp0).bind λr40=>
(zkp .u64 r40 r5).bind λq42=>
(zbA kp1).bind λr44=>
(zkp .u64 r44 r5).bind λq46=>
(zep false (A2_Intu64.mk 0 q42) (A2_Intu64.mk 0 q46)).bind λr48=>
some r48)
else(
(zbA kp0).bind λr30=>
(zkp .u64 r30 r5).bind λq32=>
(zbA kp1).bind λr34=>
(zkp .u64 r34 r5).bind λq36=>
(zep true (A2_Intu64.mk 0 q32) (A2_Intu64.mk 0 q36)).bind λr38=>
some r38))
else(
bif (decide (kp1<0))then(
(zbA kp0).bind λr19=>
(zkp .u64 r19 r5).bind λq21=>
(zbA kp1).bind λr23=>
(zkp .u64 r23 r5).bind λq25=>
(zep true (A2_Intu64.mk 0 q21) (A2_Intu64.mk 0 q25)).bind λr27=>
some r27)
else(
(zbA kp0).bind λr9=>
(zkp .u64 r9 r5).bind λq11=>
(zbA kp1).bind λr13=>
(zkp .u64 r13 r5).bind λq15=>
(zep false (A2_Intu64.mk 0 q11) (A2_Intu64.mk 0 q15)).bind λr17=>
some r17))
def zge:C:=
 .seq (rg [⟨some 2,.alloc [(.int .i64 0),(.int .i64 0)],none⟩])
 (.seq (.reg true true [oL 4 0,
 oL 6 1,
 oU 5 99 4,
 oU 7 99 6,
 oV 8 98 5 7,
 oM 3 8])
 (.seq (.reg true true [oL 9 0,
 oD 10 .lss 9 0,
 oL 11 1,
 oD 12 .lss 11 0,
 ⟨some 13,.eqb true (.s 10) (.s 12),none⟩,
 oL 14 0,
 oM 16 3,
 oL 19 1,
 oM 21 3,
 oU 15 99 14,
 oB 17 .quo 15 16,
 ⟨some 18,.build [(.int .u64 0),(.int .u64 0)] [(0,1,(.c (.int .u64 0))),(1,1,(.s 17))],none⟩,
 oU 20 99 19,
 oB 22 .quo 20 21,
 ⟨some 23,.build [(.int .u64 0),(.int .u64 0)] [(0,1,(.c (.int .u64 0))),(1,1,(.s 22))],none⟩,
 ⟨some 24,.call 100 [(.s 13),(.s 18),(.s 23)],none⟩,
 oS 2 2 24])
 (.ret)))
theorem ziu:zt6 mC 97=some (25,zge,[.cell 2 (some 2)],false):=zgQ (by kernel_rfl)
theorem zi3{kp1:Int}{r:S_api_Q}(h:zdA N kp0 kp1=some r):Lx.Fn mC 97 [(.fptr false [(dI kp0)]),(.fptr false [(dI kp1)])] (.agg [(dI r.n),(dI r.d)]):=by
 refine Fn.of ziu (zeD rfl) (qad rfl) ?_;unfold zdA at h;simp only[zge,zCX];refine zad ?_;obtain⟨r1,g2,h⟩:=bsM h;refine sSM ?_;refine fCM (zb1 g2) ?_;obtain⟨r3,g4,h⟩:=bsM h;refine sSM ?_;refine fCM (zb1 g4) ?_;obtain⟨r5,g6,h⟩:=bsM h;refine sSM ?_;refine fCM (zls g6) ?_;refine cBM h (λc7 h=>?_) λc7 h=>?_
 .refine sXM @Bool.false_beq ?_;refine cBM h (λc8 h=>?_) λc8 h=>?_
  .obtain⟨r9,g10,h⟩:=bsM h;refine sXM (anM @zg7 (anM @zjo (anM @Bool.false_beq (anM @Bool.true_beq (anM c7 c8))))) ?_;refine fCM (zb1 g10) ?_;obtain⟨q11,g12,h⟩:=bsM h;obtain⟨r13,g14,h⟩:=bsM h;refine sXM (anM (zfe g12) (zfg g12)) ?_;refine fCM (zb1 g14) ?_;obtain⟨q15,g16,h⟩:=bsM h;obtain⟨r17,g18,h⟩:=bsM h;refine sXM (anM (zfe g16) (zfg g16)) ?_;refine fCM (zfV g18) ?_;exact rHM h
  obtain⟨r19,g20,h⟩:=bsM h;refine sXM (anM @zg7 (anM @zjo (anM @Bool.false_beq (anM @Bool.true_beq (anM c7 c8))))) ?_;refine fCM (zb1 g20) ?_;obtain⟨q21,g22,h⟩:=bsM h;obtain⟨r23,g24,h⟩:=bsM h;refine sXM (anM (zfe g22) (zfg g22)) ?_;refine fCM (zb1 g24) ?_;obtain⟨q25,g26,h⟩:=bsM h;obtain⟨r27,g28,h⟩:=bsM h;refine sXM (anM (zfe g26) (zfg g26)) ?_;refine fCM (zfV g28) ?_;exact rHM h
 try simp only[Bool.true_beq]
 refine cBM h (λ_ h=>?_) λ_ h=>?_
 .obtain⟨r30,g31,h⟩:=bsM h;refine sSM ?_;refine fCM (zb1 g31) ?_;obtain⟨q32,g33,h⟩:=bsM h;obtain⟨r34,g35,h⟩:=bsM h;refine sXM (anM (zfe g33) (zfg g33)) ?_;refine fCM (zb1 g35) ?_;obtain⟨q36,g37,h⟩:=bsM h;obtain⟨r38,g39,h⟩:=bsM h;refine sXM (anM (zfe g37) (zfg g37)) ?_;refine fCM (zfV g39) ?_;exact rHM h
 obtain⟨r40,g41,h⟩:=bsM h;refine sSM ?_;refine fCM (zb1 g41) ?_;obtain⟨q42,g43,h⟩:=bsM h;obtain⟨r44,g45,h⟩:=bsM h;refine sXM (anM (zfe g43) (zfg g43)) ?_;refine fCM (zb1 g45) ?_;obtain⟨q46,g47,h⟩:=bsM h;obtain⟨r48,g49,h⟩:=bsM h;refine sXM (anM (zfe g47) (zfg g47)) ?_;refine fCM (zfV g49) ?_;exact rHM h
def zgt(N:Nat)(kp0 kp1:Int):Option (S_api_Q×Int):=(zdA N kp0 kp1).bind λq=>some (q,0)
theorem zmT{kp1:Int}{r:S_api_Q×Int}(h:zgt N kp0 kp1=some r):
  Lx.Fn mC 96 [.clo 97 [] [.fptr false [dI kp0],.fptr false [dI kp1]]] (.tup [.agg [dI r.1.n,dI r.1.d],dI r.2]):=by
 obtain⟨q,h1,h2⟩:=bsM h;cases h2;exact zGG (zi3 h1)
end Go.Dc
