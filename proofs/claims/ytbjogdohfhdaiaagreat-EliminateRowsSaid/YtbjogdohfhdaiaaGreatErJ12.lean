/-
 Bend.Of of nets: what it computes; marks of blocks by default tactics. Conditions: none.
-/
import Derived.Test.YtbjogdohfhdaiaaGreatErDm
set_option linter.unusedSimpArgs false
set_option linter.unusedVariables false
set_option maxRecDepth 100000
set_option maxHeartbeats 4000000
set_option maxHeartbeats 8000000
namespace Go.Dc
open Go Go.Mx Go.Lx Go.Proofs
structure FitN (x:S_api_Node):Prop where
 ps:(x.parents.length+1)* 8<=zah
 rs:(x.rows.length+1)* 24<=zah
 row:∀ r∈x.rows,(r.length+1)* 8<=zah
def swL:Nat->Int->Int->List Int->Option (List Int)
 | 0,_,_,_=>none
 | n+1,i,k,r=>bif decide (i<k)then(zaE r i).bind λx=>(zaE r k).bind λy=>(zeT r i y).bind λr1=>(zeT r1 k x).bind λr2=>swL n (w64 (i+1)) (w64 (k - 1)) r2 else some r
def zEg(b:S_haruspexref05_Bend)(n:S_api_Net)(x:S_api_Node)(t:Nat):Nat->Option S_api_Net
 | 0=>some ⟨b.n,n.nodes⟩
 | 1=>some ⟨n.grain,n.nodes.set t ⟨b.n,x.parents,x.rows⟩⟩
 | 2=>some ⟨n.grain,n.nodes.set t ⟨x.zaF,x.parents ++ [b.n],x.rows⟩⟩
 | 3=>some ⟨n.grain,n.nodes.set t ⟨x.zaF,[],x.rows⟩⟩
 | 4=>some ⟨n.grain,n.nodes.set t ⟨x.zaF,x.parents,x.rows ++ [[b.n]]⟩⟩
 | 10=>some ⟨n.grain,n.nodes ++ [⟨1,[],[[n.grain]]⟩]⟩
 | 11=>some ⟨n.grain,n.nodes.take (n.nodes.length - 1)⟩
 | _=>none
def zv9(b:S_haruspexref05_Bend)(n:S_api_Net)(x:S_api_Node)(t w:Nat)(row:List Int):Nat->Option S_api_Net
 | 5=>some ⟨n.grain,n.nodes.set t ⟨x.zaF,x.parents,x.rows.take w⟩⟩
 | 6=>some (bif row.isEmpty then n else⟨n.grain,n.nodes.set t ⟨x.zaF,x.parents,x.rows.set w (row.set 0 b.n)⟩⟩)
 | 7=>some ⟨n.grain,n.nodes.set t ⟨x.zaF,x.parents,x.rows.set w (row ++ [0])⟩⟩
 | 8=>some (bif row.isEmpty then n else⟨n.grain,n.nodes.set t ⟨x.zaF,x.parents,x.rows.set w ((List.replicate row.length 0).set 0 n.grain)⟩⟩)
 | 9=>(swL (row.length+2) 0 (w64 ((row.length:Int) - 1)) row).map λr2=>⟨n.grain,n.nodes.set t ⟨x.zaF,x.parents,x.rows.set w r2⟩⟩
 | k=>zEg b n x t k
def zC4(b:S_haruspexref05_Bend)(n:S_api_Net)(k:Nat):Option S_api_Net:=
 match n.nodes[b.at_.toNat % n.nodes.length]? with
 | none=>some n
 | some x=>match x.rows[b.row.toNat % x.rows.length]? with
  | none=>bif decide (5<=k) && decide (k<=9)then some n else zEg b n x (b.at_.toNat % n.nodes.length) k
  | some row=>zv9 b n x (b.at_.toNat % n.nodes.length) (b.row.toNat % x.rows.length) row k
instance (x:S_api_Node):Decidable (FitN x):=decidable_of_iff ((x.parents.length+1)* 8<=zah/\(x.rows.length+1)* 24<=zah/\∀ r∈x.rows,(r.length+1)* 8<=zah) ⟨λh=>⟨h.1,h.2.1,h.2.2⟩,λh=>⟨h.ps,h.rs,h.row⟩⟩
def zog(b:S_haruspexref05_Bend)(n:S_api_Net):Option S_api_Net:=
 if(0<=b.what/\b.what<=255)/\(0<=b.at_/\b.at_<=255)/\(0<=b.row/\b.row<=255)/\(n.nodes.length+2)* 56<=zah/\∀ x∈n.nodes,FitN x then zC4 b n (b.what.toNat % 12)else none
abbrev sN(a n l:Nat):D:=.sl a 0 n l none l
abbrev gP(l:List Int):LB:=.grow 1 (l.map ((eI .i64).c true))
abbrev fzR(r:List Int):List D:=[fzE true (eI .i64) r]
abbrev opN(x:S_api_Node):List D:=[dI x.zaF,sN 5 1 x.parents.length,sN 6 1 x.rows.length]
abbrev h5E(m:Nat)(r:List (Nat×D)):List (Nat×D):=(2,.ptr 0 0)::(3,.ptr 1 0)::(4,.ptr 2 0)::(5,sN 3 3 m):: r
abbrev mB(p0:S_haruspexref05_Bend)(p1:S_api_Net)(A:List (List D))(r:List LB):List LB:=.cells [dU8 p0.what,dU8 p0.at_,dU8 p0.row,dI p0.n]:: .cells [dI p1.grain,fzE false zab p1.nodes]:: .cells [dI 0,zez]:: .grow 3 A :: r
def rwO(x:S_api_Node)(w:Nat):Option (List Int)->List (List D)
 | none=>x.rows.map fzR
 | some r=>(x.rows.map fzR).set w [sN 7 1 r.length]
def zCm(x:S_api_Node)(w:Nat):Option (List Int)->List LB
 | none=>[.gone,gP x.parents,.grow 1 (x.rows.map fzR)]
 | some r=>[.gone,gP x.parents,.grow 1 ((x.rows.map fzR).set w [sN 7 1 r.length]),gP r]
def zDF(p0:S_haruspexref05_Bend)(p1:S_api_Net)(x:S_api_Node)(t w:Nat)(r:Option (List Int))(a:Nat):List LB:=
 bif decide (a<=t)then mB p0 p1 ((p1.nodes.take a).map (zab.c true)) []else mB p0 p1 (((p1.nodes.take a).map (zab.c true)).set t (opN x)) (zCm x w r)
variable{p0:S_haruspexref05_Bend}{r:Option (List Int)}
theorem zmQ{p1:S_api_Net}{x:S_api_Node}{t w a:Nat}(h:a<=t):zDF p0 p1 x t w r a=mB p0 p1 ((p1.nodes.take a).map (zab.c true)) []:=by
 unfold zDF; rw[qdv h,qdt]
theorem znr{p1:S_api_Net}{x:S_api_Node}{t w a:Nat}(h:t<a):zDF p0 p1 x t w r a=mB p0 p1 (((p1.nodes.take a).map (zab.c true)).set t (opN x)) (zCm x w r):=by
 unfold zDF; rw[qdw (by omega),qdu]
abbrev fM(y:S_api_Node)(a:Nat)(L:List LB)(E:List (Nat×D))(i:Nat)(R:List (List D))(post:List LB):LSt:=
 ⟨323,h5E a ((6,dI a)::(7,.ptr L.length 0):: E),L ++ .cells [dI y.zaF,sN (L.length+1) 1 y.parents.length,sN (L.length+2) 1 i]:: gP y.parents :: .grow 1 R :: post⟩
theorem mtK{L:List LB}{F kp:Nat->Bool}:∀ {es:List (List D)},(∀ cs∈es,D.zjh kp cs)->Mt L F kp es es
 | [],_=>.nil
 | c :: es,h=>.cons (Mos.kin (h c (.head _))) (mtK λcs hm=>h cs (.tail _ hm))
variable{kp:Nat->Bool}
theorem zHJ{es:List (List D)}{i:Nat}{c:List D}(h:∀ cs∈es,D.zjh kp cs)(hc:D.zjh kp c):∀ cs∈es.set i c,D.zjh kp cs:=by
 intro cs hm;rcases qbV hm with hm | rfl
 .exact h cs hm
 exact hc
theorem zHV{xs:List S_api_Node}:∀ cs∈xs.map (zab.c true),D.zjh kp cs:=zeM zab kp true xs
theorem kfz{rs:List (List Int)}:∀ cs∈rs.map fzR,D.zjh kp cs:=zeM (eL (eI .i64)) kp true rs
def asL(L:List LB)(xs:List Lx.Act):List Lx.Act:=L.map (λb=>match b with | .gone=>.d | _=>.k)++ xs
theorem meT{P:Prop}(h:P:=by(repeat' first | exact trivial | exact rfl | refine ms rfl ?_ ?_); done):P:=h
theorem mbT{P:Prop}(h:P:=by
 repeat' first
  | exact trivial
  | exact rfl
  | exact MB.gs (eI .i64) true _
  | exact MB.gs (eL (eI .i64)) true _
  | exact mtK zHV
  | exact mtK kfz
  | exact mtK (zHJ zHV ⟨qds,rfl,rfl,qds⟩)
  | exact mtK (zHJ kfz ⟨rfl,qds⟩)
  | exact Mos.nil
  | exact Mt.nil
  | refine Mos.cons (.same (by first | exact trivial | exact rfl)) ?_
  | refine Mos.cons (.fr (zkX (e:=(eI .i64)) (t:=true) rfl rfl (.inr rfl) rfl rfl (λk h=>nomatch h) (λh=>by cases h<;>rfl))) ?_
  | refine Mos.cons (.fr (zkX (e:=(eL (eI .i64))) (t:=true) rfl rfl (.inr rfl) rfl rfl (λk h=>nomatch h) (λh=>by cases h<;>rfl))) ?_
  | refine MB.zE9 (Mt.app ?_ (.cons ?_ .nil))
  | refine MB.zE9 ?_
  | refine MB.cs ?_
  | refine⟨?_,?_⟩
 done):P:=h
variable{E E':List (Nat×D)}{L':List LB}
theorem wk{N:Nat}{L:List LB}(xs:List Lx.Act)(hl:zjE (asL L' xs) L'.length=true)(hE:MEs L (asL L' xs) E E')(hL:MBs L (asL L' xs) 0 L L'):zbi 0 ⟨N,E,L⟩ ⟨N,E',L'⟩:=zbi.m0 _ hl hE hL
theorem wkT{N:Nat}{L:List LB}(xs:List Lx.Act)(hE:MEs L (asL L' xs) E E':=by exact meT)(hL:MBs L (asL L' xs) 0 L L':=by exact mbT)(hl:zjE (asL L' xs) L'.length=true:=by rfl):zbi 0 ⟨N,E,L⟩ ⟨N,E',L'⟩:=wk xs hl hE hL
theorem zCl{P:D->D->Prop}{a b:List (List D)}(h:Pw P a b):∀ n:Nat,Pw P (a.take n) (b.take n):=by
 induction h with
 | nil=>intro n; simp; exact .nil
 | cons g1 g2 _ ih=>
  intro n;cases n with
  | zero=>exact .nil
  | succ n=>exact .cons g1 g2 (ih n)
theorem zwF{α:Type}{L:List LB}{t':Bool}{β n len st:Nat}{cap:Option Nat}{e:En α}{els:List (List D)}{xs:List α}(hn:n=e.n)(he:L[β]? = some (.els n els)\/L[β]? = some (.grow n els))(hs:st=els.length)(hl:len<=els.length)(hc:∀ k,cap=some k->len<=k)(h:Pw (Snp L t') (els.take len) (xs.map (e.c t'))):Snp L t' (.sl β 0 n len cap st) (fzE t' e xs):=by
 subst hn;have hlen:=h.len;rw[qbW,qcm hl]at hlen;have hget:∀(i:Nat) (cells cells':List D),els[0+i]? = some cells->(xs.map (e.c t'))[i]? = some cells'->(els.take len)[i]? = some cells:=by
  intro i cells cells' h1 h2;have hi:=(qab.1 h2).1;rw[qbm,if_pos (by omega),<- h1,qaO]
 refine .sl (zlb he hs) (by simp[hl]) hc hlen (λi cells cells' h1 h2=>(h.get i _ _ (hget i _ _ h1 h2) h2).1) λi k cells cells' d d' h1 h2 h3 h4=>(h.get i _ _ (hget i _ _ h1 h2) h2).2 k d d' h3 h4
section
variable {α:Type} {e:En α} {L:List LB} {xs:List α} {A:List (List D)} {op:List D} {y:α} {i:Nat}
theorem pwS(h:Snps L true op (e.c true y)):Pw (Snp L true) ((xs.map (e.c true)).set i op) ((xs.set i y).map (e.c true)):=by
 rw[qcD]; exact Pw.set (zvp e id xs) h.len h.get _
theorem zHY(hy:xs[i]? = some y)(h:Snps L true op (e.c true y)):Pw (Snp L true) ((xs.map (e.c true)).set i op) (xs.map (e.c true)):=by
 have:=pwS (xs:=xs) (i:=i) h;obtain⟨h1,rfl⟩:=qab.1 hy
 rwa [List.set_getElem_self]at this
theorem pwA(hA:Pw (Snp L true) A (xs.map (e.c true)))(h:Snps L true op (e.c true y)):Pw (Snp L true) (A ++ [op]) ((xs ++ [y]).map (e.c true)):=by
 rw[qba]; exact hA.app (zww h .nil)
theorem pwT(hA:Pw (Snp L true) A (xs.map (e.c true))):Pw (Snp L true) (A.take i) ((xs.take i).map (e.c true)):=by
 rw[List.map_take]; exact zCl hA i
end
theorem zIj{L:List LB}{c:Int}{ps:List Int}{rs:List (List Int)}{dp dr:D}(hp:Snp L true dp (fzE true (eI .i64) ps))(hr:Snp L true dr (fzE true (eL (eI .i64)) rs)):Snps L true [dI c,dp,dr] (zab.c true ⟨c,ps,rs⟩):=.cons (.lit _) (.cons hp (.cons hr .nil))
theorem fnT{P:Prop}(h:P:=by
 refine zjI.ret rfl (.zyP (.cons (.lit _) (.cons ?_ .nil)))
 repeat' first
  | exact .lit _
  | exact zhu _
  | refine zwF rfl (.inr rfl) (by simp) (by simp<;>omega) (by intro k h; cases h; all_goals omega) (pwT ?_)
  | refine zne rfl (by first | exact .inr rfl | exact .inl rfl) (by simp[*]) (by simp[*]) (by intro k h; cases h; all_goals exact qap _) ?_
  | exact zvp _ id _
  | exact zvp (eL (eI .i64)) id _
  | refine zHY (by assumption) ?_
  | refine zHY (e:=eL (eI .i64)) (by assumption) ?_
  | refine pwS ?_
  | refine pwS (e:=eL (eI .i64)) ?_
  | refine pwA ?_ ?_
  | refine zww ?_ ?_
  | exact .nil
  | refine zIj ?_ ?_
  | refine .cons ?_ .nil):P:=h
theorem zBD{p0:S_haruspexref05_Bend}{p1 r:S_api_Net}(h:zog p0 p1=some r):Lx.Fn mC 29 [(.agg [(dU8 p0.what),(dU8 p0.at_),(dU8 p0.row),(dI p0.n)]),(.agg [(dI p1.grain),(fzE false zab p1.nodes)])] (.agg [(dI r.grain),(fzE true zab r.nodes)]):=by
 refine gnO ?_;unfold zog at h;split at h
 case isFalse=>cases h
 rename_i hg;obtain⟨⟨hw0,hw1⟩,⟨ha0,ha1⟩,⟨hr0,hr1⟩,hn2,hfit⟩:=hg;have hmb:zah=140737488355328:=rfl;have hat:IntKind.i64.wrap p0.at_=p0.at_:=wrap64 (by omega) (by omega);have hrow:IntKind.i64.wrap p0.row=p0.row:=wrap64 (by omega) (by omega);obtain⟨k,hk12,hkl⟩:∃ k:Nat,p0.what.tmod 12=(k:Int)/\k<12/\p0.what.toNat % 12=k:=by
  refine⟨p0.what.toNat % 12,?_,qa7 _ (by decide),rfl⟩;rw[qcR hw0]; omega
 rw[hkl.2]at h;refine zad ?_;simp only[rnA,Nat.reduceEqDiff,reduceIte,Nat.reduceLT,Nat.reduceAdd,Nat.reduceLeDiff,Nat.reduceMul,Nat.reduceSub,Int.reduceLE,Int.reduceLT,Int.reduceBEq,Nat.reduceBEq,reduceCtorEq,zcK];unfold zC4 at h;by_cases hnil:p1.nodes.length=0
 .have hnl:p1.nodes=[]:=qbf hnil;have hri:some p1=some r:=by rw[hnl]at h; exact h
  obtain rfl:=qaf hri;have c1:decide (((0:Nat):Int)<((p1.nodes.length:Nat):Int))=false:=by rw[hnil]; rfl
  refine EvL.jn (α:=Unit) (λ_=>⟨323,h5E 0 [],mB p0 p1 [] []⟩) (λ_=>True) ?_ (λ_ _=>?_)
  .refine zad ?_;simp only[rnA,Nat.reduceEqDiff,reduceIte,Nat.reduceLT,Nat.reduceAdd,Nat.reduceLeDiff,Nat.reduceMul,Nat.reduceSub,Int.reduceLE,Int.reduceLT,Int.reduceBEq,Nat.reduceBEq,reduceCtorEq];refine EvL.zgB (zbi.ghost (n:=3) (k:=5) (by decide) rfl) ?_;refine EvL.loop (α:=Unit) (λ_=>⟨323,h5E 0 [(6,dI ((0:Nat):Int))],mB p0 p1 [] []⟩) (λ_=>True) (λ_=>0) () (wkT []) trivial ?_;intro _ _;refine zad ?_;simp only[rnA,Nat.reduceEqDiff,reduceIte,Nat.reduceLT,Nat.reduceAdd,Nat.reduceLeDiff,Nat.reduceMul,Nat.reduceSub,Int.reduceLE,Int.reduceLT,Int.reduceBEq,Nat.reduceBEq,reduceCtorEq,zbN,c1];exact⟨(),qds,wkT []⟩
  refine zad ?_;simp only[rnA,Nat.reduceEqDiff,reduceIte,Nat.reduceLT,Nat.reduceAdd,Nat.reduceLeDiff,Nat.reduceMul,Nat.reduceSub,Int.reduceLE,Int.reduceLT,Int.reduceBEq,Nat.reduceBEq,reduceCtorEq,zaj,(show(((0:Nat):Int)== 0)=true from rfl)];rw[hnl];exact zjI.ret rfl (.zyP (.cons (.lit _) (.cons (znB (cap:=none) (β:=3) (e:=zab) (t:=true) (xs:=[]) rfl (.inr rfl) rfl rfl (by intro k h; cases h) (λ_=>rfl)) .nil)))
 have htl:p0.at_.toNat % p1.nodes.length<p1.nodes.length:=qa7 _ (by omega);have hrem:p0.at_.tmod (p1.nodes.length:Int)=((p0.at_.toNat % p1.nodes.length:Nat):Int):=by
  rw[qcR ha0,Int.natCast_emod,qcn ha0]
 generalize ht:p0.at_.toNat % p1.nodes.length=t at htl hrem h;rw[qac htl]at h;simp only at h;obtain⟨x,hx⟩:∃ x,p1.nodes[t]=x:=⟨_,rfl⟩;rw[hx]at h;have hf:=hfit x (by rw[<- hx]; exact qao _);have hrr:0<x.rows.length->p0.row.tmod (x.rows.length:Int)=((p0.row.toNat % x.rows.length:Nat):Int):=λ_=>by
  rw[qcR hr0,Int.natCast_emod,qcn hr0]
 have hwx:0<x.rows.length->p0.row.toNat % x.rows.length<x.rows.length:=λh=>qa7 _ h
 generalize hwg:p0.row.toNat % x.rows.length=w at hrr h hwx;obtain⟨o,ho⟩:∃ o,x.rows[w]? = o:=⟨_,rfl⟩;rw[ho]at h;refine EvL.jn (α:=Unit) (λ_=>⟨323,h5E p1.nodes.length [],mB p0 p1 ((p1.nodes.map (zab.c true)).set t (opN x)) (zCm x w o)⟩) (λ_=>True) ?_ (λ_ _=>?_)
 .refine zad ?_;simp only[rnA,Nat.reduceEqDiff,reduceIte,Nat.reduceLT,Nat.reduceAdd,Nat.reduceLeDiff,Nat.reduceMul,Nat.reduceSub,Int.reduceLE,Int.reduceLT,Int.reduceBEq,Nat.reduceBEq,reduceCtorEq];refine EvL.zgB (zbi.ghost (n:=3) (k:=5) (by decide) rfl) ?_;refine EvL.loop (α:=Nat) (λa=>⟨323,h5E a [(6,dI a)],zDF p0 p1 x t w o a⟩) (λa=>a<=p1.nodes.length) (λa=>p1.nodes.length - a) 0 (by rw[zmQ (qau _)]; exact wkT []) (qau _) ?_;intro a ha;refine zad ?_;by_cases hal:a<p1.nodes.length
  .have g3:zaE p1.nodes (a:Int)=some p1.nodes[a]:=znp hal;have hy:=hfit p1.nodes[a] (qao _);have hsu:(p1.nodes.take (a+1)).map (zab.c true)=(p1.nodes.take a).map (zab.c true)++ [zab.c true p1.nodes[a]]:=by rw[qbG hal,qba]; rfl
   have hlen:((p1.nodes.take a).map (zab.c true)).length=a:=by simp; omega
   have hxy:a=t->p1.nodes[a]=x:=λe=>by subst e; exact hx
   generalize p1.nodes[a]=y at g3 hy hsu hxy;obtain⟨hp1,hp2,hp3⟩:=hy;have c1:decide ((a:Int)<(p1.nodes.length:Int))=true:=qdv (by omega);have hw:IntKind.i64.wrap ((a:Int)+1)=((a+1:Nat):Int):=by rw[wrap64 (by omega) (by omega)]; omega
   have hmf:(a+1)* 56<=zah:=by omega
   have hpf:y.parents.length * 8<=zah:=by omega
   have hsr:∀(l:List Int) L,zp6 L 1 (fzE false (eI .i64) l)=some (l.map ((eI .i64).c true)):=λl L=>zmX (e:=(eI .i64)) rfl _ L false
   have hri:∀ {i:Nat},i<y.rows.length->∃ r,y.rows[i]? = some r/\zaE y.rows (i:Int)=some r/\decide ((i:Int)<(y.rows.length:Int))=true/\IntKind.i64.wrap ((i:Int)+1)=((i+1:Nat):Int)/\(i+1)* 24<=zah/\r.length * 8<=zah/\y.rows.take (i+1)=y.rows.take i ++ [r]/\((y.rows.take i).map fzR).length=i:=λ{i} hi=>by
    have:=hp3 _ (qao hi);exact⟨y.rows[i],qac hi,znp hi,qdv (by omega),by rw[wrap64 (by omega) (by omega)]; omega,by omega,by omega,qbG hi,by simp; omega⟩
   have ends:decide ((y.rows.length:Int)<(y.rows.length:Int))=false:=qdw (by omega);obtain⟨M,hM⟩:∃ M,M=zDF p0 p1 x t w o a:=⟨_,rfl⟩;rw[<- hM];rcases Nat.lt_trichotomy a t with hlt | rfl | hgt
   case inr.inl=>
    rw[zmQ (qap _)]at hM;obtain rfl:=hxy rfl;simp only[hM];simp only[rnA,Nat.reduceEqDiff,reduceIte,Nat.reduceLT,Nat.reduceAdd,Nat.reduceLeDiff,Nat.reduceMul,Nat.reduceSub,Int.reduceLE,Int.reduceLT,Int.reduceBEq,Nat.reduceBEq,reduceCtorEq,zaj,zaz (n:=3) (e:=zab) rfl g3,zbN,c1,hpf,hsr];refine EvL.jn (α:=Unit) (λ_=>fM y a M [] y.rows.length (rwO y w o) (match o with | none=>[] | some row=>[gP row])) (λ_=>True) ?_ (λ_ _=>?_)
    .refine zad ?_;simp only[rnA,Nat.reduceEqDiff,reduceIte,Nat.reduceLT,Nat.reduceAdd,Nat.reduceLeDiff,Nat.reduceMul,Nat.reduceSub,Int.reduceLE,Int.reduceLT,Int.reduceBEq,Nat.reduceBEq,reduceCtorEq,hM];refine EvL.zgB (zbi.zpi (n:=1) (β:=4) (o:=2) (by decide) rfl rfl) ?_;obtain⟨R,hR⟩:∃ R:Nat->List (List D)×List LB,R=λi=>match o with
      | none=>((y.rows.take i).map fzR,[])
      | some row=>bif decide (i<=w)then((y.rows.take i).map fzR,[])else(((y.rows.take i).map fzR).set w [sN 7 1 row.length],[gP row]):=⟨_,rfl⟩
     refine EvL.loop (α:=Nat) (λi=>fM y a M [(8,dI i)] i (R i).1 (R i).2) (λi=>i<=y.rows.length) (λi=>y.rows.length - i) 0 (by rw[hM,hR]; cases o<;>exact wkT []) (qau _) ?_;intro i hi;refine zad ?_;by_cases hil:i<y.rows.length
     .obtain⟨r,q1,q2,q3,q4,q5,q6,q7,q8⟩:=hri hil;cases o with
      | none=>
       simp only[hM,hR];simp only[rnA,Nat.reduceEqDiff,reduceIte,Nat.reduceLT,Nat.reduceAdd,Nat.reduceLeDiff,Nat.reduceMul,Nat.reduceSub,Int.reduceLE,Int.reduceLT,Int.reduceBEq,Nat.reduceBEq,reduceCtorEq,zaj,zaz (n:=3) (e:=zab) rfl g3,zbN,q3,q4,q5,q6,q8,zaz (n:=1) (e:=(eL (eI .i64))) rfl q2,hsr];exact⟨i+1,hil,by omega,by rw[q7,qba]; exact wkT [.f]⟩
      | some row=>
       rcases Nat.lt_trichotomy i w with hiw | rfl | hiw
       .simp only[hM,hR,qdv (Nat.le_of_lt hiw),qdt];simp only[rnA,Nat.reduceEqDiff,reduceIte,Nat.reduceLT,Nat.reduceAdd,Nat.reduceLeDiff,Nat.reduceMul,Nat.reduceSub,Int.reduceLE,Int.reduceLT,Int.reduceBEq,Nat.reduceBEq,reduceCtorEq,zaj,zaz (n:=3) (e:=zab) rfl g3,zbN,q3,q4,q5,q6,q8,zaz (n:=1) (e:=(eL (eI .i64))) rfl q2,hsr];refine⟨i+1,hil,by omega,?_⟩;simp only[qdv (Nat.succ_le_of_lt hiw),qdt];rw[q7,qba]; exact wkT [.f]
       .obtain rfl:=qaf (q1.symm.trans ho);simp only[hM,hR,qdv (qap i),qdt];simp only[rnA,Nat.reduceEqDiff,reduceIte,Nat.reduceLT,Nat.reduceAdd,Nat.reduceLeDiff,Nat.reduceMul,Nat.reduceSub,Int.reduceLE,Int.reduceLT,Int.reduceBEq,Nat.reduceBEq,reduceCtorEq,zaj,zaz (n:=3) (e:=zab) rfl g3,zbN,q3,q4,q5,q6,q8,zaz (n:=1) (e:=(eL (eI .i64))) rfl q2,hsr];refine⟨i+1,hil,by omega,?_⟩;simp only[qdw (Nat.not_succ_le_self i),qdu];rw[q7,qba,qbY _ _ (qdr q8),q8,qce];exact wkT []
       simp only[hM,hR,qdw (Nat.not_le_of_lt hiw),qdu];simp only[rnA,Nat.reduceEqDiff,reduceIte,Nat.reduceLT,Nat.reduceAdd,Nat.reduceLeDiff,Nat.reduceMul,Nat.reduceSub,Int.reduceLE,Int.reduceLT,Int.reduceBEq,Nat.reduceBEq,reduceCtorEq,zaj,zaz (n:=3) (e:=zab) rfl g3,zbN,q3,q4,q5,q6,q8,zaz (n:=1) (e:=(eL (eI .i64))) rfl q2,hsr,qaw];refine⟨i+1,hil,by omega,?_⟩;simp only[qdw (Nat.not_le_of_lt (qck hiw)),qdu];rw[q7,qba,qcA _ _ (by rw[q8]; exact hiw)]; exact wkT [.f]
     obtain rfl:i=y.rows.length:=by omega
     cases o with
     | none=>
      simp only[hM,hR];simp only[rnA,Nat.reduceEqDiff,reduceIte,Nat.reduceLT,Nat.reduceAdd,Nat.reduceLeDiff,Nat.reduceMul,Nat.reduceSub,Int.reduceLE,Int.reduceLT,Int.reduceBEq,Nat.reduceBEq,reduceCtorEq,zaj,zaz (n:=3) (e:=zab) rfl g3,zbN,ends];rw[qbX];exact⟨(),qds,wkT []⟩
     | some row=>
      have:=(qab.1 ho).1;simp only[hM,hR,qdw (Nat.not_le_of_lt this),qdu];simp only[rnA,Nat.reduceEqDiff,reduceIte,Nat.reduceLT,Nat.reduceAdd,Nat.reduceLeDiff,Nat.reduceMul,Nat.reduceSub,Int.reduceLE,Int.reduceLT,Int.reduceBEq,Nat.reduceBEq,reduceCtorEq,zaj,zaz (n:=3) (e:=zab) rfl g3,zbN,ends];rw[qbX];exact⟨(),qds,wkT []⟩
    cases o
    all_goals
     simp only[hM];refine zad ?_;simp only[rnA,Nat.reduceEqDiff,reduceIte,Nat.reduceLT,Nat.reduceAdd,Nat.reduceLeDiff,Nat.reduceMul,Nat.reduceSub,Int.reduceLE,Int.reduceLT,Int.reduceBEq,Nat.reduceBEq,reduceCtorEq,zaj,hlen,hmf,hw];refine⟨a+1,hal,by omega,?_⟩;rw[znr (qbo a),hsu,qbY _ _ (qdr hlen),hlen,qce]; exact wkT []
   all_goals (try cases o)
   all_goals
    first | rw[zmQ (Nat.le_of_lt hlt)]at hM | (rw[znr hgt]at hM; simp only[zCm]at hM)
    simp only[hM];simp only[rnA,Nat.reduceEqDiff,reduceIte,Nat.reduceLT,Nat.reduceAdd,Nat.reduceLeDiff,Nat.reduceMul,Nat.reduceSub,Int.reduceLE,Int.reduceLT,Int.reduceBEq,Nat.reduceBEq,reduceCtorEq,zaj,zaz (n:=3) (e:=zab) rfl g3,zbN,c1,hpf,hsr];refine EvL.jn (α:=Unit) (λ_=>fM y a M [] y.rows.length (y.rows.map fzR) []) (λ_=>True) ?_ (λ_ _=>?_)
    .simp only[hM];refine zad ?_;simp only[rnA,Nat.reduceEqDiff,reduceIte,Nat.reduceLT,Nat.reduceAdd,Nat.reduceLeDiff,Nat.reduceMul,Nat.reduceSub,Int.reduceLE,Int.reduceLT,Int.reduceBEq,Nat.reduceBEq,reduceCtorEq];refine EvL.zgB (by first | exact zbi.zpi (n:=1) (β:=4) (o:=2) (by decide) rfl rfl | exact zbi.zpi (n:=1) (β:=7) (o:=2) (by decide) rfl rfl | exact zbi.zpi (n:=1) (β:=8) (o:=2) (by decide) rfl rfl) ?_;refine EvL.loop (α:=Nat) (λi=>fM y a M [(8,dI i)] i ((y.rows.take i).map fzR) []) (λi=>i<=y.rows.length) (λi=>y.rows.length - i) 0 (by rw[hM]; exact wkT []) (qau _) ?_;intro i hi;simp only[hM];refine zad ?_;by_cases hil:i<y.rows.length
     .obtain⟨r,q1,q2,q3,q4,q5,q6,q7,q8⟩:=hri hil;simp only[rnA,Nat.reduceEqDiff,reduceIte,Nat.reduceLT,Nat.reduceAdd,Nat.reduceLeDiff,Nat.reduceMul,Nat.reduceSub,Int.reduceLE,Int.reduceLT,Int.reduceBEq,Nat.reduceBEq,reduceCtorEq,zaj,zaz (n:=3) (e:=zab) rfl g3,zbN,q3,q4,q5,q6,q8,zaz (n:=1) (e:=(eL (eI .i64))) rfl q2,hsr];exact⟨i+1,hil,by omega,by rw[q7,qba]; exact wkT [.f]⟩
     obtain rfl:i=y.rows.length:=by omega
     simp only[rnA,Nat.reduceEqDiff,reduceIte,Nat.reduceLT,Nat.reduceAdd,Nat.reduceLeDiff,Nat.reduceMul,Nat.reduceSub,Int.reduceLE,Int.reduceLT,Int.reduceBEq,Nat.reduceBEq,reduceCtorEq,zaj,zaz (n:=3) (e:=zab) rfl g3,zbN,ends];rw[qbX];exact⟨(),qds,wkT []⟩
    simp only[hM];refine zad ?_;simp only[rnA,Nat.reduceEqDiff,reduceIte,Nat.reduceLT,Nat.reduceAdd,Nat.reduceLeDiff,Nat.reduceMul,Nat.reduceSub,Int.reduceLE,Int.reduceLT,Int.reduceBEq,Nat.reduceBEq,reduceCtorEq,zaj,hlen,hmf,hw,qaw];refine⟨a+1,hal,by omega,?_⟩;first | (rw[zmQ hlt,hsu]; exact wkT [.d,.f,.f])| (rw[znr (qck hgt),hsu,qcA _ _ (by rw[hlen]; exact hgt)]; exact wkT [.d,.f,.f])
  have hae:a=p1.nodes.length:=by omega
  have c1:decide ((a:Int)<(p1.nodes.length:Int))=false:=qdw (by omega);subst hae;rw[znr htl,qbX];cases o
  all_goals
   simp only[zCm];simp only[rnA,Nat.reduceEqDiff,reduceIte,Nat.reduceLT,Nat.reduceAdd,Nat.reduceLeDiff,Nat.reduceMul,Nat.reduceSub,Int.reduceLE,Int.reduceLT,Int.reduceBEq,Nat.reduceBEq,reduceCtorEq,zbN,c1];exact⟨(),qds,wkT []⟩
 have hxt:p1.nodes[t]? = some x:=by rw[qac htl,hx]
 have hne:(((p1.nodes.length:Nat):Int)== 0)=false:=by rw[qdA]; omega
 have hlt0:(0:Int)<=(t:Int):=by omega
 have hlt1:(t:Int)<((p1.nodes.length:Nat):Int):=by omega
 have hgs3:∀ C:List D,((p1.nodes.map (zab.c true)).set t C)[t]? = some C:=λC=>by rw[qa1 (by simpa using htl)]
 have hwn:IntKind.i64.wrap (((p1.nodes.length:Nat):Int) - 1)=((p1.nodes.length - 1:Nat):Int):=by rw[wrap64 (by omega) (by omega)]; try omega
 have hbn:∀ {m n:Nat},m<=n->bounds n none none (some (m:Int)) none=some (0,m,none):=λ{m n} hm=>by
  have:(m:Int)<=((n:Nat):Int):=by omega
  simp[bounds,ziV,this]
 have hb11:=hbn (Nat.sub_le p1.nodes.length 1);have hfn1:(p1.nodes.length+1)* 56<=zah:=by omega
 have hps:=hf.ps;have hrs:=hf.rs;refine zad ?_;have hrp:∀ n,List.replicate n [D.lit (.int .i64 0)]=(List.replicate n (0:Int)).map ((eI .i64).c true):=λn=>by rw[qcx]; rfl
 have hd0:decide ((0:Int)<((0:Nat):Int))=false:=rfl;have hm1:decide ((0:Int)<=-1)=false:=rfl;obtain⟨c0,hpos⟩:∃ c,decide ((0:Int)<((x.rows.length:Nat):Int))=c:=⟨_,rfl⟩;cases o with
 | none=>
  obtain rfl:c0=false:=by
   rw[<- hpos];refine qdw λhp=>?_
   rw[qac (hwx (by omega))]at ho;cases ho
  simp only[zCm];simp only[rnA,Nat.reduceEqDiff,reduceIte,Nat.reduceLT,Nat.reduceAdd,Nat.reduceLeDiff,Nat.reduceMul,Nat.reduceSub,Int.reduceLE,Int.reduceLT,Int.reduceBEq,Nat.reduceBEq,reduceCtorEq,hat,hrem,hlt0,hlt1,hne,hgs3,qaw,qak,qax];refine EvL.scope (zad ?_);simp only[rnA,Nat.reduceEqDiff,reduceIte,Nat.reduceLT,Nat.reduceAdd,Nat.reduceLeDiff,Nat.reduceMul,Nat.reduceSub,Int.reduceLE,Int.reduceLT,Int.reduceBEq,Nat.reduceBEq,reduceCtorEq,hpos];obtain rfl | rfl | rfl | rfl | rfl | rfl | rfl | rfl | rfl | rfl | rfl | rfl:k=0\/k=1\/k=2\/k=3\/k=4\/k=5\/k=6\/k=7\/k=8\/k=9\/k=10\/k=11:=by omega
  all_goals
   simp only[qb4,Int.ofNat_zero,Int.ofNat_one]at hk12;obtain rfl:=qaf h;refine EvL.scope (zad ?_);simp only[rnA,Nat.reduceEqDiff,reduceIte,Nat.reduceLT,Nat.reduceAdd,Nat.reduceLeDiff,Nat.reduceMul,Nat.reduceSub,Int.reduceLE,Int.reduceLT,Int.reduceBEq,Nat.reduceBEq,reduceCtorEq,hat,hlt0,hlt1,hne,hgs3,qaw,qak,qax,qc4,zbN,hk12,hps,hrs,hfn1,hb11,hwn,hm1];try (refine EvL.scope (zad ?_); simp only[rnA,Nat.reduceEqDiff,reduceIte,Nat.reduceLT,Nat.reduceAdd,Nat.reduceLeDiff,Nat.reduceMul,Nat.reduceSub,Int.reduceLE,Int.reduceLT,Int.reduceBEq,Nat.reduceBEq,reduceCtorEq,hm1])
   exact fnT
 | some row=>
  obtain⟨hwl,hrw⟩:=qab.1 ho;obtain rfl:c0=true:=by rw[<- hpos]; exact qdv (by omega)
  have hw0:(0:Int)<=(w:Int):=by omega
  have hw1:(w:Int)<((x.rows.length:Nat):Int):=by omega
  have hnr:(((x.rows.length:Nat):Int)== 0)=false:=by rw[qdA]; omega
  have hgs6:∀ C:List D,((x.rows.map fzR).set w C)[w]? = some C:=λC=>by rw[qa1 (by simpa using hwl)]
  have hrow7:=hf.row _ (hrw ▸ qao hwl);have hw01:decide ((0:Int)<=(w:Int))=true:=qdv (by omega);have hb5:=hbn (Nat.le_of_lt hwl);have hww:=hrr (by omega);simp only[zCm];simp only[rnA,Nat.reduceEqDiff,reduceIte,Nat.reduceLT,Nat.reduceAdd,Nat.reduceLeDiff,Nat.reduceMul,Nat.reduceSub,Int.reduceLE,Int.reduceLT,Int.reduceBEq,Nat.reduceBEq,reduceCtorEq,hat,hrem,hlt0,hlt1,hne,hgs3,qaw,qak,qax];refine EvL.scope (zad ?_);simp only[rnA,Nat.reduceEqDiff,reduceIte,Nat.reduceLT,Nat.reduceAdd,Nat.reduceLeDiff,Nat.reduceMul,Nat.reduceSub,Int.reduceLE,Int.reduceLT,Int.reduceBEq,Nat.reduceBEq,reduceCtorEq,hat,hrem,hlt0,hlt1,hne,hgs3,qaw,qak,qax,hpos,hrow,hww,hnr];obtain rfl | rfl | rfl | rfl | rfl | rfl | rfl | rfl | rfl | rfl | rfl | rfl:k=0\/k=1\/k=2\/k=3\/k=4\/k=5\/k=6\/k=7\/k=8\/k=9\/k=10\/k=11:=by omega
  all_goals
   simp only[qb4,Int.ofNat_zero,Int.ofNat_one]at hk12;refine EvL.scope (zad ?_);simp only[rnA,Nat.reduceEqDiff,reduceIte,Nat.reduceLT,Nat.reduceAdd,Nat.reduceLeDiff,Nat.reduceMul,Nat.reduceSub,Int.reduceLE,Int.reduceLT,Int.reduceBEq,Nat.reduceBEq,reduceCtorEq,hat,hlt0,hlt1,hne,hgs3,hgs6,hw0,hw1,qaw,qak,qax,qc4,zbN,hk12,hps,hrs,hrow7,hfn1,hw01,hb5,hb11,hwn,hrp];try (obtain rfl:=qaf h; exact fnT)
  case some.inr.inr.inr.inr.inr.inr.inr.inr.inr.inl=>
   simp only[zv9]at h;obtain⟨r2,hsw,rfl⟩:=qal.1 h;refine EvL.jn (α:=Unit) (λ_=>⟨323,[(2,.ptr 0 0),(3,.ptr 1 0),(4,.ptr 2 0)],.cells [dU8 p0.what,dU8 p0.at_,dU8 p0.row,dI p0.n]:: .cells [dI p1.grain,sN 3 3 p1.nodes.length]:: .cells [dI 0,zez]:: .grow 3 ((p1.nodes.map (zab.c true)).set t (opN x)):: [.gone,gP x.parents,.grow 1 ((x.rows.map fzR).set w [sN 7 1 row.length]),gP r2]⟩) (λ_=>r2.length=row.length) ?_ ?_
   .refine zad ?_;simp only[rnA,Nat.reduceEqDiff,reduceIte,Nat.reduceLT,Nat.reduceAdd,Nat.reduceLeDiff,Nat.reduceMul,Nat.reduceSub,Int.reduceLE,Int.reduceLT,Int.reduceBEq,Nat.reduceBEq,reduceCtorEq];obtain⟨T,hT⟩:∃ T:Int×Int×List Int->LSt,T=(λa=>⟨323,[(2,.ptr 0 0),(3,.ptr 1 0),(4,.ptr 2 0),(10,.eptr 3 3 t 0 p1.nodes.length),(11,dI w),(12,dI a.1),(13,dI a.2.1)],.cells [dU8 p0.what,dU8 p0.at_,dU8 p0.row,dI p0.n]:: .cells [dI p1.grain,sN 3 3 p1.nodes.length]:: .cells [dI 0,zez]:: .grow 3 ((p1.nodes.map (zab.c true)).set t (opN x)):: [.gone,gP x.parents,.grow 1 ((x.rows.map fzR).set w [sN 7 1 row.length]),gP a.2.2]⟩):=⟨_,rfl⟩;refine EvL.rounds T (λn a=>swL n a.1 a.2.1 a.2.2=some r2/\a.2.2.length=row.length) (row.length+2) (0,w64 (((row.length:Nat):Int) - 1),row) (by rw[hT]; exact wkT []) ⟨hsw,rfl⟩ (λ_ h=>nomatch h.1) ?_;rintro n ⟨i,k,a⟩ ⟨h1,hal⟩;simp only at h1 hal;rw[congrFun hT (i,k,a)];simp only[swL]at h1;refine zad ?_;cases c1:decide (i<k)with
    | false=>
     rw[c1,qdu]at h1;cases h1;simp only[rnA,Nat.reduceEqDiff,reduceIte,Nat.reduceLT,Nat.reduceAdd,Nat.reduceLeDiff,Nat.reduceMul,Nat.reduceSub,Int.reduceLE,Int.reduceLT,Int.reduceBEq,Nat.reduceBEq,reduceCtorEq,c1];exact⟨(),hal,wkT []⟩
    | true=>
     rw[c1,qdt]at h1;obtain⟨x1,g1,h1⟩:=bind_some h1;obtain⟨y1,g2,h1⟩:=bind_some h1;obtain⟨r1,g3',h1⟩:=bind_some h1;obtain⟨r3,g4,h1⟩:=bind_some h1;have g2r:zaE r1 k=some y1:=by
      have hi0:=za2 g1;have hik:=of_decide_eq_true c1;rw[(zmH g3').2];unfold zaE at g2 ⊢;rw[if_pos (by omega)]at g2 ⊢;rw[qaD (by omega)];exact g2
     have l1:r1.length=row.length:=(zaS g3').trans hal;simp only[rnA,Nat.reduceEqDiff,reduceIte,Nat.reduceLT,Nat.reduceAdd,Nat.reduceLeDiff,Nat.reduceMul,Nat.reduceSub,Int.reduceLE,Int.reduceLT,Int.reduceBEq,Nat.reduceBEq,reduceCtorEq,hlt0,hlt1,hgs3,hgs6,hw0,hw1,qaw,qak,qax,qc4,c1,hal,l1,za2 g1,za2 g2,(show i<((row.length:Nat):Int)from hal ▸ zeh g1),(show k<((row.length:Nat):Int)from hal ▸ zeh g2),zcn g1 ((eI .i64).c true),zcn g2 ((eI .i64).c true),zcn g2r ((eI .i64).c true),(show(a.map ((eI .i64).c true)).set i.toNat [dI y1]=r1.map ((eI .i64).c true)from zd6 g3' ((eI .i64).c true)),(show(r1.map ((eI .i64).c true)).set k.toNat [dI x1]=r3.map ((eI .i64).c true)from zd6 g4 ((eI .i64).c true))];exact⟨(w64 (i+1),w64 (k - 1),r3),⟨h1,(zaS g4).trans l1⟩,by rw[hT]; exact wkT []⟩
   rintro _ hl2;refine zad ?_;simp only[rnA,Nat.reduceEqDiff,reduceIte,Nat.reduceLT,Nat.reduceAdd,Nat.reduceLeDiff,Nat.reduceMul,Nat.reduceSub,Int.reduceLE,Int.reduceLT,Int.reduceBEq,Nat.reduceBEq,reduceCtorEq,<- hl2];exact fnT
  all_goals
   have hpr:∀ n:Nat,(0:Int)<((n+1:Nat):Int):=λn=>by omega
   have hdr:∀ n:Nat,decide ((0:Int)<((n+1:Nat):Int))=true:=λn=>qdv (hpr n)
   have hwr:((row.length:Nat):Int)* ((8:Nat):Int)<=((zah:Nat):Int):=by omega
   have hr0:∀(v:Int) l,((v :: l).map ((eI .i64).c true))[0]? = some [dI v]:=λ_ _=>rfl
   have hr1:∀ n:Nat,((List.replicate (n+1) (0:Int)).map ((eI .i64).c true))[0]? = some [dI 0]:=λ_=>rfl
   rcases row with _ | ⟨v,l⟩
   all_goals
    simp only[zv9,List.isEmpty_cons,List.isEmpty_nil,qdt,qdu,qaB]at h hwr hrow7;obtain rfl:=qaf h;refine EvL.scope (zad ?_);simp only[rnA,Nat.reduceEqDiff,reduceIte,Nat.reduceLT,Nat.reduceAdd,Nat.reduceLeDiff,Nat.reduceMul,Nat.reduceSub,Int.reduceLE,Int.reduceLT,Int.reduceBEq,Nat.reduceBEq,reduceCtorEq,hat,hlt0,hlt1,hne,hgs3,hgs6,hw0,hw1,qaw,qak,qax,qc4,zbN,hk12,hw01,hd0,hdr,hpr,hwr,hr0,hr1,hrp,Int.toNat_zero,qbR,qbI,qcc];exact fnT
end Go.Dc
