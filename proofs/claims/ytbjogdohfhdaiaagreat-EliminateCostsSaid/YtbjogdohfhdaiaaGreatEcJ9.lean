/-
 Bend.Of of nets: what it computes; marks of blocks by default tactics. Conditions: none.
-/
import Derived.Test.YtbjogdohfhdaiaaGreatEcDm
set_option linter.unusedSimpArgs false
set_option linter.unusedVariables false
set_option maxRecDepth 100000
set_option maxHeartbeats 4000000
set_option maxHeartbeats 8000000
namespace Go.Dc
open Go Go.Mx Go.Lx Go.Proofs
structure FitN (x:S_api_Node):Prop where
 ps:(x.parents.length+1)* 8<=zaj
 rs:(x.rows.length+1)* 24<=zaj
 row:∀ r∈x.rows,(r.length+1)* 8<=zaj
def swL:Nat->Int->Int->List Int->Option (List Int)
 | 0,_,_,_=>none
 | n+1,i,k,r=>bif decide (i<k)then(zaE r i).bind λx=>(zaE r k).bind λy=>(zfl r i y).bind λr1=>(zfl r1 k x).bind λr2=>swL n (w64 (i+1)) (w64 (k - 1)) r2 else some r
def zk4(b:S_haruspexref05_Bend)(n:S_api_Net)(x:S_api_Node)(t:Nat):Nat->Option S_api_Net
 | 0=>some ⟨b.n,n.nodes⟩
 | 1=>some ⟨n.grain,n.nodes.set t ⟨b.n,x.parents,x.rows⟩⟩
 | 2=>some ⟨n.grain,n.nodes.set t ⟨x.zaF,x.parents ++ [b.n],x.rows⟩⟩
 | 3=>some ⟨n.grain,n.nodes.set t ⟨x.zaF,[],x.rows⟩⟩
 | 4=>some ⟨n.grain,n.nodes.set t ⟨x.zaF,x.parents,x.rows ++ [[b.n]]⟩⟩
 | 10=>some ⟨n.grain,n.nodes ++ [⟨1,[],[[n.grain]]⟩]⟩
 | 11=>some ⟨n.grain,n.nodes.take (n.nodes.length - 1)⟩
 | _=>none
def zov(b:S_haruspexref05_Bend)(n:S_api_Net)(x:S_api_Node)(t w:Nat)(row:List Int):Nat->Option S_api_Net
 | 5=>some ⟨n.grain,n.nodes.set t ⟨x.zaF,x.parents,x.rows.take w⟩⟩
 | 6=>some (bif row.isEmpty then n else⟨n.grain,n.nodes.set t ⟨x.zaF,x.parents,x.rows.set w (row.set 0 b.n)⟩⟩)
 | 7=>some ⟨n.grain,n.nodes.set t ⟨x.zaF,x.parents,x.rows.set w (row ++ [0])⟩⟩
 | 8=>some (bif row.isEmpty then n else⟨n.grain,n.nodes.set t ⟨x.zaF,x.parents,x.rows.set w ((List.replicate row.length 0).set 0 n.grain)⟩⟩)
 | 9=>(swL (row.length+2) 0 (w64 ((row.length:Int) - 1)) row).map λr2=>⟨n.grain,n.nodes.set t ⟨x.zaF,x.parents,x.rows.set w r2⟩⟩
 | k=>zk4 b n x t k
def zBV(b:S_haruspexref05_Bend)(n:S_api_Net)(k:Nat):Option S_api_Net:=
 match n.nodes[b.at_.toNat % n.nodes.length]? with
 | none=>some n
 | some x=>match x.rows[b.row.toNat % x.rows.length]? with
  | none=>bif decide (5<=k) && decide (k<=9)then some n else zk4 b n x (b.at_.toNat % n.nodes.length) k
  | some row=>zov b n x (b.at_.toNat % n.nodes.length) (b.row.toNat % x.rows.length) row k
instance (x:S_api_Node):Decidable (FitN x):=decidable_of_iff ((x.parents.length+1)* 8<=zaj/\(x.rows.length+1)* 24<=zaj/\∀ r∈x.rows,(r.length+1)* 8<=zaj) ⟨λh=>⟨h.1,h.2.1,h.2.2⟩,λh=>⟨h.ps,h.rs,h.row⟩⟩
def zo5(b:S_haruspexref05_Bend)(n:S_api_Net):Option S_api_Net:=
 if(0<=b.what/\b.what<=255)/\(0<=b.at_/\b.at_<=255)/\(0<=b.row/\b.row<=255)/\(n.nodes.length+2)* 56<=zaj/\∀ x∈n.nodes,FitN x then zBV b n (b.what.toNat % 12)else none
abbrev sN(a n l:Nat):D:=.sl a 0 n l none l
abbrev gP(l:List Int):LB:=.grow 1 (l.map ((eI .i64).c true))
abbrev fzR(r:List Int):List D:=[fzE true (eI .i64) r]
abbrev opN(x:S_api_Node):List D:=[dI x.zaF,sN 5 1 x.parents.length,sN 6 1 x.rows.length]
abbrev h5E(m:Nat)(r:List (Nat×D)):List (Nat×D):=(2,.ptr 0 0)::(3,.ptr 1 0)::(4,.ptr 2 0)::(5,sN 3 3 m):: r
abbrev mB(p0:S_haruspexref05_Bend)(p1:S_api_Net)(A:List (List D))(r:List LB):List LB:=.cells [dU8 p0.what,dU8 p0.at_,dU8 p0.row,dI p0.n]:: .cells [dI p1.grain,fzE false zaa p1.nodes]:: .cells [dI 0,zez]:: .grow 3 A :: r
def rwO(x:S_api_Node)(w:Nat):Option (List Int)->List (List D)
 | none=>x.rows.map fzR
 | some r=>(x.rows.map fzR).set w [sN 7 1 r.length]
def zCq(x:S_api_Node)(w:Nat):Option (List Int)->List LB
 | none=>[.gone,gP x.parents,.grow 1 (x.rows.map fzR)]
 | some r=>[.gone,gP x.parents,.grow 1 ((x.rows.map fzR).set w [sN 7 1 r.length]),gP r]
def zCX(p0:S_haruspexref05_Bend)(p1:S_api_Net)(x:S_api_Node)(t w:Nat)(r:Option (List Int))(a:Nat):List LB:=
 bif decide (a<=t)then mB p0 p1 ((p1.nodes.take a).map (zaa.c true)) []else mB p0 p1 (((p1.nodes.take a).map (zaa.c true)).set t (opN x)) (zCq x w r)
variable{p0:S_haruspexref05_Bend}{x:S_api_Node}{r:Option (List Int)}
theorem znv{p1:S_api_Net}{t w a:Nat}(h:a<=t):zCX p0 p1 x t w r a=mB p0 p1 ((p1.nodes.take a).map (zaa.c true)) []:=by
 unfold zCX; rw[qdv h,qdt]
theorem zmp{p1:S_api_Net}{t w a:Nat}(h:t<a):zCX p0 p1 x t w r a=mB p0 p1 (((p1.nodes.take a).map (zaa.c true)).set t (opN x)) (zCq x w r):=by
 unfold zCX; rw[qdw (by omega),qdu]
abbrev fM(y:S_api_Node)(a:Nat)(L:List LB)(E:List (Nat×D))(i:Nat)(R:List (List D))(post:List LB):LSt:=
 ⟨323,h5E a ((6,dI a)::(7,.ptr L.length 0):: E),L ++ .cells [dI y.zaF,sN (L.length+1) 1 y.parents.length,sN (L.length+2) 1 i]:: gP y.parents :: .grow 1 R :: post⟩
theorem mtK{L:List LB}{F kp:Nat->Bool}:∀ {es:List (List D)},(∀ cs∈es,D.ziY kp cs)->Mt L F kp es es
 | [],_=>.nil
 | c :: es,h=>.cons (Mos.kin (h c (.head _))) (mtK λcs hm=>h cs (.tail _ hm))
variable{kp:Nat->Bool}
theorem zG7{es:List (List D)}{i:Nat}{c:List D}(h:∀ cs∈es,D.ziY kp cs)(hc:D.ziY kp c):∀ cs∈es.set i c,D.ziY kp cs:=by
 intro cs hm;rcases qcZ hm with hm | rfl
 .exact h cs hm
 exact hc
theorem zHe{xs:List S_api_Node}:∀ cs∈xs.map (zaa.c true),D.ziY kp cs:=zeP zaa kp true xs
theorem kfz{rs:List (List Int)}:∀ cs∈rs.map fzR,D.ziY kp cs:=zeP (eL (eI .i64)) kp true rs
def asL(L:List LB)(xs:List Lx.Act):List Lx.Act:=L.map (λb=>match b with | .gone=>.d | _=>.k)++ xs
theorem meT{P:Prop}(h:P:=by(repeat' first | exact trivial | exact rfl | refine ms rfl ?_ ?_); done):P:=h
theorem mbT{P:Prop}(h:P:=by
 repeat' first
  | exact trivial
  | exact rfl
  | exact MB.gs (eI .i64) true _
  | exact MB.gs (eL (eI .i64)) true _
  | exact mtK zHe
  | exact mtK kfz
  | exact mtK (zG7 zHe ⟨qds,rfl,rfl,qds⟩)
  | exact mtK (zG7 kfz ⟨rfl,qds⟩)
  | exact Mos.nil
  | exact Mt.nil
  | refine Mos.cons (.same (by first | exact trivial | exact rfl)) ?_
  | refine Mos.cons (.fr (zhz (e:=(eI .i64)) (t:=true) rfl rfl (.inr rfl) rfl rfl (λk h=>nomatch h) (λh=>by cases h<;>rfl))) ?_
  | refine Mos.cons (.fr (zhz (e:=(eL (eI .i64))) (t:=true) rfl rfl (.inr rfl) rfl rfl (λk h=>nomatch h) (λh=>by cases h<;>rfl))) ?_
  | refine MB.zFd (Mt.app ?_ (.cons ?_ .nil))
  | refine MB.zFd ?_
  | refine MB.cs ?_
  | refine⟨?_,?_⟩
 done):P:=h
variable{E E':List (Nat×D)}{L':List LB}
theorem wk{N:Nat}{L:List LB}(xs:List Lx.Act)(hl:zjh (asL L' xs) L'.length=true)(hE:MEs L (asL L' xs) E E')(hL:MBs L (asL L' xs) 0 L L'):za8 0 ⟨N,E,L⟩ ⟨N,E',L'⟩:=za8.m0 _ hl hE hL
theorem wkT{N:Nat}{L:List LB}(xs:List Lx.Act)(hE:MEs L (asL L' xs) E E':=by exact meT)(hL:MBs L (asL L' xs) 0 L L':=by exact mbT)(hl:zjh (asL L' xs) L'.length=true:=by rfl):za8 0 ⟨N,E,L⟩ ⟨N,E',L'⟩:=wk xs hl hE hL
theorem zAU{P:D->D->Prop}{a b:List (List D)}(h:Pw P a b):∀ n:Nat,Pw P (a.take n) (b.take n):=by
 induction h with
 | nil=>intro n; simp; exact .nil
 | cons g1 g2 _ ih=>
  intro n;cases n with
  | zero=>exact .nil
  | succ n=>exact .cons g1 g2 (ih n)
theorem zvV{α:Type}{L:List LB}{t':Bool}{β n len st:Nat}{cap:Option Nat}{e:En α}{els:List (List D)}{xs:List α}(hn:n=e.n)(he:L[β]? = some (.els n els)\/L[β]? = some (.grow n els))(hs:st=els.length)(hl:len<=els.length)(hc:∀ k,cap=some k->len<=k)(h:Pw (Snp L t') (els.take len) (xs.map (e.c t'))):Snp L t' (.sl β 0 n len cap st) (fzE t' e xs):=by
 subst hn;have hlen:=h.len;rw[qbH,qcj hl]at hlen;have hget:∀(i:Nat) (cells cells':List D),els[0+i]? = some cells->(xs.map (e.c t'))[i]? = some cells'->(els.take len)[i]? = some cells:=by
  intro i cells cells' h1 h2;have hi:=(qab.1 h2).1;rw[qbq,if_pos (by omega),<- h1,qaR]
 refine .sl (zky he hs) (by simp[hl]) hc hlen (λi cells cells' h1 h2=>(h.get i _ _ (hget i _ _ h1 h2) h2).1) λi k cells cells' d d' h1 h2 h3 h4=>(h.get i _ _ (hget i _ _ h1 h2) h2).2 k d d' h3 h4
section
variable {α:Type} {e:En α} {L:List LB} {xs:List α} {A:List (List D)} {op:List D} {y:α} {i:Nat}
theorem pwS(h:Snps L true op (e.c true y)):Pw (Snp L true) ((xs.map (e.c true)).set i op) ((xs.set i y).map (e.c true)):=by
 rw[qdq]; exact Pw.set (zvw e id xs) h.len h.get _
theorem zG8(hy:xs[i]? = some y)(h:Snps L true op (e.c true y)):Pw (Snp L true) ((xs.map (e.c true)).set i op) (xs.map (e.c true)):=by
 have:=pwS (xs:=xs) (i:=i) h;obtain⟨h1,rfl⟩:=qab.1 hy
 rwa [List.set_getElem_self]at this
theorem pwA(hA:Pw (Snp L true) A (xs.map (e.c true)))(h:Snps L true op (e.c true y)):Pw (Snp L true) (A ++ [op]) ((xs ++ [y]).map (e.c true)):=by
 rw[qa1]; exact hA.app (zvm h .nil)
theorem pwT(hA:Pw (Snp L true) A (xs.map (e.c true))):Pw (Snp L true) (A.take i) ((xs.take i).map (e.c true)):=by
 rw[List.map_take]; exact zAU hA i
end
theorem zIn{L:List LB}{c:Int}{ps:List Int}{rs:List (List Int)}{dp dr:D}(hp:Snp L true dp (fzE true (eI .i64) ps))(hr:Snp L true dr (fzE true (eL (eI .i64)) rs)):Snps L true [dI c,dp,dr] (zaa.c true ⟨c,ps,rs⟩):=.cons (.lit _) (.cons hp (.cons hr .nil))
theorem fnT{P:Prop}(h:P:=by
 refine zje.ret rfl (.zup (.cons (.lit _) (.cons ?_ .nil)))
 repeat' first
  | exact .lit _
  | exact zhp _
  | refine zvV rfl (.inr rfl) (by simp) (by simp<;>omega) (by intro k h; cases h; all_goals omega) (pwT ?_)
  | refine znd rfl (by first | exact .inr rfl | exact .inl rfl) (by simp[*]) (by simp[*]) (by intro k h; cases h; all_goals exact qap _) ?_
  | exact zvw _ id _
  | exact zvw (eL (eI .i64)) id _
  | refine zG8 (by assumption) ?_
  | refine zG8 (e:=eL (eI .i64)) (by assumption) ?_
  | refine pwS ?_
  | refine pwS (e:=eL (eI .i64)) ?_
  | refine pwA ?_ ?_
  | refine zvm ?_ ?_
  | exact .nil
  | refine zIn ?_ ?_
  | refine .cons ?_ .nil):P:=h
theorem zAL{p0:S_haruspexref05_Bend}{p1 r:S_api_Net}(h:zo5 p0 p1=some r):Lx.Fn mC 29 [(.agg [(dU8 p0.what),(dU8 p0.at_),(dU8 p0.row),(dI p0.n)]),(.agg [(dI p1.grain),(fzE false zaa p1.nodes)])] (.agg [(dI r.grain),(fzE true zaa r.nodes)]):=by
 refine gnO ?_;unfold zo5 at h;split at h
 case isFalse=>cases h
 rename_i hg;obtain⟨⟨hw0,hw1⟩,⟨ha0,ha1⟩,⟨hr0,hr1⟩,hn2,hfit⟩:=hg;have hmb:zaj=140737488355328:=rfl;have hat:IntKind.i64.wrap p0.at_=p0.at_:=wrap64 (by omega) (by omega);have hrow:IntKind.i64.wrap p0.row=p0.row:=wrap64 (by omega) (by omega);obtain⟨k,hk12,hkl⟩:∃ k:Nat,p0.what.tmod 12=(k:Int)/\k<12/\p0.what.toNat % 12=k:=by
  refine⟨p0.what.toNat % 12,?_,qbk _ (by decide),rfl⟩;rw[qcU hw0]; omega
 rw[hkl.2]at h;refine zad ?_;simp only[rnA,Nat.reduceEqDiff,reduceIte,Nat.reduceLT,Nat.reduceAdd,Nat.reduceLeDiff,Nat.reduceMul,Nat.reduceSub,Int.reduceLE,Int.reduceLT,Int.reduceBEq,Nat.reduceBEq,reduceCtorEq,zcN];unfold zBV at h;by_cases hnil:p1.nodes.length=0
 .have hnl:p1.nodes=[]:=qbm hnil;have hri:some p1=some r:=by rw[hnl]at h; exact h
  obtain rfl:=qae hri;have c1:decide (((0:Nat):Int)<((p1.nodes.length:Nat):Int))=false:=by rw[hnil]; rfl
  refine EvL.jn (α:=Unit) (λ_=>⟨323,h5E 0 [],mB p0 p1 [] []⟩) (λ_=>True) ?_ (λ_ _=>?_)
  .refine zad ?_;simp only[rnA,Nat.reduceEqDiff,reduceIte,Nat.reduceLT,Nat.reduceAdd,Nat.reduceLeDiff,Nat.reduceMul,Nat.reduceSub,Int.reduceLE,Int.reduceLT,Int.reduceBEq,Nat.reduceBEq,reduceCtorEq];refine EvL.zgd (za8.ghost (n:=3) (k:=5) (by decide) rfl) ?_;refine EvL.loop (α:=Unit) (λ_=>⟨323,h5E 0 [(6,dI ((0:Nat):Int))],mB p0 p1 [] []⟩) (λ_=>True) (λ_=>0) () (wkT []) trivial ?_;intro _ _;refine zad ?_;simp only[rnA,Nat.reduceEqDiff,reduceIte,Nat.reduceLT,Nat.reduceAdd,Nat.reduceLeDiff,Nat.reduceMul,Nat.reduceSub,Int.reduceLE,Int.reduceLT,Int.reduceBEq,Nat.reduceBEq,reduceCtorEq,zbM,c1];exact⟨(),qds,wkT []⟩
  refine zad ?_;simp only[rnA,Nat.reduceEqDiff,reduceIte,Nat.reduceLT,Nat.reduceAdd,Nat.reduceLeDiff,Nat.reduceMul,Nat.reduceSub,Int.reduceLE,Int.reduceLT,Int.reduceBEq,Nat.reduceBEq,reduceCtorEq,zak,(show(((0:Nat):Int)== 0)=true from rfl)];rw[hnl];exact zje.ret rfl (.zup (.cons (.lit _) (.cons (zm9 (cap:=none) (β:=3) (e:=zaa) (t:=true) (xs:=[]) rfl (.inr rfl) rfl rfl (by intro k h; cases h) (λ_=>rfl)) .nil)))
 have htl:p0.at_.toNat % p1.nodes.length<p1.nodes.length:=qbk _ (by omega);have hrem:p0.at_.tmod (p1.nodes.length:Int)=((p0.at_.toNat % p1.nodes.length:Nat):Int):=by
  rw[qcU ha0,Int.natCast_emod,qck ha0]
 generalize ht:p0.at_.toNat % p1.nodes.length=t at htl hrem h;rw[qac htl]at h;simp only at h;obtain⟨x,hx⟩:∃ x,p1.nodes[t]=x:=⟨_,rfl⟩;rw[hx]at h;have hf:=hfit x (by rw[<- hx]; exact qam _);have hrr:0<x.rows.length->p0.row.tmod (x.rows.length:Int)=((p0.row.toNat % x.rows.length:Nat):Int):=λ_=>by
  rw[qcU hr0,Int.natCast_emod,qck hr0]
 have hwx:0<x.rows.length->p0.row.toNat % x.rows.length<x.rows.length:=λh=>qbk _ h
 generalize hwg:p0.row.toNat % x.rows.length=w at hrr h hwx;obtain⟨o,ho⟩:∃ o,x.rows[w]? = o:=⟨_,rfl⟩;rw[ho]at h;refine EvL.jn (α:=Unit) (λ_=>⟨323,h5E p1.nodes.length [],mB p0 p1 ((p1.nodes.map (zaa.c true)).set t (opN x)) (zCq x w o)⟩) (λ_=>True) ?_ (λ_ _=>?_)
 .refine zad ?_;simp only[rnA,Nat.reduceEqDiff,reduceIte,Nat.reduceLT,Nat.reduceAdd,Nat.reduceLeDiff,Nat.reduceMul,Nat.reduceSub,Int.reduceLE,Int.reduceLT,Int.reduceBEq,Nat.reduceBEq,reduceCtorEq];refine EvL.zgd (za8.ghost (n:=3) (k:=5) (by decide) rfl) ?_;refine EvL.loop (α:=Nat) (λa=>⟨323,h5E a [(6,dI a)],zCX p0 p1 x t w o a⟩) (λa=>a<=p1.nodes.length) (λa=>p1.nodes.length - a) 0 (by rw[znv (qar _)]; exact wkT []) (qar _) ?_;intro a ha;refine zad ?_;by_cases hal:a<p1.nodes.length
  .have g3:zaE p1.nodes (a:Int)=some p1.nodes[a]:=zmR hal;have hy:=hfit p1.nodes[a] (qam _);have hsu:(p1.nodes.take (a+1)).map (zaa.c true)=(p1.nodes.take a).map (zaa.c true)++ [zaa.c true p1.nodes[a]]:=by rw[qbE hal,qa1]; rfl
   have hlen:((p1.nodes.take a).map (zaa.c true)).length=a:=by simp; omega
   have hxy:a=t->p1.nodes[a]=x:=λe=>by subst e; exact hx
   generalize p1.nodes[a]=y at g3 hy hsu hxy;obtain⟨hp1,hp2,hp3⟩:=hy;have c1:decide ((a:Int)<(p1.nodes.length:Int))=true:=qdv (by omega);have hw:IntKind.i64.wrap ((a:Int)+1)=((a+1:Nat):Int):=by rw[wrap64 (by omega) (by omega)]; omega
   have hmf:(a+1)* 56<=zaj:=by omega
   have hpf:y.parents.length * 8<=zaj:=by omega
   have hsr:∀(l:List Int) L,zpB L 1 (fzE false (eI .i64) l)=some (l.map ((eI .i64).c true)):=λl L=>zmz (e:=(eI .i64)) rfl _ L false
   have hri:∀ {i:Nat},i<y.rows.length->∃ r,y.rows[i]? = some r/\zaE y.rows (i:Int)=some r/\decide ((i:Int)<(y.rows.length:Int))=true/\IntKind.i64.wrap ((i:Int)+1)=((i+1:Nat):Int)/\(i+1)* 24<=zaj/\r.length * 8<=zaj/\y.rows.take (i+1)=y.rows.take i ++ [r]/\((y.rows.take i).map fzR).length=i:=λ{i} hi=>by
    have:=hp3 _ (qam hi);exact⟨y.rows[i],qac hi,zmR hi,qdv (by omega),by rw[wrap64 (by omega) (by omega)]; omega,by omega,by omega,qbE hi,by simp; omega⟩
   have ends:decide ((y.rows.length:Int)<(y.rows.length:Int))=false:=qdw (by omega);obtain⟨M,hM⟩:∃ M,M=zCX p0 p1 x t w o a:=⟨_,rfl⟩;rw[<- hM];rcases Nat.lt_trichotomy a t with hlt | rfl | hgt
   case inr.inl=>
    rw[znv (qap _)]at hM;obtain rfl:=hxy rfl;simp only[hM];simp only[rnA,Nat.reduceEqDiff,reduceIte,Nat.reduceLT,Nat.reduceAdd,Nat.reduceLeDiff,Nat.reduceMul,Nat.reduceSub,Int.reduceLE,Int.reduceLT,Int.reduceBEq,Nat.reduceBEq,reduceCtorEq,zak,zaq (n:=3) (e:=zaa) rfl g3,zbM,c1,hpf,hsr];refine EvL.jn (α:=Unit) (λ_=>fM y a M [] y.rows.length (rwO y w o) (match o with | none=>[] | some row=>[gP row])) (λ_=>True) ?_ (λ_ _=>?_)
    .refine zad ?_;simp only[rnA,Nat.reduceEqDiff,reduceIte,Nat.reduceLT,Nat.reduceAdd,Nat.reduceLeDiff,Nat.reduceMul,Nat.reduceSub,Int.reduceLE,Int.reduceLT,Int.reduceBEq,Nat.reduceBEq,reduceCtorEq,hM];refine EvL.zgd (za8.zo4 (n:=1) (β:=4) (o:=2) (by decide) rfl rfl) ?_;obtain⟨R,hR⟩:∃ R:Nat->List (List D)×List LB,R=λi=>match o with
      | none=>((y.rows.take i).map fzR,[])
      | some row=>bif decide (i<=w)then((y.rows.take i).map fzR,[])else(((y.rows.take i).map fzR).set w [sN 7 1 row.length],[gP row]):=⟨_,rfl⟩
     refine EvL.loop (α:=Nat) (λi=>fM y a M [(8,dI i)] i (R i).1 (R i).2) (λi=>i<=y.rows.length) (λi=>y.rows.length - i) 0 (by rw[hM,hR]; cases o<;>exact wkT []) (qar _) ?_;intro i hi;refine zad ?_;by_cases hil:i<y.rows.length
     .obtain⟨r,q1,q2,q3,q4,q5,q6,q7,q8⟩:=hri hil;cases o with
      | none=>
       simp only[hM,hR];simp only[rnA,Nat.reduceEqDiff,reduceIte,Nat.reduceLT,Nat.reduceAdd,Nat.reduceLeDiff,Nat.reduceMul,Nat.reduceSub,Int.reduceLE,Int.reduceLT,Int.reduceBEq,Nat.reduceBEq,reduceCtorEq,zak,zaq (n:=3) (e:=zaa) rfl g3,zbM,q3,q4,q5,q6,q8,zaq (n:=1) (e:=(eL (eI .i64))) rfl q2,hsr];exact⟨i+1,hil,by omega,by rw[q7,qa1]; exact wkT [.f]⟩
      | some row=>
       rcases Nat.lt_trichotomy i w with hiw | rfl | hiw
       .simp only[hM,hR,qdv (Nat.le_of_lt hiw),qdt];simp only[rnA,Nat.reduceEqDiff,reduceIte,Nat.reduceLT,Nat.reduceAdd,Nat.reduceLeDiff,Nat.reduceMul,Nat.reduceSub,Int.reduceLE,Int.reduceLT,Int.reduceBEq,Nat.reduceBEq,reduceCtorEq,zak,zaq (n:=3) (e:=zaa) rfl g3,zbM,q3,q4,q5,q6,q8,zaq (n:=1) (e:=(eL (eI .i64))) rfl q2,hsr];refine⟨i+1,hil,by omega,?_⟩;simp only[qdv (Nat.succ_le_of_lt hiw),qdt];rw[q7,qa1]; exact wkT [.f]
       .obtain rfl:=qae (q1.symm.trans ho);simp only[hM,hR,qdv (qap i),qdt];simp only[rnA,Nat.reduceEqDiff,reduceIte,Nat.reduceLT,Nat.reduceAdd,Nat.reduceLeDiff,Nat.reduceMul,Nat.reduceSub,Int.reduceLE,Int.reduceLT,Int.reduceBEq,Nat.reduceBEq,reduceCtorEq,zak,zaq (n:=3) (e:=zaa) rfl g3,zbM,q3,q4,q5,q6,q8,zaq (n:=1) (e:=(eL (eI .i64))) rfl q2,hsr];refine⟨i+1,hil,by omega,?_⟩;simp only[qdw (Nat.not_succ_le_self i),qdu];rw[q7,qa1,qb2 _ _ (qdr q8),q8,qcf];exact wkT []
       simp only[hM,hR,qdw (Nat.not_le_of_lt hiw),qdu];simp only[rnA,Nat.reduceEqDiff,reduceIte,Nat.reduceLT,Nat.reduceAdd,Nat.reduceLeDiff,Nat.reduceMul,Nat.reduceSub,Int.reduceLE,Int.reduceLT,Int.reduceBEq,Nat.reduceBEq,reduceCtorEq,zak,zaq (n:=3) (e:=zaa) rfl g3,zbM,q3,q4,q5,q6,q8,zaq (n:=1) (e:=(eL (eI .i64))) rfl q2,hsr,qaI];refine⟨i+1,hil,by omega,?_⟩;simp only[qdw (Nat.not_le_of_lt (qcg hiw)),qdu];rw[q7,qa1,qcz _ _ (by rw[q8]; exact hiw)]; exact wkT [.f]
     obtain rfl:i=y.rows.length:=by omega
     cases o with
     | none=>
      simp only[hM,hR];simp only[rnA,Nat.reduceEqDiff,reduceIte,Nat.reduceLT,Nat.reduceAdd,Nat.reduceLeDiff,Nat.reduceMul,Nat.reduceSub,Int.reduceLE,Int.reduceLT,Int.reduceBEq,Nat.reduceBEq,reduceCtorEq,zak,zaq (n:=3) (e:=zaa) rfl g3,zbM,ends];rw[qbR];exact⟨(),qds,wkT []⟩
     | some row=>
      have:=(qab.1 ho).1;simp only[hM,hR,qdw (Nat.not_le_of_lt this),qdu];simp only[rnA,Nat.reduceEqDiff,reduceIte,Nat.reduceLT,Nat.reduceAdd,Nat.reduceLeDiff,Nat.reduceMul,Nat.reduceSub,Int.reduceLE,Int.reduceLT,Int.reduceBEq,Nat.reduceBEq,reduceCtorEq,zak,zaq (n:=3) (e:=zaa) rfl g3,zbM,ends];rw[qbR];exact⟨(),qds,wkT []⟩
    cases o
    all_goals
     simp only[hM];refine zad ?_;simp only[rnA,Nat.reduceEqDiff,reduceIte,Nat.reduceLT,Nat.reduceAdd,Nat.reduceLeDiff,Nat.reduceMul,Nat.reduceSub,Int.reduceLE,Int.reduceLT,Int.reduceBEq,Nat.reduceBEq,reduceCtorEq,zak,hlen,hmf,hw];refine⟨a+1,hal,by omega,?_⟩;rw[zmp (qbt a),hsu,qb2 _ _ (qdr hlen),hlen,qcf]; exact wkT []
   all_goals (try cases o)
   all_goals
    first | rw[znv (Nat.le_of_lt hlt)]at hM | (rw[zmp hgt]at hM; simp only[zCq]at hM)
    simp only[hM];simp only[rnA,Nat.reduceEqDiff,reduceIte,Nat.reduceLT,Nat.reduceAdd,Nat.reduceLeDiff,Nat.reduceMul,Nat.reduceSub,Int.reduceLE,Int.reduceLT,Int.reduceBEq,Nat.reduceBEq,reduceCtorEq,zak,zaq (n:=3) (e:=zaa) rfl g3,zbM,c1,hpf,hsr];refine EvL.jn (α:=Unit) (λ_=>fM y a M [] y.rows.length (y.rows.map fzR) []) (λ_=>True) ?_ (λ_ _=>?_)
    .simp only[hM];refine zad ?_;simp only[rnA,Nat.reduceEqDiff,reduceIte,Nat.reduceLT,Nat.reduceAdd,Nat.reduceLeDiff,Nat.reduceMul,Nat.reduceSub,Int.reduceLE,Int.reduceLT,Int.reduceBEq,Nat.reduceBEq,reduceCtorEq];refine EvL.zgd (by first | exact za8.zo4 (n:=1) (β:=4) (o:=2) (by decide) rfl rfl | exact za8.zo4 (n:=1) (β:=7) (o:=2) (by decide) rfl rfl | exact za8.zo4 (n:=1) (β:=8) (o:=2) (by decide) rfl rfl) ?_;refine EvL.loop (α:=Nat) (λi=>fM y a M [(8,dI i)] i ((y.rows.take i).map fzR) []) (λi=>i<=y.rows.length) (λi=>y.rows.length - i) 0 (by rw[hM]; exact wkT []) (qar _) ?_;intro i hi;simp only[hM];refine zad ?_;by_cases hil:i<y.rows.length
     .obtain⟨r,q1,q2,q3,q4,q5,q6,q7,q8⟩:=hri hil;simp only[rnA,Nat.reduceEqDiff,reduceIte,Nat.reduceLT,Nat.reduceAdd,Nat.reduceLeDiff,Nat.reduceMul,Nat.reduceSub,Int.reduceLE,Int.reduceLT,Int.reduceBEq,Nat.reduceBEq,reduceCtorEq,zak,zaq (n:=3) (e:=zaa) rfl g3,zbM,q3,q4,q5,q6,q8,zaq (n:=1) (e:=(eL (eI .i64))) rfl q2,hsr];exact⟨i+1,hil,by omega,by rw[q7,qa1]; exact wkT [.f]⟩
     obtain rfl:i=y.rows.length:=by omega
     simp only[rnA,Nat.reduceEqDiff,reduceIte,Nat.reduceLT,Nat.reduceAdd,Nat.reduceLeDiff,Nat.reduceMul,Nat.reduceSub,Int.reduceLE,Int.reduceLT,Int.reduceBEq,Nat.reduceBEq,reduceCtorEq,zak,zaq (n:=3) (e:=zaa) rfl g3,zbM,ends];rw[qbR];exact⟨(),qds,wkT []⟩
    simp only[hM];refine zad ?_;simp only[rnA,Nat.reduceEqDiff,reduceIte,Nat.reduceLT,Nat.reduceAdd,Nat.reduceLeDiff,Nat.reduceMul,Nat.reduceSub,Int.reduceLE,Int.reduceLT,Int.reduceBEq,Nat.reduceBEq,reduceCtorEq,zak,hlen,hmf,hw,qaI];refine⟨a+1,hal,by omega,?_⟩;first | (rw[znv hlt,hsu]; exact wkT [.d,.f,.f])| (rw[zmp (qcg hgt),hsu,qcz _ _ (by rw[hlen]; exact hgt)]; exact wkT [.d,.f,.f])
  have hae:a=p1.nodes.length:=by omega
  have c1:decide ((a:Int)<(p1.nodes.length:Int))=false:=qdw (by omega);subst hae;rw[zmp htl,qbR];cases o
  all_goals
   simp only[zCq];simp only[rnA,Nat.reduceEqDiff,reduceIte,Nat.reduceLT,Nat.reduceAdd,Nat.reduceLeDiff,Nat.reduceMul,Nat.reduceSub,Int.reduceLE,Int.reduceLT,Int.reduceBEq,Nat.reduceBEq,reduceCtorEq,zbM,c1];exact⟨(),qds,wkT []⟩
 have hxt:p1.nodes[t]? = some x:=by rw[qac htl,hx]
 have hne:(((p1.nodes.length:Nat):Int)== 0)=false:=by rw[qdy]; omega
 have hlt0:(0:Int)<=(t:Int):=by omega
 have hlt1:(t:Int)<((p1.nodes.length:Nat):Int):=by omega
 have hgs3:∀ C:List D,((p1.nodes.map (zaa.c true)).set t C)[t]? = some C:=λC=>by rw[qa0 (by simpa using htl)]
 have hwn:IntKind.i64.wrap (((p1.nodes.length:Nat):Int) - 1)=((p1.nodes.length - 1:Nat):Int):=by rw[wrap64 (by omega) (by omega)]; try omega
 have hbn:∀ {m n:Nat},m<=n->bounds n none none (some (m:Int)) none=some (0,m,none):=λ{m n} hm=>by
  have:(m:Int)<=((n:Nat):Int):=by omega
  simp[bounds,ziO,this]
 have hb11:=hbn (Nat.sub_le p1.nodes.length 1);have hfn1:(p1.nodes.length+1)* 56<=zaj:=by omega
 have hps:=hf.ps;have hrs:=hf.rs;refine zad ?_;have hrp:∀ n,List.replicate n [D.lit (.int .i64 0)]=(List.replicate n (0:Int)).map ((eI .i64).c true):=λn=>by rw[qcP]; rfl
 have hd0:decide ((0:Int)<((0:Nat):Int))=false:=rfl;have hm1:decide ((0:Int)<=-1)=false:=rfl;obtain⟨c0,hpos⟩:∃ c,decide ((0:Int)<((x.rows.length:Nat):Int))=c:=⟨_,rfl⟩;cases o with
 | none=>
  obtain rfl:c0=false:=by
   rw[<- hpos];refine qdw λhp=>?_
   rw[qac (hwx (by omega))]at ho;cases ho
  simp only[zCq];simp only[rnA,Nat.reduceEqDiff,reduceIte,Nat.reduceLT,Nat.reduceAdd,Nat.reduceLeDiff,Nat.reduceMul,Nat.reduceSub,Int.reduceLE,Int.reduceLT,Int.reduceBEq,Nat.reduceBEq,reduceCtorEq,hat,hrem,hlt0,hlt1,hne,hgs3,qaI,qak,qay];refine EvL.scope (zad ?_);simp only[rnA,Nat.reduceEqDiff,reduceIte,Nat.reduceLT,Nat.reduceAdd,Nat.reduceLeDiff,Nat.reduceMul,Nat.reduceSub,Int.reduceLE,Int.reduceLT,Int.reduceBEq,Nat.reduceBEq,reduceCtorEq,hpos];obtain rfl | rfl | rfl | rfl | rfl | rfl | rfl | rfl | rfl | rfl | rfl | rfl:k=0\/k=1\/k=2\/k=3\/k=4\/k=5\/k=6\/k=7\/k=8\/k=9\/k=10\/k=11:=by omega
  all_goals
   simp only[Int.cast_ofNat_Int,Int.ofNat_zero,Int.ofNat_one]at hk12;obtain rfl:=qae h;refine EvL.scope (zad ?_);simp only[rnA,Nat.reduceEqDiff,reduceIte,Nat.reduceLT,Nat.reduceAdd,Nat.reduceLeDiff,Nat.reduceMul,Nat.reduceSub,Int.reduceLE,Int.reduceLT,Int.reduceBEq,Nat.reduceBEq,reduceCtorEq,hat,hlt0,hlt1,hne,hgs3,qaI,qak,qay,qc4,zbM,hk12,hps,hrs,hfn1,hb11,hwn,hm1];try (refine EvL.scope (zad ?_); simp only[rnA,Nat.reduceEqDiff,reduceIte,Nat.reduceLT,Nat.reduceAdd,Nat.reduceLeDiff,Nat.reduceMul,Nat.reduceSub,Int.reduceLE,Int.reduceLT,Int.reduceBEq,Nat.reduceBEq,reduceCtorEq,hm1])
   exact fnT
 | some row=>
  obtain⟨hwl,hrw⟩:=qab.1 ho;obtain rfl:c0=true:=by rw[<- hpos]; exact qdv (by omega)
  have hw0:(0:Int)<=(w:Int):=by omega
  have hw1:(w:Int)<((x.rows.length:Nat):Int):=by omega
  have hnr:(((x.rows.length:Nat):Int)== 0)=false:=by rw[qdy]; omega
  have hgs6:∀ C:List D,((x.rows.map fzR).set w C)[w]? = some C:=λC=>by rw[qa0 (by simpa using hwl)]
  have hrow7:=hf.row _ (hrw ▸ qam hwl);have hw01:decide ((0:Int)<=(w:Int))=true:=qdv (by omega);have hb5:=hbn (Nat.le_of_lt hwl);have hww:=hrr (by omega);simp only[zCq];simp only[rnA,Nat.reduceEqDiff,reduceIte,Nat.reduceLT,Nat.reduceAdd,Nat.reduceLeDiff,Nat.reduceMul,Nat.reduceSub,Int.reduceLE,Int.reduceLT,Int.reduceBEq,Nat.reduceBEq,reduceCtorEq,hat,hrem,hlt0,hlt1,hne,hgs3,qaI,qak,qay];refine EvL.scope (zad ?_);simp only[rnA,Nat.reduceEqDiff,reduceIte,Nat.reduceLT,Nat.reduceAdd,Nat.reduceLeDiff,Nat.reduceMul,Nat.reduceSub,Int.reduceLE,Int.reduceLT,Int.reduceBEq,Nat.reduceBEq,reduceCtorEq,hat,hrem,hlt0,hlt1,hne,hgs3,qaI,qak,qay,hpos,hrow,hww,hnr];obtain rfl | rfl | rfl | rfl | rfl | rfl | rfl | rfl | rfl | rfl | rfl | rfl:k=0\/k=1\/k=2\/k=3\/k=4\/k=5\/k=6\/k=7\/k=8\/k=9\/k=10\/k=11:=by omega
  all_goals
   simp only[Int.cast_ofNat_Int,Int.ofNat_zero,Int.ofNat_one]at hk12;refine EvL.scope (zad ?_);simp only[rnA,Nat.reduceEqDiff,reduceIte,Nat.reduceLT,Nat.reduceAdd,Nat.reduceLeDiff,Nat.reduceMul,Nat.reduceSub,Int.reduceLE,Int.reduceLT,Int.reduceBEq,Nat.reduceBEq,reduceCtorEq,hat,hlt0,hlt1,hne,hgs3,hgs6,hw0,hw1,qaI,qak,qay,qc4,zbM,hk12,hps,hrs,hrow7,hfn1,hw01,hb5,hb11,hwn,hrp];try (obtain rfl:=qae h; exact fnT)
  case some.inr.inr.inr.inr.inr.inr.inr.inr.inr.inl=>
   simp only[zov]at h;obtain⟨r2,hsw,rfl⟩:=qan.1 h;refine EvL.jn (α:=Unit) (λ_=>⟨323,[(2,.ptr 0 0),(3,.ptr 1 0),(4,.ptr 2 0)],.cells [dU8 p0.what,dU8 p0.at_,dU8 p0.row,dI p0.n]:: .cells [dI p1.grain,sN 3 3 p1.nodes.length]:: .cells [dI 0,zez]:: .grow 3 ((p1.nodes.map (zaa.c true)).set t (opN x)):: [.gone,gP x.parents,.grow 1 ((x.rows.map fzR).set w [sN 7 1 row.length]),gP r2]⟩) (λ_=>r2.length=row.length) ?_ ?_
   .refine zad ?_;simp only[rnA,Nat.reduceEqDiff,reduceIte,Nat.reduceLT,Nat.reduceAdd,Nat.reduceLeDiff,Nat.reduceMul,Nat.reduceSub,Int.reduceLE,Int.reduceLT,Int.reduceBEq,Nat.reduceBEq,reduceCtorEq];obtain⟨T,hT⟩:∃ T:Int×Int×List Int->LSt,T=(λa=>⟨323,[(2,.ptr 0 0),(3,.ptr 1 0),(4,.ptr 2 0),(10,.eptr 3 3 t 0 p1.nodes.length),(11,dI w),(12,dI a.1),(13,dI a.2.1)],.cells [dU8 p0.what,dU8 p0.at_,dU8 p0.row,dI p0.n]:: .cells [dI p1.grain,sN 3 3 p1.nodes.length]:: .cells [dI 0,zez]:: .grow 3 ((p1.nodes.map (zaa.c true)).set t (opN x)):: [.gone,gP x.parents,.grow 1 ((x.rows.map fzR).set w [sN 7 1 row.length]),gP a.2.2]⟩):=⟨_,rfl⟩;refine EvL.rounds T (λn a=>swL n a.1 a.2.1 a.2.2=some r2/\a.2.2.length=row.length) (row.length+2) (0,w64 (((row.length:Nat):Int) - 1),row) (by rw[hT]; exact wkT []) ⟨hsw,rfl⟩ (λ_ h=>nomatch h.1) ?_;rintro n ⟨i,k,a⟩ ⟨h1,hal⟩;simp only at h1 hal;rw[congrFun hT (i,k,a)];simp only[swL]at h1;refine zad ?_;cases c1:decide (i<k)with
    | false=>
     rw[c1,qdu]at h1;cases h1;simp only[rnA,Nat.reduceEqDiff,reduceIte,Nat.reduceLT,Nat.reduceAdd,Nat.reduceLeDiff,Nat.reduceMul,Nat.reduceSub,Int.reduceLE,Int.reduceLT,Int.reduceBEq,Nat.reduceBEq,reduceCtorEq,c1];exact⟨(),hal,wkT []⟩
    | true=>
     rw[c1,qdt]at h1;obtain⟨x1,g1,h1⟩:=bind_some h1;obtain⟨y1,g2,h1⟩:=bind_some h1;obtain⟨r1,g3',h1⟩:=bind_some h1;obtain⟨r3,g4,h1⟩:=bind_some h1;have g2r:zaE r1 k=some y1:=by
      have hi0:=zaZ g1;have hik:=of_decide_eq_true c1;rw[(zme g3').2];unfold zaE at g2 ⊢;rw[if_pos (by omega)]at g2 ⊢;rw[qaK (by omega)];exact g2
     have l1:r1.length=row.length:=(zaX g3').trans hal;simp only[rnA,Nat.reduceEqDiff,reduceIte,Nat.reduceLT,Nat.reduceAdd,Nat.reduceLeDiff,Nat.reduceMul,Nat.reduceSub,Int.reduceLE,Int.reduceLT,Int.reduceBEq,Nat.reduceBEq,reduceCtorEq,hlt0,hlt1,hgs3,hgs6,hw0,hw1,qaI,qak,qay,qc4,c1,hal,l1,zaZ g1,zaZ g2,(show i<((row.length:Nat):Int)from hal ▸ zd6 g1),(show k<((row.length:Nat):Int)from hal ▸ zd6 g2),zcD g1 ((eI .i64).c true),zcD g2 ((eI .i64).c true),zcD g2r ((eI .i64).c true),(show(a.map ((eI .i64).c true)).set i.toNat [dI y1]=r1.map ((eI .i64).c true)from zeq g3' ((eI .i64).c true)),(show(r1.map ((eI .i64).c true)).set k.toNat [dI x1]=r3.map ((eI .i64).c true)from zeq g4 ((eI .i64).c true))];exact⟨(w64 (i+1),w64 (k - 1),r3),⟨h1,(zaX g4).trans l1⟩,by rw[hT]; exact wkT []⟩
   rintro _ hl2;refine zad ?_;simp only[rnA,Nat.reduceEqDiff,reduceIte,Nat.reduceLT,Nat.reduceAdd,Nat.reduceLeDiff,Nat.reduceMul,Nat.reduceSub,Int.reduceLE,Int.reduceLT,Int.reduceBEq,Nat.reduceBEq,reduceCtorEq,<- hl2];exact fnT
  all_goals
   have hpr:∀ n:Nat,(0:Int)<((n+1:Nat):Int):=λn=>by omega
   have hdr:∀ n:Nat,decide ((0:Int)<((n+1:Nat):Int))=true:=λn=>qdv (hpr n)
   have hwr:((row.length:Nat):Int)* ((8:Nat):Int)<=((zaj:Nat):Int):=by omega
   have hr0:∀(v:Int) l,((v :: l).map ((eI .i64).c true))[0]? = some [dI v]:=λ_ _=>rfl
   have hr1:∀ n:Nat,((List.replicate (n+1) (0:Int)).map ((eI .i64).c true))[0]? = some [dI 0]:=λ_=>rfl
   rcases row with _ | ⟨v,l⟩
   all_goals
    simp only[zov,List.isEmpty_cons,List.isEmpty_nil,qdt,qdu,qaC]at h hwr hrow7;obtain rfl:=qae h;refine EvL.scope (zad ?_);simp only[rnA,Nat.reduceEqDiff,reduceIte,Nat.reduceLT,Nat.reduceAdd,Nat.reduceLeDiff,Nat.reduceMul,Nat.reduceSub,Int.reduceLE,Int.reduceLT,Int.reduceBEq,Nat.reduceBEq,reduceCtorEq,hat,hlt0,hlt1,hne,hgs3,hgs6,hw0,hw1,qaI,qak,qay,qc4,zbM,hk12,hw01,hd0,hdr,hpr,hwr,hr0,hr1,hrp,Int.toNat_zero,qbN,qbS,qb4];exact fnT
end Go.Dc
