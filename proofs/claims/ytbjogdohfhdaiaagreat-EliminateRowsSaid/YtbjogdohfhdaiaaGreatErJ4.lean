/-
 What r05_Moral computes. Conditions: none.
-/
import Derived.Test.YtbjogdohfhdaiaaGreatErJ3
import Derived.Test.YtbjogdohfhdaiaaGreatErJ1
import Derived.Test.YtbjogdohfhdaiaaGreatErJ2
import Derived.Test.YtbjogdohfhdaiaaGreatErLi
set_option linter.unusedSimpArgs false
set_option linter.unusedVariables false
set_option maxRecDepth 100000
set_option maxHeartbeats 4000000
namespace Go.Dc
open Go Go.Mx Go.Lx Go.Proofs
end Go.Dc
namespace Go.Dc
open Go Go.Mx Go.Lx
abbrev zc1:Nat:=4611686018427387903
def zhs:Nat->List Int->Bool
 | _,[]=>true
 | a,c :: cs=>decide (1<=c) && decide (c<=8) && decide (a * c.toNat<=4096) && zhs (a * c.toNat) cs
theorem zmh:∀ {cs:List Int} {a:Nat},zhs a cs=true->∃ ns:List Nat,cs=iL ns/\(∀ c∈ns,1<=c/\c<=8)/\(a<=4096->a * zac ns<=4096)
 | [],a,_=>⟨[],rfl,by simp,λh=>by simpa [zac]using h⟩
 | c :: cs,a,h=>by
  simp only[zhs,qai,decide_eq_true_eq]at h;obtain⟨⟨⟨h1,h2⟩,h3⟩,h4⟩:=h;obtain⟨ns,e,g1,g2⟩:=zmh h4;refine⟨c.toNat :: ns,?_,?_,λ_=>?_⟩
  .rw[e]; simp[iL]; omega
  .intro d hd;rcases qav.1 hd with rfl | hd
   .omega
   exact g1 d hd
  have:=g2 h3;show a * (c.toNat * zac ns)<=4096;rw[<- qa3]; exact this
theorem zhR:∀ {ns:List Nat} {a:Nat},(∀ c∈ns,1<=c/\c<=8)->a * zac ns<=4096->zhs a (iL ns)=true
 | [],a,_,_=>rfl
 | n :: ns,a,h,hp=>by
  have h1:=h n qaj;have hp':a * n * zac ns<=4096:=by rw[qa3]; exact hp
  have hpos:1<=zac ns:=zdV λx hx=>(h x (qah _ hx)).1
  have hle:a * n<=4096:=qaq (qaI _ hpos) hp';show(decide ((1:Int)<=(n:Int)) && decide ((n:Int)<=8) && decide (a * (n:Int).toNat<=4096) && zhs (a * (n:Int).toNat) (iL ns))=true;rw[qax,zhR (λc hc=>h c (qah _ hc)) hp',qdv (by omega),qdv (by omega),qdv hle];rfl
def zkL:List Int->Nat
 | []=>1
 | c :: cs=>c.toNat * zkL cs
theorem zkA(ns:List Nat):zkL (iL ns)=zac ns:=by
 induction ns with
 | nil=>rfl
 | cons n ns ih=>show(n:Int).toNat * zkL (iL ns)=n * zac ns; rw[ih,qax]
theorem zs2(cs:List Int)(hl:cs.length<=12):∀(n i:Nat) (a:Nat),a<=4096->i<=cs.length->cs.length - i<n->zcQ cs n ((a:Nat):Int) (i:Int)=some (bif zhs a (cs.drop i)then(((a * zkL (cs.drop i):Nat):Int),true)else(0,false))
 | 0,_,_,_,_,h=>absurd h (qam _)
 | n+1,i,a,ha,hi,hn=>by
  unfold zcQ;rcases qa0 i cs.length with h3 | h3
  .rw[zA7 h3,qdt,zba h3,qaa,qay h3];generalize cs[i]=c;simp only[zhs,zkL];by_cases h1:c<1
   .rw[qdv h1,qdt,qaa,qdt,qdw (show ¬ 1<=c by omega)];rfl
   rw[qdw h1,qdu,qdv (show 1<=c by omega)];by_cases h2:8<c
   .rw[qdv h2,qdt,qaa,qdt,qdw (show ¬ c<=8 by omega)];rfl
   rw[qdw h2,qdu,qdv (show c<=8 by omega)];obtain⟨m,rfl⟩:∃ m:Nat,c=(m:Int):=⟨c.toNat,by omega⟩;have hb:a * m<=4096 * 8:=qbi ha (by omega);rw[<- qaZ,zaC (by omega),qaa,qax];by_cases h4:a * m<=4096
   .rw[show decide ((4096:Int)<((a * m:Nat):Int))=false from qdw (by omega),qdu,zai (by omega),zs2 cs hl n (i+1) (a * m) h4 h3 (by omega),qdv h4,qa3];rfl
   rw[show decide ((4096:Int)<((a * m:Nat):Int))=true from qdv (by omega),qdt,qdw h4];rfl
  obtain rfl:i=cs.length:=by omega
  rw[zGa,qdu,qbB];simp[zhs,zkL]
def zcH(cs:List Int):Bool:=decide (cs.length<=12) && zhs 1 cs
theorem zAb(cs:List Int):zc8 cs=some (bif zcH cs then(((zkL cs:Nat):Int),0)else(0,20)):=by
 unfold zc8 zeW zcH;by_cases hl:cs.length<=12
 .rw[show decide ((12:Int)<(cs.length:Int))=false from qdw (by omega),qdu,zaK];have:=zs2 cs hl (cs.length+2) 0 1 (by omega) (qau _) (by omega);rw[show((1:Nat):Int)=1 from rfl,show((0:Nat):Int)=0 from rfl,qbq,qa2]at this;rw[this,qdv hl,qbF];cases zhs 1 cs<;>rfl
 rw[show decide ((12:Int)<(cs.length:Int))=true from qdv (by omega),qdt,qdw hl];rfl
end Go.Dc
namespace Go.Dc
open Go Go.Mx Go.Lx Go.Proofs
def zcP(p0:S_api_Factor):Nat->Int->Int->Option (Out Unit (S_factor_table×Int))
 | 0,_,_=>none
 | n+1,v6,v42=>(
bif (decide (v42<(p0.vars.length:Int)))then(
(zaE p0.vars v42).bind λx7=>
((bif (decide (x7<=v6))then(
some true)
else(
some (decide (63<x7))):Option Bool)).bind λv52=>
bif v52 then(
some (.ret ((S_factor_table.mk (S_api_Factor.mk [] [] []) []),30)))
else(
zcP p0 n x7 (w64 (v42+1))))
else(
some (.go ())))
def zcT(p0:S_api_Factor):Nat->Int->Option (Out Unit (S_factor_table×Int))
 | 0,_=>none
 | n+1,v59=>(
bif (decide (v59<(p0.w.length:Int)))then(
(zaE p0.w v59).bind λx12=>
((bif (decide (x12<0))then(
some true)
else(
some (decide (4611686018427387903<x12))):Option Bool)).bind λv68=>
bif v68 then(
some (.ret ((S_factor_table.mk (S_api_Factor.mk [] [] []) []),30)))
else(
zcT p0 n (w64 (v59+1))))
else(
some (.go ())))
def zcS(p0:S_api_Factor):Nat->Int->Int->(List Int)->Option (List Int)
 | 0,_,_,_=>none
 | n+1,v12,v13,l2=>(
bif (decide (0<=v13))then(
(zaE l2 v13).bind λx19=>
(zeT l2 v13 v12).bind λy21=>
(zaE p0.zaf v13).bind λx23=>
zcS p0 n (w64 (v12 * x23)) (w64 (v13 - 1)) y21)
else(
some l2))
def zbL(p0:S_api_Factor):Option (S_factor_table×Int):=
(zc8 p0.zaf).bind λr1=>
((bif (r1.2 == 0)then(
bif ((p0.vars.length:Int)==(p0.zaf.length:Int))then(
some (!((p0.w.length:Int)== r1.1)))
else(
some true))
else(
some true):Option Bool)).bind λv37=>
bif v37 then(
some ((S_factor_table.mk (S_api_Factor.mk [] [] []) []),30))
else(
((zcP p0 ((p0.vars.length:Int) - 0+2:Int).toNat (-1) 0:Option (Out Unit (S_factor_table×Int)))).bind λo=>match o with
| .go _=>(
((zcT p0 ((p0.w.length:Int) - 0+2:Int).toNat 0:Option (Out Unit (S_factor_table×Int)))).bind λo=>match o with
| .go _=>(
(zd7 8 (p0.zaf.length:Int) 0).bind λy16=>
((zcS p0 ((w64 ((((Int.toNat (p0.zaf.length:Int)):Nat):Int) - 1)) - 0+2:Int).toNat 1 (w64 ((((Int.toNat (p0.zaf.length:Int)):Nat):Int) - 1)) y16:Option (List Int))).bind λl2=>
some ((S_factor_table.mk p0 l2),0))
| .ret r=>some r)
| .ret r=>some r)
theorem zdx{p0:S_api_Factor}{r:(S_factor_table×Int)}(h:zbL p0=some r):Lx.FnA mC 93 [(.agg [(fzE false (eI .i64) p0.vars),(fzE false (eI .i64) p0.zaf),(fzE false (eI .i64) p0.w)])] (.tup [(.agg [(fzE false (eI .i64) r.1.factor.vars),(fzE false (eI .i64) r.1.factor.zaf),(fzE false (eI .i64) r.1.factor.w),(fzE false (eI .i64) r.1.steps)]),(dI r.2)]):=by
 refine zCt ?_;unfold zbL at h;refine zad ?_;obtain⟨r1,g2,h⟩:=bsM h;refine sSM ?_;refine fCM (ziD g2) ?_;obtain⟨o1,j1,h⟩:=bsM h;refine usM [1,2] 2 (λa:Bool=>([(37,(dB a))],[],[])) λT1 hT1=>?_
 refine EvL.jn T1 _ (bJM j1 hT1) ?_;rintro v37 rfl;refine wTM hT1 ?_;refine cBM h (λ_ h=>?_) λ_ h=>?_
 .obtain⟨o5,j5,h⟩:=bsM h;obtain⟨T5,hT5⟩:=zdp hT1 λa:Unit=>uDM (T1 v37) [37] [] [] []
  refine EvL.jn T5 (λa=>o5=.go a) ?_ ?_
  .refine wSM ?_;obtain⟨T8,hT8⟩:=zdp hT1 λa:(Int×Int)=>uDM (T1 v37) [37] [(6,(dI a.1)),(40,(fzE false (eI .i64) p0.vars)),(41,(dI (p0.vars.length:Int))),(42,(dI a.2))] [] []
   refine rdM hT8 (λn a=>zcP p0 n a.1 a.2=some o5) ((-1),0) j5 ?_;rintro n ⟨v6,v42⟩ j5;simp only[zcP]at j5;refine wTM hT8 ?_;refine cBM j5 (λ_ j5=>?_) λ_ j5=>?_
   .exact zsT j5 hT5
   obtain⟨x7,g8,j5⟩:=bsM j5;refine sXM (ixM g8) ?_;obtain⟨o9,j9,j5⟩:=bsM j5;obtain⟨T9,hT9⟩:=zdp hT8 λa:Bool=>uDM (T8 (v6,v42)) [6] [(8,(dI x7)),(52,(dB a))] [] []
   refine EvL.jn T9 _ (bJM j9 hT9) ?_;rintro v52 rfl;refine wTM hT9 ?_;refine cBM j5 (λ_ j5=>?_) λ_ j5=>?_
   .exact zcz hT8 (x7,(w64 (v42+1))) j5
   obtain rfl:=qaf j5;exact rHM h
  rintro⟨⟩ rfl;dsimp only at h;refine wTM hT5 ?_;obtain⟨o13,j13,h⟩:=bsM h;obtain⟨T13,hT13⟩:=zdp hT5 λa:Unit=>uDM (T5 ()) [] [] [] []
  refine EvL.jn T13 (λa=>o13=.go a) ?_ ?_
  .refine wSM ?_;obtain⟨T16,hT16⟩:=zdp hT5 λa:Int=>uDM (T5 ()) [] [(57,(fzE false (eI .i64) p0.w)),(58,(dI (p0.w.length:Int))),(59,(dI a))] [] []
   refine rdM hT16 (λn a=>zcT p0 n a=some o13) 0 j13 ?_;rintro n v59 j13;simp only[zcT]at j13;refine wTM hT16 ?_;refine cBM j13 (λ_ j13=>?_) λ_ j13=>?_
   .exact zsT j13 hT13
   obtain⟨x12,g13,j13⟩:=bsM j13;refine sXM (ixM g13) ?_;obtain⟨o17,j17,j13⟩:=bsM j13;obtain⟨T17,hT17⟩:=zdp hT16 λa:Bool=>uDM (T16 v59) [] [(68,(dB a))] [] []
   refine EvL.jn T17 _ (bJM j17 hT17) ?_;rintro v68 rfl;refine wTM hT17 ?_;refine cBM j13 (λ_ j13=>?_) λ_ j13=>?_
   .exact zcz hT16 (w64 (v59+1)) j13
   obtain rfl:=qaf j13;exact rHM h
  rintro⟨⟩ rfl;dsimp only at h;refine wTM hT13 ?_;obtain⟨y16,g17,h⟩:=bsM h;refine sXM (anM ((zar g17).1.1) (anM ((zar g17).1.2) (anM @qbI (anM (miM g17) (zbh g17))))) ?_;obtain⟨o18,j18,h⟩:=bsM h;obtain⟨T18,hT18⟩:=zdp hT5 λa:(List Int)=>uDM (T5 ()) [] [(11,(.sl 2 0 1 (Int.toNat (p0.zaf.length:Int)) (some (Int.toNat (p0.zaf.length:Int))) (Int.toNat (p0.zaf.length:Int))))] [] [.els 1 (a.map ((eI .i64).c true))]
  refine EvL.jn T18 (λa=>a=o18/\a.length=(Int.toNat (p0.zaf.length:Int))) ?_ ?_
  .refine wSM ?_;obtain⟨T19,hT19⟩:=zdp hT5 λa:(Int×Int×(List Int))=>uDM (T5 ()) [] [(11,(.sl 2 0 1 (Int.toNat (p0.zaf.length:Int)) (some (Int.toNat (p0.zaf.length:Int))) (Int.toNat (p0.zaf.length:Int)))),(12,(dI a.1)),(13,(dI a.2.1))] [] [.els 1 (a.2.2.map ((eI .i64).c true))]
   refine rdM hT19 (λn a=>zcS p0 n a.1 a.2.1 a.2.2=some o18/\a.2.2.length=(Int.toNat (p0.zaf.length:Int))) (1,(w64 ((((Int.toNat (p0.zaf.length:Int)):Nat):Int) - 1)),y16) ⟨j18,zbh g17⟩ ?_;rintro n ⟨v12,v13,l2⟩ ⟨j18,el2⟩;simp only[zcS]at j18;refine wTM hT19 ?_;refine cBM j18 (λ_ j18=>?_) λ_ j18=>?_
   .obtain rfl:=qaf j18;exact zcz hT18 _ ⟨rfl,el2⟩
   obtain⟨x19,g20,y21,g22,x23,g24,j18⟩:=zjp j18;refine sXM (anM el2 (anM (za2 g20) (anM (ltM el2 g20) (anM (giM g20) (anM (siM g22) (ixM g24)))))) ?_;exact zcz hT19 ((w64 (v12 * x23)),(w64 (v13 - 1)),y21) ⟨j18,(zaS g22).trans el2⟩
  rintro l2 ⟨rfl,el2⟩;refine wTM hT18 ?_;exact rHM h
 exact rHM h
end Go.Dc
namespace Go.Dc
open Go Go.Mx Go.Lx
def zzV:Int->List Int->Bool
 | _,[]=>true
 | l,v :: vs=>decide (l<v) && decide (v<=63) && zzV v vs
def zAa:List Int->Bool
 | []=>true
 | w :: ws=>decide (0<=w) && decide (w<=4611686018427387903) && zAa ws
def zGc(x:S_api_Factor):Bool:=zcH x.zaf && decide (x.vars.length=x.zaf.length) && decide (x.w.length=zkL x.zaf) && zzV (-1) x.vars && zAa x.w
def zaJ:List Nat->List Nat
 | []=>[]
 | _ :: cs=>zac cs :: zaJ cs
theorem zhi(cs:List Nat):(zaJ cs).length=cs.length:=by induction cs with | nil=>rfl | cons c cs ih=>simp[zaJ,ih]
abbrev noT:S_factor_table×Int:=(⟨⟨[],[],[]⟩,[]⟩,30)
theorem zsv(x:S_api_Factor)(hl:x.vars.length<=12):∀(n i:Nat) (l:Int),i<=x.vars.length->x.vars.length - i<n->zcP x n l (i:Int)=some (bif zzV l (x.vars.drop i)then .go ()else .ret noT)
 | 0,_,_,_,h=>absurd h (qam _)
 | n+1,i,l,hi,hn=>by
  unfold zcP;rcases qa0 i x.vars.length with h3 | h3
  .rw[zA7 h3,qdt,zba h3,qaa,qay h3];generalize x.vars[i]=v;simp only[zzV];by_cases h1:v<=l
   .rw[qdv h1,qdt,qaa,qdt,qdw (show ¬ l<v by omega)];rfl
   rw[qdw h1,qdu,qaa,qdv (show l<v by omega)];by_cases h2:63<v
   .rw[qdv h2,qdt,qdw (show ¬ v<=63 by omega)];rfl
   rw[qdw h2,qdu,qdv (show v<=63 by omega),zai (by omega),zsv x hl n (i+1) v h3 (by omega)];rfl
  grind [zzV]
theorem zsR(x:S_api_Factor)(hl:x.w.length<=4096):∀(n i:Nat),i<=x.w.length->x.w.length - i<n->zcT x n (i:Int)=some (bif zAa (x.w.drop i)then .go ()else .ret noT)
 | 0,_,_,h=>absurd h (qam _)
 | n+1,i,hi,hn=>by
  unfold zcT;rcases qa0 i x.w.length with h3 | h3
  .rw[zA7 h3,qdt,zba h3,qaa,qay h3];generalize x.w[i]=v;simp only[zAa];by_cases h1:v<0
   .rw[qdv h1,qdt,qaa,qdt,qdw (show ¬ 0<=v by omega)];rfl
   rw[qdw h1,qdu,qaa,qdv (show 0<=v by omega)];by_cases h2:4611686018427387903<v
   .rw[qdv h2,qdt,qdw (show ¬ v<=4611686018427387903 by omega)];rfl
   rw[qdw h2,qdu,qdv (show v<=4611686018427387903 by omega),zai (by omega),zsR x hl n (i+1) h3 (by omega)];rfl
  grind [zAa]
theorem zih{ns:List Nat}(h:∀ c∈ns,1<=c):∀ k,zac (ns.drop k)<=zac ns:=by
 induction ns with
 | nil=>intro k; simp
 | cons n ns ih=>
  intro k;cases k with
  | zero=>exact qap _
  | succ k=>
   have h1:=ih (λc hc=>h c (qah _ hc)) k;have h2:=h n qaj;show zac (ns.drop k)<=n * zac ns;exact qaq h1 (qcN _ h2)
theorem zmw(x:S_api_Factor){ns:List Nat}(hx:x.zaf=iL ns)(hc:∀ c∈ns,1<=c)(hp:zac ns<=4096)(hl:ns.length<=12):∀(k n:Nat),k<=ns.length->k<n ->
  zcS x n ((zac (ns.drop k):Nat):Int) ((k:Int) - 1) (iL (List.replicate k 0 ++ zaJ (ns.drop k)))=some (iL (zaJ ns))
 | k,0,_,h=>absurd h (qam _)
 | 0,n+1,_,_=>by
  rfl
 | k+1,n+1,hk,hn=>by
  have ih:=zmw x hx hc hp hl k n (by omega) (by omega);have hk':k<ns.length:=hk;unfold zcS;have e:(((k+1:Nat):Int) - 1)=(k:Int):=by omega
  have hlen:k<(iL (List.replicate (k+1) 0 ++ zaJ (ns.drop (k+1)))).length:=by rw[zal]; simp; omega
  rw[e,show decide ((0:Int)<=(k:Int))=true from qdv (by omega),qdt,zba hlen,qaa,zfr hlen,qaa,hx,za5 hk',qaa];have hd:ns.drop k=ns[k]:: ns.drop (k+1):=qay hk';have h1:(iL (List.replicate (k+1) 0 ++ zaJ (ns.drop (k+1)))).set k ((zac (ns.drop (k+1)):Nat):Int)=iL (List.replicate k 0 ++ zaJ (ns.drop k)):=by
   rw[hd,zqW,zqW,zgG,zgG,List.replicate_succ',qaE,qbY _ _ (by simp)];simp[zaJ,iL]
  have h2:((zac (ns.drop (k+1)):Nat):Int)* ((ns[k]:Nat):Int)=((zac (ns.drop k):Nat):Int):=by
   rw[hd,<- qaZ,qaS]; rfl
  have h3:=zih hc k;rw[h1,h2,zaC (by omega),zgh (by omega) (by omega)];exact ih
def zuN(xs:List Int):List Nat:=xs.map Int.toNat
theorem zif(ns:List Nat):zuN (iL ns)=ns:=by
 induction ns<;>grind [zuN,iL]
theorem zkh{cs:List Int}(h:zcH cs=true):∃ ns:List Nat,cs=iL ns/\(∀ c∈ns,1<=c/\c<=8)/\zac ns<=4096/\ns.length<=12:=by
 grind [zcH,zmh,zal]
theorem zEA(x:S_api_Factor):zbL x=some (bif zGc x then(⟨x,iL (zaJ (zuN x.zaf))⟩,0)else noT):=by
 unfold zbL zGc;rw[zAb,qaa];cases hc:zcH x.zaf with
 | false=>
  rw[qdu];rfl
 | true=>
  obtain⟨ns,hx,h1,h2,h3⟩:=zkh hc;rw[qdt,show(((((zkL x.zaf:Nat):Int),(0:Int)).2 == 0))=true from rfl,qdt,qbF];by_cases hv:x.vars.length=x.zaf.length
  .rw[show(((x.vars.length:Nat):Int)==((x.zaf.length:Nat):Int))=true by rw[hv]; exact qdx _,qdt,qaa,qdv hv,qbF];by_cases hw:x.w.length=zkL x.zaf
   .have hw':x.w.length<=4096:=by rw[hw,hx,zkA]; exact h2
    have hl:x.vars.length<=12:=by rw[hv,hx,zal]; exact h3
    rw[show(!(((x.w.length:Nat):Int)==((zkL x.zaf:Nat):Int)))=false by rw[hw,qdx]; rfl,qdu,qdv hw,qbF,zaK,zaK];have e1:=zsv x hl (x.vars.length+2) 0 (-1) (qau _) (by omega);have e2:=zsR x hw' (x.w.length+2) 0 (qau _) (by omega);rw[show((0:Nat):Int)=0 from rfl,qbq]at e1 e2;rw[e1,qaa];cases zzV (-1) x.vars with
    | false=>rfl
    | true=>
     rw[qdt,qbF];simp only;rw[e2,qaa];cases zAa x.w with
     | false=>rfl
     | true=>
      rw[qdt];simp only;have hlen:x.zaf.length=ns.length:=by rw[hx,zal]
      have e3:=zmw x hx (λc hc=>(h1 c hc).1) h2 h3 ns.length (ns.length+1+1) (qap _) (by omega);rw[qbB]at e3;rw[zdn (by omega),qaa,qax,hlen,zgh (by omega) (by omega),show((ns.length:Int) - 1 - 0+2).toNat=ns.length+1 by omega];have e4:=zmw x hx (λc hc=>(h1 c hc).1) h2 h3 ns.length (ns.length+1) (qap _) (by omega);rw[qbB]at e4;rw[show iL (List.replicate ns.length 0 ++ zaJ [])=List.replicate ns.length 0 by simp[zaJ,iL],show((zac []:Nat):Int)=1 from rfl]at e4
      grind [zif]
   grind
  grind
structure Fc where
 vs:List Nat
 cs:List Nat
 ws:List Nat
def Fc.D(f:Fc):S_api_Factor:=⟨iL f.vs,iL f.cs,iL f.ws⟩
structure FcOk (f:Fc):Prop where
 len:f.vs.length=f.cs.length
 le:f.cs.length<=12
 zaF:∀ c∈f.cs,1<=c/\c<=8
 prod:zac f.cs<=4096
 size:f.ws.length=zac f.cs
 inc:f.vs.Pairwise (· < ·)
 var:∀ v∈f.vs,v<64
 num:∀ w∈f.ws,w<=zc1
theorem zw2:∀ {ns:List Nat} {l:Int},ns.Pairwise (· < ·)->(∀ v∈ns,v<64/\l<(v:Int))->zzV l (iL ns)=true
 | [],_,_,_=>rfl
 | n :: ns,l,h1,h2=>by
  have h3:=h2 n qaj;obtain⟨h4,h5⟩:=qa4.1 h1;show(decide (l<(n:Int)) && decide ((n:Int)<=63) && zzV (n:Int) (iL ns))=true;rw[qdv h3.2,qdv (by omega),zw2 h5 λv hv=>⟨(h2 v (qah _ hv)).1,by have:=h4 v hv; omega⟩];rfl
theorem zuY:∀ {ns:List Nat},(∀ w∈ns,w<=zc1)->zAa (iL ns)=true
 | [],_=>rfl
 | n :: ns,h=>by
  have h1:n<=4611686018427387903:=h n qaj;show(decide (0<=(n:Int)) && decide ((n:Int)<=4611686018427387903) && zAa (iL ns))=true;rw[qdv (by omega),qdv (by omega),zuY λw hw=>h w (qah _ hw)];rfl
theorem zDl{f:Fc}(h:FcOk f):zGc f.D=true:=by
 unfold zGc Fc.D zcH;simp only[zal];rw[qdv h.le,zhR h.zaF (by have:=h.prod; omega),qdv h.len,qdv (by rw[zkA]; exact h.size),zw2 h.inc λv hv=>⟨h.var v hv,by omega⟩,zuY h.num];rfl
def Fc.T(f:Fc):S_factor_table:=⟨f.D,iL (zaJ f.cs)⟩
theorem ziF{f:Fc}(h:FcOk f):zbL f.D=some (f.T,0):=by
 grind [zEA,zDl,zif,Go.Dc.Fc.D,Go.Dc.Fc.T]
end Go.Dc
namespace Go.Dc
open Go Go.Mx Go.Lx Go.Proofs
def zcv(p0:S_factor_table)(p1:S_factor_table):Nat->Int->Option (Out Unit Bool)
 | 0,_=>none
 | n+1,v12=>(
bif (decide (v12<(p0.factor.vars.length:Int)))then(
(zaE p0.factor.vars v12).bind λx2=>
(zas p1 x2).bind λr4=>
((bif (decide (0<=r4))then(
(zaE p1.factor.zaf r4).bind λx7=>
(zaE p0.factor.zaf v12).bind λx9=>
some (!(x7 == x9)))
else(
some false):Option Bool)).bind λv36=>
bif v36 then(
some (.ret false))
else(
zcv p0 p1 n (w64 (v12+1))))
else(
some (.go ())))
def zdy(p0:S_factor_table)(p1:S_factor_table):Option Bool:=
((zcv p0 p1 ((p0.factor.vars.length:Int) - 0+2:Int).toNat 0:Option (Out Unit Bool))).bind λo=>match o with
| .go _=>(
some true)
| .ret r=>some r
theorem zkw{p0:S_factor_table}{p1:S_factor_table}{r:Bool}(h:zdy p0 p1=some r):Lx.Fn mC 126 [(.agg [(fzE false (eI .i64) p0.factor.vars),(fzE false (eI .i64) p0.factor.zaf),(fzE false (eI .i64) p0.factor.w),(fzE false (eI .i64) p0.steps)]),(.agg [(fzE false (eI .i64) p1.factor.vars),(fzE false (eI .i64) p1.factor.zaf),(fzE false (eI .i64) p1.factor.w),(fzE false (eI .i64) p1.steps)])] (dB r):=by
 refine gnO ?_;unfold zdy at h;refine wSM ?_;obtain⟨o4,j4,h⟩:=bsM h;refine usM [] 0 (λa:Unit=>([],[],[])) λT4 hT4=>?_
 refine EvL.jn T4 (λa=>o4=.go a) ?_ ?_
 .refine wSM ?_;refine usM [2,3,10,11] 2 (λa:Int=>([(12,(dI a))],[],[])) λT7 hT7=>?_
  refine rdM hT7 (λn a=>zcv p0 p1 n a=some o4) 0 j4 ?_;rintro n v12 j4;simp only[zcv]at j4;refine wTM hT7 ?_;refine cBM j4 (λ_ j4=>?_) λ_ j4=>?_
  .exact zsT j4 hT4
  obtain⟨x2,g3,r4,g5,j4⟩:=zgs j4;refine sXM (ixM g3) ?_;refine fCM (zaW g5) ?_;obtain⟨o8,j8,j4⟩:=bsM j4;obtain⟨T8,hT8⟩:=zdp hT7 λa:Bool=>uDM (T7 v12) [] [(36,(dB a))] [] []
  refine EvL.jn T8 (λa=>a=o8) ?_ ?_
  .refine wSM ?_;refine cBM j8 (λ_ j8=>?_) λ_ j8=>?_
   .exact zde j8 hT8
   obtain⟨x7,g8,x9,g10,j8⟩:=zgs j8;refine sXM (anM (ixM g8) (ixM g10)) ?_;exact zde j8 hT8
  rintro v36 rfl;refine wTM hT8 ?_;refine cBM j4 (λ_ j4=>?_) λ_ j4=>?_
  .exact zcz hT7 (w64 (v12+1)) j4
  obtain rfl:=qaf j4;exact rHM h
 rintro⟨⟩ rfl;dsimp only at h;refine wTM hT4 ?_;exact rHM h
end Go.Dc
namespace Go.Dc
open Go Go.Mx Go.Lx
def zru:List Int->Int->Option Nat
 | [],_=>none
 | x :: xs,v=>bif x == v then some 0 else(zru xs v).map (· + 1)
def ixZ:Option Nat->Int
 | none=>-1
 | some k=>(k:Int)
theorem zoj:∀ {xs:List Int} {v:Int} {k:Nat},zru xs v=some k->∃ h:k<xs.length,xs[k]=v
 | x :: xs,v,k,h=>by
  unfold zru at h;cases hb:(x == v)with
  | true=>
   grind
  | false=>
   rw[hb,qdu]at h;cases hp:zru xs v with
   | none=>rw[hp]at h; cases h
   | some j=>
    rw[hp]at h;cases h;obtain⟨g1,g2⟩:=zoj hp
    simp_all
theorem zpR:∀ {xs:List Int} {v:Int},zru xs v=none->v ∉ xs
 | [],v,_=>by simp
 | x :: xs,v,h=>by
  unfold zru at h;cases hb:(x == v)with
  | true=>simp_all
  | false=>
   rw[hb,qdu]at h;have h1:zru xs v=none:=by
    simp_all
   have h2:x≠v:=by simpa using hb
   intro hm;rcases qav.1 hm with rfl | hm
   .exact h2 rfl
   exact zpR h1 hm
theorem zrW(xs:List Int)(v:Int)(hl:xs.length<4611686018427387904):∀(n i:Nat),i<=xs.length->xs.length - i<n->zbe xs v n (i:Int)=some (match zru (xs.drop i) v with | none=>.go ()| some k=>.ret ((i+k:Nat):Int))
 | 0,_,_,h=>absurd h (qam _)
 | n+1,i,hi,hn=>by
  unfold zbe;rcases qa0 i xs.length with h3 | h3
  .rw[zA7 h3,qdt,zba h3,qaa,qay h3];generalize xs[i]=x;unfold zru;by_cases h:v=x
   .subst h;rw[qdx,qdt,qdt];rfl
   rw[show(v == x)=false from qdy h,show(x == v)=false from qdy (λe=>h e.symm),qdu,qdu,zai (by omega),zrW xs v hl n (i+1) h3 (by omega)];cases zru (xs.drop (i+1)) v with
   | none=>rfl
   | some k=>
    simp only[qbe];rw[show i+1+k=i+(k+1) by omega]
  grind [zru]
theorem zDk{xs:List Int}(hl:xs.length<4611686018427387904)(v:Int):zbF xs v=some (ixZ (zru xs v)):=by
 unfold zbF;have h:=zrW xs v hl (xs.length+2) 0 (qau _) (by omega)
 grind [ixZ]
theorem FcOk.vl{f:Fc}(h:FcOk f):(iL f.vs).length<4611686018427387904:=by rw[zal,h.len]; have:=h.le; omega
theorem zjq{f:Fc}(h:FcOk f)(v:Int):zas f.T v=some (ixZ (zru (iL f.vs) v)):=by
 unfold zas;rw[show f.T.factor.vars=iL f.vs from rfl,zDk h.vl,qaa]
theorem zvd(o:Option Nat):decide ((0:Int)<=ixZ o)=o.isSome:=by
 cases o with
 | none=>rfl
 | some k=>exact qdv (qbR k)
def pos:List Nat->Nat->Option Nat
 | [],_=>none
 | x :: xs,v=>bif x == v then some 0 else(pos xs v).map (· + 1)
theorem zd1:∀(xs:List Nat) (v:Nat),zru (iL xs) (v:Int)=pos xs v
 | [],v=>rfl
 | x :: xs,v=>by
  show(bif ((x:Int)==(v:Int))then some 0 else(zru (iL xs) (v:Int)).map (· + 1))=pos (x :: xs) v;rw[zd1 xs v]
  grind [pos]
variable{v:Nat}
theorem zdC{xs:List Nat}{k:Nat}(h:pos xs v=some k):∃ hk:k<xs.length,xs[k]=v:=by
 rw[<- zd1]at h;obtain⟨h1,h2⟩:=zoj h
 grind [zal,zAM]
variable{xs:List Nat}
theorem zh4(h:pos xs v=none):v ∉ xs:=by
 rw[<- zd1]at h;have:=zpR h
 grind [Go.Dc.iL]
theorem zkK(h:v∈xs):∃ k,pos xs v=some k:=by
 cases hp:pos xs v<;>grind [zh4]
def zgJ(f g:Fc):Nat->List Nat->Bool
 | _,[]=>true
 | i,v :: vs=>(match pos g.vs v with | none=>true | some k=>g.cs.getD k 0 == f.cs.getD i 0) && zgJ f g (i+1) vs
theorem ze9{i:Nat}(h:i<xs.length):zaE (iL xs) (i:Int)=some ((xs.getD i 0:Nat):Int):=by
 rw[za5 h]; simp[List.getD,h]
theorem zvS(a b:Nat):((a:Int)==(b:Int))=(a == b):=by
 grind
theorem zxj{f g:Fc}(hf:FcOk f)(hg:FcOk g):∀(n i:Nat),i<=f.vs.length->f.vs.length - i<n->zcv f.T g.T n (i:Int)=some (bif zgJ f g i (f.vs.drop i)then .go ()else .ret false)
 | 0,_,_,h=>absurd h (qam _)
 | n+1,i,hi,hn=>by
  have hle:=hf.le;have hlen:=hf.len;unfold zcv;rw[show f.T.factor.vars=iL f.vs from rfl,show f.T.factor.zaf=iL f.cs from rfl,show g.T.factor.zaf=iL g.cs from rfl,zal];rcases qa0 i f.vs.length with h3 | h3
  .rw[zA7 h3,qdt,za5 h3,qaa,zjq hg,zd1,qaa,zvd,qay h3];simp only[zgJ];have ih:=zxj hf hg n (i+1) h3 (by omega);cases hp:pos g.vs f.vs[i]with
   | none=>
    rw[Option.isSome_none,qdu,qaa,qdu,zai (by omega),ih,qbF]
   | some k=>
    obtain⟨hk,_⟩:=zdC hp;rw[qc6,qdt,show ixZ (some k)=(k:Int)from rfl,ze9 (by rw[<- hg.len]; exact hk),qaa,ze9 (by omega),qaa,qaa,zvS];cases hb:(g.cs.getD k 0 == f.cs.getD i 0)with
    | true=>simp only[hb]; rw[qbs,qdu,zai (by omega),ih,qbF]
    | false=>simp only[hb]; rw[qcz,qdt,Bool.false_and]; rfl
  obtain rfl:i=f.vs.length:=by omega
  rw[zGa,qdu,qbB];rfl
theorem zBC{f g:Fc}(hf:FcOk f)(hg:FcOk g):zdy f.T g.T=some (zgJ f g 0 f.vs):=by
 unfold zdy;have h:=zxj hf hg (f.vs.length+2) 0 (qau _) (by omega);rw[show((0:Nat):Int)=0 from rfl,qbq]at h;rw[show f.T.factor.vars=iL f.vs from rfl,zal,zaK,h,qaa]
 grind
def dot:List Nat->List Nat->Nat
 | x :: xs,s :: ss=>x * s+dot xs ss
 | _,_=>0
theorem zm9:∀ {xs ss:List Nat} (ys ts:List Nat),xs.length=ss.length->dot (xs ++ ys) (ss ++ ts)=dot xs ss+dot ys ts
 | [],[],ys,ts,_=>by simp[dot]
 | x :: xs,s :: ss,ys,ts,h=>by
  simp only[qbc,dot];rw[zm9 ys ts (by simpa using h)]; omega
 | [],_ :: _,_,_,h=>by simp at h
 | _ :: _,[],_,_,h=>by simp at h
theorem zrg(x s:Nat):dot [x] [s]=x * s:=by simp[dot]
theorem zAo:∀ {cs xs ss:List Nat},zc6 cs xs->(∀ s∈ss,s<=4096)->dot xs ss<=cs.length * 32768
 | [],[],_,_,_=>by simp[dot]
 | c :: cs,x :: xs,[],_,_=>by simp[dot]
 | c :: cs,x :: xs,s :: ss,h,hs=>by
  have h1:=zAo h.2.2 λt ht=>hs t (qah _ ht)
  have h2:=hs s qaj;have h3:x * s<=8 * 4096:=qbi (by have:=h.1; have:=h.2.1; omega) h2
  grind [dot]
theorem zsD:∀(k:Nat) (xs cx sx cy sy zs:List Nat) (e:Nat),xs.length=k->cx.length=k->sx.length=k->zc6 cx xs->(∀ s∈sx,s<=4096)->k<=12->e<=1000000 ->
  ∃ r,zlB (iL (cx ++ cy)) (iL (sx ++ sy)) k (iL (xs ++ zs)) ((dot xs sx+e:Nat):Int)=some r/\match nxt cx xs with
   | none=>r.2.2 = -1
   | some xs'=>∃(j:Nat) (v st:Int),r.2.2=(j:Int)/\zaE r.1 (j:Int)=some v/\zeT r.1 (j:Int) (w64 (v+1))=some (iL (xs' ++ zs))/\zaE (iL (sx ++ sy)) (j:Int)=some st/\w64 (r.2.1+st)=((dot xs' sx+e:Nat):Int)
 | 0,xs,cx,sx,cy,sy,zs,e,hx,hc,hs,_,_,_,_=>by
  obtain rfl:xs=[]:=qaG.1 hx;obtain rfl:cx=[]:=qaG.1 hc;exact⟨_,rfl,rfl⟩
 | k+1,xs,cx,sx,cy,sy,zs,e,hx,hc,hs,hb,hsm,hk,he=>by
  obtain⟨xs,x,rfl,lx⟩:=zrm hx;obtain⟨cx,c,rfl,lc⟩:=zrm hc;obtain⟨sx,s,rfl,ls⟩:=zrm hs;obtain⟨hb1,hb2,hb3⟩:=hb.snoc (lx.trans lc.symm);have hd:=zAo hb1 λt ht=>hsm t (qcW _ ht)
  have hss:s<=4096:=hsm s (by simp);have hxs:x * s<=8 * 4096:=qbi (by omega) hss;have hlen:cx.length * 32768<=12 * 32768:=qas _ (by omega);simp only[qaE,qaN];unfold zlB;rw[zdf lx,qaa,zdf lc,qaa,zgh (by omega) (by omega)];rw[zm9 [x] [s] (lx.trans ls.symm),zrg];by_cases h1:x+1<c
  .rw[show((x:Int)==(c:Int) - 1)=false from qdy (by omega),qdu,zlc (lx.trans lc.symm) h1];refine⟨_,rfl,k,(x:Int),(s:Int),rfl,zdf lx,?_,zdf ls,?_⟩
   .rw[zai (by omega),zeS lx]; simp
   rw[zm9 [x+1] [s] (lx.trans ls.symm),zrg,<- qb3,zaC (by omega),qaQ];congr 1; omega
  rw[show((x:Int)==(c:Int) - 1)=true by rw[show(x:Int)=(c:Int) - 1 by omega]; exact qdx _,qdt,zdf ls,qaa,show(0:Int)=((0:Nat):Int)from rfl,zeS lx,qaa,<- qaZ,
   zaC (by omega),show(((dot xs sx+x * s+e:Nat):Int) - ((x * s:Nat):Int))=((dot xs sx+e:Nat):Int) by omega,zaC (by omega),zjs (lx.trans lc.symm) h1]
  obtain⟨r,h2,h3⟩:=zsD k xs cx sx (c :: cy) (s :: sy) (0 :: zs) e lx lc ls hb1 (λt ht=>hsm t (qcW _ ht)) (by omega) he;refine⟨r,h2,?_⟩;cases hn:nxt cx xs with
  | none=>rw[hn]at h3; exact h3
  | some xs'=>
   rw[hn]at h3;obtain⟨j,v,st,g1,g2,g3,g4,g5⟩:=h3;have hl':xs'.length=sx.length:=by
    have:∀ {cs vs ws:List Nat},nxt cs vs=some ws->vs.length=cs.length->ws.length=vs.length:=by
     intro cs;induction cs with
     | nil=>intro vs ws h _; simp[nxt]at h
     | cons d cs ih=>
      intro vs ws h hl;cases vs<;>grind [nxt]
    grind
   refine⟨j,v,st,g1,g2,by rw[g3]; simp,g4,?_⟩;rw[g5,zm9 [0] [s] hl',zrg,qci,qbH]
def zhT(cs ss:List Nat)(i m:Nat):List (Int×Int×List Int):=(List.range' i m).map λj:Nat=>((j:Int),((dot (dig cs j) ss:Nat):Int),iL (dig cs j))
theorem zEz{cs ss:List Nat}(hc:∀ c∈cs,1<=c/\c<=8)(hl:cs.length<=12)(hp:zac cs<=4096)(hs:ss.length=cs.length)(hsm:∀ s∈ss,s<=4096):∀(m i n:Nat),i+(m+1)=zac cs->m<n ->
  zDq (iL cs) (iL ss) n (iL (dig cs i)) (i:Int) ((dot (dig cs i) ss:Nat):Int)=some (zhT cs ss i (m+1))
 | m,i,0,_,h=>absurd h (qam _)
 | m,i,n+1,hi,hn=>by
  have hb:=zfA hc (show i<zac cs by omega);obtain⟨r,h1,h2⟩:=zsD cs.length (dig cs i) cs ss [] [] [] 0 (zf8 _ _) rfl hs hb hsm hl (by omega);simp only[qaP,qbH]at h1 h2;unfold zDq;rw[zal,h1,qaa];rw[zxi hc (show i<zac cs by omega)]at h2;cases m with
  | zero=>
   grind [zhT]
  | succ m=>
   rw[if_pos (by omega)]at h2;simp only at h2;obtain⟨j,v,st,g1,g2,g3,g4,g5⟩:=h2;rw[g1,show decide ((j:Int)<0)=false from qdw (by omega),qdu,g2,qaa,g3,qaa,g4,qaa,g5,zai (by omega),zEz hc hl hp hs hsm m (i+1) n (by omega) (by omega)];rfl
theorem zw4{cs ss:List Nat}(hc:∀ c∈cs,1<=c/\c<=8)(hl:cs.length<=12)(hp:zac cs<=4096)(hs:ss.length=cs.length)(hsm:∀ s∈ss,s<=4096):zAB (iL cs) (iL ss)=some (zhT cs ss 0 (zac cs)):=by
 have hpos:=zcr hc;unfold zAB zfm;rw[if_pos (by rw[zal]; omega),qaa,zal,zdn (by omega),qaa];have h:=zwn cs 1;rw[show((1:Nat):Int)=1 from rfl]at h;rw[h,qa2,qax];obtain⟨m,hm⟩:∃ m,zac cs=m+1:=⟨zac cs - 1,by omega⟩;have e:=zEz hc hl hp hs hsm m 0 (m+1) (by omega) (by omega);have hz:∀(n:Nat) (ss:List Nat),dot (List.replicate n 0) ss=0:=by
  intro n;induction n with
  | zero=>intro ss; simp[dot]
  | succ n ih=>
   intro ss;cases ss<;>grind [dot]
 grind [znG,zgG]
end Go.Dc
namespace Go.Dc
open Go Go.Mx Go.Lx Go.Proofs
def zbv(p1:(List Int))(p0:S_factor_table):Nat->Int->(List Int)->Option (List Int)
 | 0,_,_=>none
 | n+1,v14,l1=>(
bif (decide (v14<(p1.length:Int)))then(
(zaE p1 v14).bind λx4=>
(zas p0 x4).bind λr6=>
((bif (decide (0<=r6))then(
(zaE p0.steps r6).bind λx9=>
(zaE l1 v14).bind λx11=>
(zeT l1 v14 x9).bind λy13=>
some y13)
else(
some l1):Option (List Int))).bind λl1'=>
zbv p1 p0 n (w64 (v14+1)) l1')
else(
some l1))
def zbl(p0:S_factor_table)(p1:(List Int)):Option (List Int):=
(zd7 8 (p1.length:Int) 0).bind λy1=>
((zbv p1 p0 ((p1.length:Int) - 0+2:Int).toNat 0 y1:Option (List Int))).bind λl1=>
some l1
theorem zc2{p0:S_factor_table}{p1:(List Int)}{r:(List Int)}(h:zbl p0 p1=some r):Lx.Fn mC 111 [(.agg [(fzE false (eI .i64) p0.factor.vars),(fzE false (eI .i64) p0.factor.zaf),(fzE false (eI .i64) p0.factor.w),(fzE false (eI .i64) p0.steps)]),(fzE false (eI .i64) p1)] (fzE true (eI .i64) r):=by
 refine gnO ?_;unfold zbl at h;refine zad ?_;obtain⟨y1,g2,h⟩:=bsM h;refine sXM (anM ((zar g2).1.1) (anM ((zar g2).1.2) (anM @qbI (miM g2)))) ?_;obtain⟨o4,j4,h⟩:=bsM h;refine usM [5] 2 (λa:(List Int)=>([],[(0,.gone),(1,.els 1 (a.map ((eI .i64).c true)))],[])) λT4 hT4=>?_
 refine EvL.jn T4 (λa=>a=o4/\a.length=(Int.toNat (p1.length:Int))) ?_ ?_
 .refine wSM ?_;refine usM [2,5,12,13] 2 (λa:(Int×(List Int))=>([(14,(dI a.1))],[(1,.els 1 (a.2.map ((eI .i64).c true)))],[])) λT7 hT7=>?_
  refine rdM hT7 (λn a=>zbv p1 p0 n a.1 a.2=some o4/\a.2.length=(Int.toNat (p1.length:Int))) (0,y1) ⟨j4,zbh g2⟩ ?_;rintro n ⟨v14,l1⟩ ⟨j4,el1⟩;simp only[zbv]at j4;refine wTM hT7 ?_;refine cBM j4 (λ_ j4=>?_) λ_ j4=>?_
  .obtain rfl:=qaf j4;exact zcz hT4 _ ⟨rfl,el1⟩
  obtain⟨x4,g5,r6,g7,j4⟩:=zgs j4;refine sXM (ixM g5) ?_;refine fCM (zaW g7) ?_;obtain⟨o8,j8,j4⟩:=bsM j4;obtain⟨T8,hT8⟩:=zdp hT7 λa:(List Int)=>uDM (T7 (v14,l1)) [] [] [(1,.els 1 (a.map ((eI .i64).c true)))] []
  refine EvL.jn T8 (λa=>a=o8/\a.length=(Int.toNat (p1.length:Int))) ?_ ?_
  .refine wSM ?_;refine cBM j8 (λ_ j8=>?_) λ_ j8=>?_
   .obtain rfl:=qaf j8;exact zcz hT8 _ ⟨rfl,el1⟩
   obtain⟨x9,g10,x11,g12,y13,g14,j8⟩:=zjp j8;refine sXM (anM (ixM g10) (anM el1 (anM (za2 g12) (anM (ltM el1 g12) (anM (giM g12) (siM g14)))))) ?_;obtain rfl:=qaf j8;exact zcz hT8 _ ⟨rfl,(zaS g14).trans el1⟩
  rintro l1' ⟨rfl,el1'⟩;refine wTM hT8 ?_;exact zcz hT7 ((w64 (v14+1)),l1') ⟨j4,el1'⟩
 rintro l1 ⟨rfl,el1⟩;refine wTM hT4 ?_;exact rHM h
end Go.Dc
namespace Go.Dc
open Go Go.Mx Go.Lx
theorem zng{cs:List Nat}(hc:∀ c∈cs,1<=c)(hp:zac cs<=4096):∀ s∈zaJ cs,s<=4096:=by
 induction cs with
 | nil=>intro s hs; cases hs
 | cons c cs ih=>
  have h1:=hc c qaj;have h2:zac cs<=4096:=qaq (qcN (zac cs) h1) hp;intro s hs;rcases qav.1 hs with rfl | hs
  .exact h2
  exact ih (λd hd=>hc d (qah _ hd)) h2 s hs
theorem zc6.drop:∀ {cs xs:List Nat} (k:Nat),zc6 cs xs->zc6 (cs.drop k) (xs.drop k)
 | cs,xs,0,h=>h
 | [],[],k+1,_=>trivial
 | c :: cs,x :: xs,k+1,h=>h.2.2.drop k
theorem zkW:∀ {cs ds:List Nat},zc6 cs ds->dot ds (zaJ cs)<zac cs
 | [],[],_=>by simp[dot,zac]
 | c :: cs,d :: ds,h=>by
  have h1:=zkW h.2.2;show d * zac cs+dot ds (zaJ cs)<c * zac cs;have h2:(d+1)* zac cs<=c * zac cs:=qas _ h.1;rw[qaQ,qa2]at h2;omega
theorem zjk:∀ {cs:List Nat} {i:Nat},(∀ c∈cs,1<=c/\c<=8)->i<zac cs->dot (dig cs i) (zaJ cs)=i
 | [],i,_,h=>by
  have:i=0:=by simpa [zac]using h
  subst this; rfl
 | c :: cs,i,hc,h=>by
  have hp:=zcr λd hd=>hc d (qah c hd)
  show i / zac cs * zac cs+dot (dig cs (i % zac cs)) (zaJ cs)=i;rw[zjk (λd hd=>hc d (qah c hd)) (qa7 _ hp),qaS];exact qcd i (zac cs)
theorem zmO:∀ {cs ds:List Nat},zc6 cs ds->dig cs (dot ds (zaJ cs))=ds
 | [],[],_=>rfl
 | c :: cs,d :: ds,h=>by
  have h1:=zkW h.2.2;have hp:0<zac cs:=by omega
  show((d * zac cs+dot ds (zaJ cs)) / zac cs):: dig cs ((d * zac cs+dot ds (zaJ cs)) % zac cs)=d :: ds;rw[qaS d,Nat.mul_add_div hp,qb6 h1,qbH,Nat.mul_add_mod,qbb h1,zmO h.2.2]
def stp:List Nat->List Nat->Nat->Nat
 | v :: vs,_ :: cs,u=>bif v == u then zac cs else stp vs cs u
 | _,_,_=>0
def at_:List Nat->List Nat->Nat->Nat
 | v :: vs,d :: ds,u=>bif v == u then d else at_ vs ds u
 | _,_,_=>0
theorem zlf:∀ {vs cs:List Nat} {u:Nat},vs.length=cs.length->stp vs cs u=(match pos vs u with | none=>0 | some k=>(zaJ cs).getD k 0)
 | [],_,u,_=>by simp[stp,pos]
 | v :: vs,[],_,h=>by simp at h
 | v :: vs,c :: cs,u,h=>by
  have ih:=zlf (u:=u) (show vs.length=cs.length by simpa using h);unfold stp pos;cases hb:(v == u)with
  | true=>rfl
  | false=>
   rw[qdu,qdu,ih];cases pos vs u with
   | none=>rfl
   | some k=>simp[zaJ]
theorem zvJ{f:Fc}(hf:FcOk f){vs:List Nat}(hl:vs.length<=100):∀(n i:Nat),i<=vs.length->vs.length - i<n ->
  zbv (iL vs) f.T n (i:Int) (iL ((vs.map (stp f.vs f.cs)).take i ++ List.replicate (vs.length - i) 0))=some (iL (vs.map (stp f.vs f.cs)))
 | 0,_,_,h=>absurd h (qam _)
 | n+1,i,hi,hn=>by
  unfold zbv;rw[zal];rcases qa0 i vs.length with h3 | h3
  .have ih:=zvJ hf hl n (i+1) h3 (by omega);have ht:((vs.map (stp f.vs f.cs)).take i).length=i:=by simp; omega
   have e:List.replicate (vs.length - i) 0=0 :: List.replicate (vs.length - (i+1)) 0:=by
    rw[show vs.length - i=(vs.length - (i+1))+1 by omega,qaX]
   have e2:(vs.map (stp f.vs f.cs)).take (i+1)=(vs.map (stp f.vs f.cs)).take i ++ [stp f.vs f.cs vs[i]]:=by
    rw[qbG (by simpa using h3)]; simp
   rw[e2,qaE,qaN]at ih;rw[zA7 h3,qdt,za5 h3,qaa,zjq hf,qaa,zd1,zvd,e];rw[zlf hf.len]at ih;cases hp:pos f.vs vs[i]with
   | none=>
    rw[hp]at ih;rw[Option.isSome_none,qdu,qaa,zai (by omega)];exact ih
   | some k=>
    rw[hp]at ih;obtain⟨hk,_⟩:=zdC hp;rw[qc6,qdt,show ixZ (some k)=(k:Int)from rfl,show f.T.steps=iL (zaJ f.cs)from rfl,ze9 (by rw[zhi,<- hf.len]; exact hk),qaa,zdf ht,qaa,zeS ht,qaa,qaa,zai (by omega)];exact ih
  obtain rfl:i=vs.length:=by omega
  rw[zGa,qdu,qce,qcH,qaP,qaM (by simp)]
variable{vs:List Nat}
theorem zqt{f:Fc}(hf:FcOk f)(hl:vs.length<=100):zbl f.T (iL vs)=some (iL (vs.map (stp f.vs f.cs))):=by
 unfold zbl;have h:=zvJ hf hl (vs.length+2) 0 (qau _) (by omega);rw[qb0,qaU,qdf,zgG,show((0:Nat):Int)=0 from rfl]at h;rw[zal,zdn (by omega),qaa,zaK,h];rfl
theorem zvq(g h:Nat->Nat):∀(ds vs:List Nat),dot ds (vs.map λv=>g v+h v)=dot ds (vs.map g)+dot ds (vs.map h)
 | [],_=>by simp[dot]
 | d :: ds,[]=>by simp[dot]
 | d :: ds,v :: vs=>by
  simp only[qaL,dot,zvq g h ds vs,qdc];omega
theorem znt:∀(ds vs:List Nat) (g:Nat->Nat),(∀ v∈vs,g v=0)->dot ds (vs.map g)=0
 | [],_,_,_=>by simp[dot]
 | d :: ds,[],_,_=>by simp[dot]
 | d :: ds,v :: vs,g,h=>by
  simp only[qaL,dot,h v qaj,qdh,znt ds vs g λu hu=>h u (qah _ hu)]
theorem zxd{u p:Nat}:∀ {vs ds:List Nat},vs.Nodup->dot ds (vs.map λv=>bif u == v then p else 0)=at_ vs ds u * p
 | [],ds,_=>by cases ds<;>simp[dot,at_]
 | v :: vs,[],_=>by simp[dot,at_]
 | v :: vs,d :: ds,h=>by
  obtain⟨h1,h2⟩:=qaR.1 h;simp only[qaL,dot,at_];by_cases hb:u=v
  .subst hb;rw[qdx,qdt,qdt,znt ds vs _ (λw hw=>by rw[show(u == w)=false from qdy (λe=>h1 (e ▸ hw))]; rfl),qbH]
  rw[show(u == v)=false from qdy hb,show(v == u)=false from qdy (λe=>hb e.symm),qdu,qdu,zxd h2,qdh,qaO]
theorem zuQ:∀ {us cs:List Nat} {u:Nat},u ∉ us->stp us cs u=0
 | [],_,_,_=>by simp[stp]
 | v :: us,[],_,_=>by simp[stp]
 | v :: us,c :: cs,u,h=>by
  unfold stp;rw[show(v == u)=false from qdy (λe=>h (by rw[e]; exact qaj)),qdu,zuQ λhm=>h (qah _ hm)]
theorem zq4{vs ds:List Nat}(hv:vs.Nodup):∀ {us cs:List Nat},us.length=cs.length->us.Nodup->dot ds (vs.map (stp us cs))=dot (us.map (at_ vs ds)) (zaJ cs)
 | [],cs,_,_=>by
  rw[znt ds vs _ λv _=>by simp[stp]];simp[dot]
 | u :: us,[],h,_=>by simp at h
 | u :: us,c :: cs,h,hn=>by
  obtain⟨h1,h2⟩:=qaR.1 hn;have e:vs.map (stp (u :: us) (c :: cs))=vs.map λv=>(bif u == v then zac cs else 0)+stp us cs v:=by
   refine qaT λv _=>?_
   rw[show stp (u :: us) (c :: cs) v=bif u == v then zac cs else stp us cs v from rfl];cases hb:(u == v)with
   | true=>
    have:u=v:=by simpa using hb
    subst this;rw[qdt,qdt,zuQ h1]; rfl
   | false=>
    rw[qdu,qdu,qaO]
  rw[e,zvq,zxd hv,zq4 hv (by simpa using h) h2];rfl
theorem zbn(h:vs.Pairwise (· < ·)):vs.Nodup:=h.imp λh=>Nat.ne_of_lt h
def zp4(vs ws:List Nat):List Nat->List Nat->Prop
 | [],[]=>True
 | u :: us,c :: cs=>(u∈vs/\at_ vs ws u=c)/\zp4 vs ws us cs
 | _,_=>False
theorem zm2:∀ {vs ws ds:List Nat} {u:Nat},vs.length=ws.length->zc6 ws ds->u∈vs->at_ vs ds u<at_ vs ws u/\at_ vs ws u<=8
 | v :: vs,w :: ws,d :: ds,u,hl,hb,hm=>by
  unfold at_;by_cases h:v=u
  .subst h;rw[qdx,qdt,qdt];exact⟨hb.1,hb.2.1⟩
  .rw[show(v == u)=false from qdy h,qdu,qdu];rcases qav.1 hm with e | hm
   .exact absurd e.symm h
   .exact zm2 (by simpa using hl) hb.2.2 hm
 | [],_,_,_,_,_,hm=>by cases hm
 | v :: vs,[],_,_,hl,_,_=>by simp at hl
 | v :: vs,w :: ws,[],_,_,hb,_=>hb.elim
theorem zp4.below{vs ws ds:List Nat}(hl:vs.length=ws.length)(hb:zc6 ws ds):∀ {us cs:List Nat},zp4 vs ws us cs->zc6 cs (us.map (at_ vs ds))
 | [],[],_=>trivial
 | u :: us,c :: cs,⟨⟨h1,h2⟩,h3⟩=>by
  have:=zm2 hl hb h1;rw[h2]at this;exact⟨this.1,this.2,zp4.below hl hb h3⟩
 | [],_ :: _,h=>h.elim
 | _ :: _,[],h=>h.elim
theorem zp4.mem{vs ws:List Nat}:∀ {us cs:List Nat},zp4 vs ws us cs->∀ u∈us,u∈vs
 | [],[],_,_,hu=>by cases hu
 | u :: us,c :: cs,⟨⟨h1,_⟩,h3⟩,w,hw=>by
  rcases qav.1 hw with rfl | hw
  .exact h1
  .exact zp4.mem h3 w hw
 | [],_ :: _,h,_,_=>h.elim
 | _ :: _,[],h,_,_=>h.elim
def Fc.at(f:Fc)(vs ds:List Nat):Nat:=f.ws.getD (dot (f.vs.map (at_ vs ds)) (zaJ f.cs)) 0
variable{v:Nat}
theorem zvR{xs:List Nat}:(pos xs v).isSome=decide (v∈xs):=by
 cases h:pos xs v with
 | none=>exact(qdw (zh4 h)).symm
 | some k=>
  obtain⟨hk,e⟩:=zdC h;exact(qdv (e ▸ qao hk)).symm
theorem zgE(u d:Nat)(us ds:List Nat)(v:Nat):at_ (u :: us) (d :: ds) v=bif u == v then d else at_ us ds v:=rfl
theorem zsO:∀ {vs ds:List Nat} {v k:Nat},pos vs v=some k->at_ vs ds v=ds.getD k 0
 | [],_,_,_,h=>by cases h
 | u :: us,[],v,k,_=>by simp[at_]
 | u :: us,d :: ds,v,k,h=>by
  rw[zgE];rw[show pos (u :: us) v=bif u == v then some 0 else(pos us v).map (· + 1)from rfl]at h;cases hb:(u == v)with
  | true=>rw[hb,qdt]at h; cases h; rw[qdt]; rfl
  | false=>
   rw[hb,qdu]at h;cases hp:pos us v with
   | none=>rw[hp]at h; cases h
   | some j=>rw[hp]at h; cases h; rw[qdu,zsO hp]; rfl
def inB(f g:Fc)(v:Nat):Bool:=decide (v∈f.vs)|| decide (v∈g.vs)
def cdF(f g:Fc)(v:Nat):Nat:=bif decide (v∈f.vs)then at_ f.vs f.cs v else at_ g.vs g.cs v
def uni(f g:Fc):List Nat:=(List.range' 0 64).filter (inB f g)
theorem zrx:∀ {xs:List Nat} {l:Nat},xs.Pairwise (· < ·)->(∀ x∈xs,l<=x/\x<64)->xs.length<=64 - l
 | [],_,_,_=>by simp
 | x :: xs,l,h,hb=>by
  obtain⟨h1,h2⟩:=qa4.1 h;have hx:=hb x qaj;have:=zrx (l:=x+1) h2 λy hy=>⟨h1 y hy,(hb y (qah _ hy)).2⟩
  rw[qaB]; omega
theorem zje{f:Fc}(hf:FcOk f){k:Nat}(hp:pos f.vs v=some k):zaE f.D.zaf (ixZ (some k))=some ((at_ f.vs f.cs v:Nat):Int):=by
 obtain⟨hk,_⟩:=zdC hp;show zaE (iL f.cs) (k:Int)=_;rw[ze9 (by rw[<- hf.len]; exact hk),zsO hp]
theorem zeL{f g:Fc}(hf:FcOk f)(hg:FcOk g):v∈uni f g↔v∈f.vs\/v∈g.vs:=by
 unfold uni inB;simp only[qaA,qcP,qbt,decide_eq_true_eq];constructor
 .exact λh=>h.2
 rintro(h | h)
 .exact⟨⟨qau _,by have:=hf.var _ h; omega⟩,.inl h⟩
 exact⟨⟨qau _,by have:=hg.var _ h; omega⟩,.inr h⟩
theorem zi7(f g:Fc):(uni f g).Pairwise (· < ·):=qaK _ qc9
theorem zAF{f g:Fc}:∀ v∈uni f g,v<64:=by
 intro v hv;have:=(qaA.1 hv).1;simp only[qcP]at this;omega
theorem zAH(f g:Fc):(uni f g).length<=64:=zrx (l:=0) (zi7 f g) λx hx=>⟨qau _,zAF x hx⟩
theorem zi4:∀ {a b:List Nat},a.Pairwise (· < ·)->b.Pairwise (· < ·)->(∀ x,x∈a↔x∈b)->a=b
 | [],[],_,_,_=>rfl
 | [],b :: bs,_,_,h=>by have:=(h b).2 qaj; simp at this
 | a :: xs,[],_,_,h=>by have:=(h a).1 qaj; simp at this
 | a :: xs,b :: bs,ha,hb,h=>by
  obtain⟨ha1,ha2⟩:=qa4.1 ha;obtain⟨hb1,hb2⟩:=qa4.1 hb;have e:a=b:=by
   rcases qav.1 ((h a).1 qaj)with h1 | h1
   .exact h1
   rcases qav.1 ((h b).2 qaj)with h2 | h2
   .exact h2.symm
   have:=hb1 a h1; have:=ha1 b h2; omega
  subst e;refine congrArg (a :: ·) (zi4 ha2 hb2 λx=>⟨λhx=>?_,λhx=>?_⟩)
  .rcases qav.1 ((h x).1 (qah _ hx))with rfl | h1
   .have:=ha1 x hx; omega
   exact h1
  rcases qav.1 ((h x).2 (qah _ hx))with rfl | h1
  .have:=hb1 x hx; omega
  exact h1
end Go.Dc
namespace Go.Dc
open Go Go.Mx Go.Lx Go.Proofs
def zb6(y7:(List Int))(p0:S_factor_table)(p1:S_factor_table):Nat->Int->(List Int)->Option (List Int)
 | 0,_,_=>none
 | n+1,v26,l2=>(
bif (decide (v26<(y7.length:Int)))then(
(zaE y7 v26).bind λx12=>
(zas p0 x12).bind λr14=>
((bif (decide (0<=r14))then(
(zaE p0.factor.zaf r14).bind λx25=>
(zaE l2 v26).bind λx27=>
(zeT l2 v26 x25).bind λy29=>
some y29)
else(
(zas p1 x12).bind λr17=>
(zaE p1.factor.zaf r17).bind λx19=>
(zaE l2 v26).bind λx21=>
(zeT l2 v26 x19).bind λy23=>
some y23):Option (List Int))).bind λl2'=>
zb6 y7 p0 p1 n (w64 (v26+1)) l2')
else(
some l2))
def zds(p0:S_factor_table)(p1:S_factor_table):Option ((List Int)×(List Int)):=
(zex 8 p0.factor.vars).bind λy1=>
(zdE 8 y1 p1.factor.vars).bind λy3=>
(zoK 8 y3).bind λy5=>
(zDw y5).bind λy7=>
(zd7 8 (y7.length:Int) 0).bind λy9=>
((zb6 y7 p0 p1 ((y7.length:Int) - 0+2:Int).toNat 0 y9:Option (List Int))).bind λl2=>
some (y7,l2)
theorem zk1{p0:S_factor_table}{p1:S_factor_table}{r:((List Int)×(List Int))}(h:zds p0 p1=some r):Lx.Fn mC 127 [(.agg [(fzE false (eI .i64) p0.factor.vars),(fzE false (eI .i64) p0.factor.zaf),(fzE false (eI .i64) p0.factor.w),(fzE false (eI .i64) p0.steps)]),(.agg [(fzE false (eI .i64) p1.factor.vars),(fzE false (eI .i64) p1.factor.zaf),(fzE false (eI .i64) p1.factor.w),(fzE false (eI .i64) p1.steps)])] (.tup [(fzE true (eI .i64) r.1),(fzE true (eI .i64) r.2)]):=by
 refine gnO ?_;unfold zds at h;refine zad ?_;obtain⟨y1,g2,h⟩:=bsM h;refine sSM ?_;refine EvL.clone (t:=false) (zs:=p0.factor.vars) g2 rfl rfl ?_;obtain⟨y3,g4,y5,g6,h⟩:=zgs h;refine sXM (anM (srM p1.factor.vars) (anM (zb9 g4) (anM (show y1.length+p1.factor.vars.length=y3.length from zfB g4) (show y1.map ((eI .i64).c true)++ p1.factor.vars.map ((eI .i64).c true)=y3.map ((eI .i64).c true)from zdW g4 ((eI .i64).c true))))) ?_;refine EvL.sort (zs:=y3) (t:=true) g6 rfl rfl rfl rfl rfl ?_;obtain⟨y7,g8,h⟩:=bsM h;refine sSM ?_;refine EvL.compact (zs:=y5) (t:=true) g8 rfl rfl rfl (((zou g6).trans rfl)).symm (((zou g6).trans rfl)).symm rfl ?_;refine EvL.zgB (S':=⟨59,[(2,(.ptr 0 0)),(3,(.ptr 1 0)),(20,(fzE true (eI .i64) y7))],[.cells [(fzE false (eI .i64) p0.factor.vars),(fzE false (eI .i64) p0.factor.zaf),(fzE false (eI .i64) p0.factor.w),(fzE false (eI .i64) p0.steps)],.cells [(fzE false (eI .i64) p1.factor.vars),(fzE false (eI .i64) p1.factor.zaf),(fzE false (eI .i64) p1.factor.w),(fzE false (eI .i64) p1.steps)]]⟩) (zbi.m0 [.k,.k,.f] rfl (msq (msq (mf rfl (znZ (xs:=y5) (ys:=y7) (t:=true) (zDd g8) rfl rfl rfl (λ_=>rfl)) trivial))) ⟨MB.cs ⟨qds,qds,qds,qds,qds⟩,⟨MB.cs ⟨qds,qds,qds,qds,qds⟩,qds⟩⟩) (zad ?_);obtain⟨y9,g10,h⟩:=bsM h;refine sXM (anM ((zar g10).1.1) (anM ((zar g10).1.2) (anM @qbI (miM g10)))) ?_;obtain⟨o4,j4,h⟩:=bsM h;refine usM [4,5] 3 (λa:(List Int)=>([],[(0,.gone),(1,.gone),(2,.els 1 (a.map ((eI .i64).c true)))],[])) λT4 hT4=>?_
 refine EvL.jn T4 (λa=>a=o4/\a.length=(Int.toNat (y7.length:Int))) ?_ ?_
 .refine wSM ?_;refine usM [2,3,4,5,24,25] 3 (λa:(Int×(List Int))=>([(26,(dI a.1))],[(2,.els 1 (a.2.map ((eI .i64).c true)))],[])) λT7 hT7=>?_
  refine rdM hT7 (λn a=>zb6 y7 p0 p1 n a.1 a.2=some o4/\a.2.length=(Int.toNat (y7.length:Int))) (0,y9) ⟨j4,zbh g10⟩ ?_;rintro n ⟨v26,l2⟩ ⟨j4,el2⟩;simp only[zb6]at j4;refine wTM hT7 ?_;refine cBM j4 (λ_ j4=>?_) λ_ j4=>?_
  .obtain rfl:=qaf j4;exact zcz hT4 _ ⟨rfl,el2⟩
  obtain⟨x12,g13,r14,g15,j4⟩:=zgs j4;refine sXM (ixM g13) ?_;refine fCM (zaW g15) ?_;obtain⟨o8,j8,j4⟩:=bsM j4;obtain⟨T8,hT8⟩:=zdp hT7 λa:(List Int)=>uDM (T7 (v26,l2)) [] [] [(2,.els 1 (a.map ((eI .i64).c true)))] []
  refine EvL.jn T8 (λa=>a=o8/\a.length=(Int.toNat (y7.length:Int))) ?_ ?_
  .refine wSM ?_;refine cBM j8 (λ_ j8=>?_) λ_ j8=>?_
   .obtain⟨r17,g18,j8⟩:=bsM j8;refine sSM ?_;refine fCM (zaW g18) ?_;obtain⟨x19,g20,x21,g22,y23,g24,j8⟩:=zjp j8;refine sXM (anM (ixM g20) (anM el2 (anM (za2 g22) (anM (ltM el2 g22) (anM (giM g22) (siM g24)))))) ?_;obtain rfl:=qaf j8;exact zcz hT8 _ ⟨rfl,(zaS g24).trans el2⟩
   obtain⟨x25,g26,x27,g28,y29,g30,j8⟩:=zjp j8;refine sXM (anM (ixM g26) (anM el2 (anM (za2 g28) (anM (ltM el2 g28) (anM (giM g28) (siM g30)))))) ?_;obtain rfl:=qaf j8;exact zcz hT8 _ ⟨rfl,(zaS g30).trans el2⟩
  rintro l2' ⟨rfl,el2'⟩;refine wTM hT8 ?_;exact zcz hT7 ((w64 (v26+1)),l2') ⟨j4,el2'⟩
 rintro l2 ⟨rfl,el2⟩;refine wTM hT4 ?_;exact rHM h
end Go.Dc
namespace Go.Dc
open Go Go.Mx Go.Lx
theorem zsP:∀ {a b:List Int},a.Pairwise (· < ·)->b.Pairwise (· < ·)->(∀ x,x∈a↔x∈b)->a=b
 | [],[],_,_,_=>rfl
 | [],b :: bs,_,_,h=>by have:=(h b).2 qaj; simp at this
 | a :: xs,[],_,_,h=>by have:=(h a).1 qaj; simp at this
 | a :: xs,b :: bs,ha,hb,h=>by
  obtain⟨ha1,ha2⟩:=qa4.1 ha;obtain⟨hb1,hb2⟩:=qa4.1 hb;have e:a=b:=by
   rcases qav.1 ((h a).1 qaj)with h1 | h1
   .exact h1
   rcases qav.1 ((h b).2 qaj)with h2 | h2
   .exact h2.symm
   have:=hb1 a h1; have:=ha1 b h2; omega
  subst e;refine congrArg (a :: ·) (zsP ha2 hb2 λx=>⟨λhx=>?_,λhx=>?_⟩)
  .rcases qav.1 ((h x).1 (qah _ hx))with rfl | h1
   .have:=ha1 x hx; omega
   exact h1
  rcases qav.1 ((h x).2 (qah _ hx))with rfl | h1
  .have:=hb1 x hx; omega
  exact h1
section
variable {s:List Int}
theorem zm4{j:Nat}(h:j<s.length):s.toArray[j]! = s[j]:=by simp[h]
theorem zAv(hs:s.Pairwise (· <= ·)){i j:Nat}(hij:i<=j)(hj:j<s.length):s.toArray[i]!<=s.toArray[j]!:=by
 rw[zm4 (by omega),zm4 hj];rcases Nat.eq_or_lt_of_le hij with h | h
 .subst h; exact qbI _
 exact qbk.1 hs i j (by omega) hj h
theorem zCH(hs:s.Pairwise (· <= ·)):(Go.Lib.compact s).Pairwise (· < ·):=by
 unfold Go.Lib.compact Go.Lib.compactUpTo;refine List.pairwise_map.2 ((qaK _ (qcO (n:=s.length))).imp_of_mem λ{a b} _ hb hab=>?_);obtain⟨h1,h2⟩:=qaA.1 hb;have hb:=qaW.1 h1;have h3:s.toArray[b]!≠s.toArray[b - 1]!:=by
  rcases of_decide_eq_true h2 with h | h
  .omega
  exact h
 have h4:=zAv hs (show a<=b - 1 by omega) (by omega);have h5:=zAv hs (show b - 1<=b by omega) hb;omega
theorem zsV:∀ j:Nat,j<s.length->∃ i,i<s.length/\Go.Lib.keeps s.toArray i=true/\s.toArray[i]! = s.toArray[j]!
 | 0,h=>⟨0,h,qdv (.inl rfl),rfl⟩
 | j+1,h=>by
  by_cases e:s.toArray[j+1]! = s.toArray[j]!
  .obtain⟨i,h1,h2,h3⟩:=zsV j (by omega);exact⟨i,h1,h2,h3.trans e.symm⟩
  exact⟨j+1,h,qdv (.inr e),rfl⟩
theorem zBQ{x:Int}:x∈Go.Lib.compact s↔x∈s:=by
 unfold Go.Lib.compact Go.Lib.compactUpTo;constructor
 .intro h;obtain⟨j,h1,rfl⟩:=qaH.1 h;have hj:=qaW.1 (qaA.1 h1).1;rw[zm4 hj];exact qao hj
 intro h;obtain⟨j,hj,rfl⟩:=qcX.1 h;obtain⟨i,h1,h2,h3⟩:=zsV j hj;exact qaH.2 ⟨i,qaA.2 ⟨qaW.2 h1,h2⟩,h3.trans (zm4 hj)⟩
end
theorem zzb(zs:List Int):(zgk zs).Pairwise (· <= ·):=by
 have:=List.pairwise_mergeSort (le:=λx y:Int=>decide (x<=y)) (λa b c h1 h2=>by simp at *; omega) (λa b=>by simp; omega) zs;exact this.imp λh=>by simpa using h
theorem zwG{zs:List Int}{x:Int}:x∈zgk zs↔x∈zs:=List.mem_mergeSort
theorem zFf{xs:List Nat}(h:xs.Pairwise (· < ·)):(iL xs).Pairwise (· < ·):=List.pairwise_map.2 (h.imp λh=>Int.ofNat_lt.2 h)
theorem zA2{xs:List Nat}{x:Int}:x∈iL xs↔∃ k∈xs,(k:Int)=x:=qaH
theorem zCy{f g:Fc}(hf:FcOk f)(hg:FcOk g):Go.Lib.compact (zgk (iL f.vs ++ iL g.vs))=iL (uni f g):=by
 refine zsP (zCH (zzb _)) (zFf (zi7 f g)) λx=>?_
 rw[zBQ,zwG,<- zqW,zA2,zA2];constructor
 .rintro⟨k,h1,h2⟩; exact⟨k,(zeL hf hg).2 (qa9.1 h1),h2⟩
 rintro⟨k,h1,h2⟩; exact⟨k,qa9.2 ((zeL hf hg).1 h1),h2⟩
theorem zup{f g:Fc}(hf:FcOk f)(hg:FcOk g){vs:List Nat}(hl:vs.length<=100)(hm:∀ v∈vs,v∈f.vs\/v∈g.vs):∀(n i:Nat),i<=vs.length->vs.length - i<n ->
  zb6 (iL vs) f.T g.T n (i:Int) (iL ((vs.map (cdF f g)).take i ++ List.replicate (vs.length - i) 0))=some (iL (vs.map (cdF f g)))
 | 0,_,_,h=>absurd h (qam _)
 | n+1,i,hi,hn=>by
  unfold zb6;rw[zal];rcases qa0 i vs.length with h3 | h3
  .have ih:=zup hf hg hl hm n (i+1) h3 (by omega);have ht:((vs.map (cdF f g)).take i).length=i:=by simp; omega
   have e:List.replicate (vs.length - i) 0=0 :: List.replicate (vs.length - (i+1)) 0:=by
    rw[show vs.length - i=(vs.length - (i+1))+1 by omega,qaX]
   have e2:(vs.map (cdF f g)).take (i+1)=(vs.map (cdF f g)).take i ++ [cdF f g vs[i]]:=by
    rw[qbG (by simpa using h3)]; simp
   rw[e2,qaE,qaN]at ih;rw[zA7 h3,qdt,za5 h3,qaa,zjq hf,qaa,zd1,zvd,e];cases hp:pos f.vs vs[i]with
   | some k=>
    have hm:decide (vs[i]∈f.vs)=true:=by rw[<- zvR,hp]; rfl
    rw[show cdF f g vs[i]=at_ f.vs f.cs vs[i] by unfold cdF; rw[hm]; rfl]at ih;rw[qc6,qdt,show f.T.factor=f.D from rfl,zje hf hp,qaa,zdf ht,qaa,zeS ht,qaa,qaa,zai (by omega)];exact ih
   | none=>
    have hm1:decide (vs[i]∈f.vs)=false:=by rw[<- zvR,hp]; rfl
    rw[show cdF f g vs[i]=at_ g.vs g.cs vs[i] by unfold cdF; rw[hm1]; rfl]at ih;have hm2:vs[i]∈g.vs:=(hm vs[i] (qao h3)).resolve_left (qdD hm1);obtain⟨k,hq⟩:=zkK hm2;rw[Option.isSome_none,qdu,zjq hg,qaa,zd1,hq,show g.T.factor=g.D from rfl,zje hg hq,qaa,zdf ht,qaa,zeS ht,qaa,qaa,zai (by omega)];exact ih
  obtain rfl:i=vs.length:=by omega
  rw[zGa,qdu,qce,qcH,qaP,qaM (by simp)]
theorem zBF{f g:Fc}(hf:FcOk f)(hg:FcOk g):zds f.T g.T=some (iL (uni f g),iL ((uni f g).map (cdF f g))):=by
 have hl:=zAH f g;have h1:=hf.le; have h2:=hg.le; have h3:=hf.len; have h4:=hg.len;unfold zds
 rw[show f.T.factor.vars=iL f.vs from rfl,show g.T.factor.vars=iL g.vs from rfl,zg4 (by rw[zal]; omega),qaa,zcU (by rw[zal,zal]; omega),qaa,
  show zoK 8 (iL f.vs ++ iL g.vs)=some (zgk (iL f.vs ++ iL g.vs))from by unfold zoK; rw[if_pos (by rw[qaz,zal,zal]; simp only[zah]; omega)],qaa,
  show zDw (zgk (iL f.vs ++ iL g.vs))=some (Go.Lib.compact (zgk (iL f.vs ++ iL g.vs)))from rfl,qaa,zCy hf hg,zal,zdn (by omega),qaa,zaK]
 have:=zup hf hg (vs:=uni f g) (by omega) (λv hv=>(zeL hf hg).1 hv) ((uni f g).length+2) 0 (qau _) (by omega);rw[qb0,qaU,qdf,zgG]at this;rw[show zb6 (iL (uni f g)) f.T g.T ((uni f g).length+2) 0 (List.replicate (uni f g).length 0)=_ from this];rfl
end Go.Dc
namespace Go.Dc
open Go Go.Mx Go.Lx Go.Proofs
def zaO(p1:(List Int))(p0:S_factor_table):Nat->Int->Int->(List Int)->Option (Int×(List Int))
 | 0,_,_,_=>none
 | n+1,v9,v24,l3=>(
bif (decide (v24<(p1.length:Int)))then(
(zaE p1 v24).bind λx4=>
(zas p0 x4).bind λr6=>
(zaE p0.factor.zaf r6).bind λx8=>
(zaE l3 v24).bind λx10=>
(zeT l3 v24 x8).bind λy12=>
zaO p1 p0 n (w64 (v9 * x8)) (w64 (v24+1)) y12)
else(
some (v9,l3)))
def zaP(p1:(List Int))(p0:S_factor_table)(l3:(List Int)):Nat->Int->Int->(List Int)->Option (List Int)
 | 0,_,_,_=>none
 | n+1,v14,v15,l6=>(
bif (decide (0<=v15))then(
(zaE p1 v15).bind λx19=>
(zas p0 x19).bind λr21=>
(zaE l6 r21).bind λx23=>
(zeT l6 r21 v14).bind λy25=>
(zaE l3 v15).bind λx27=>
zaP p1 p0 l3 n (w64 (v14 * x27)) (w64 (v15 - 1)) y25)
else(
some l6))
def zaB(p0:S_factor_table)(v9:Int):List (Int×Int×(List Int))->(List Int)->Option (Out3 (List Int) (List Int) Empty)
 | [],l4=>some (.go l4)
 | y33 :: ys,l4=>(
(zaE l4 y33.2.1).bind λx34=>
(zaE p0.factor.w y33.1).bind λx36=>
(zeF x34 x36).bind λr38=>
(zeT l4 y33.2.1 r38.1).bind λy40=>
bif r38.2 then(
zaB p0 v9 ys y40)
else(
some (.brk y40)))
def za4(p0:S_factor_table)(p1:(List Int)):Option (S_api_Factor×Int):=
(zd7 8 (p1.length:Int) 0).bind λy1=>
((zaO p1 p0 ((p1.length:Int) - 0+2:Int).toNat 1 0 y1:Option ((Int×(List Int))))).bind λo=>match o with
|(v9,l3)=>(
(zd7 8 v9 0).bind λy14=>
(zd7 8 (p0.factor.vars.length:Int) 0).bind λy16=>
((zaP p1 p0 l3 ((w64 ((p1.length:Int) - 1)) - 0+2:Int).toNat 1 (w64 ((p1.length:Int) - 1)) y16:Option (List Int))).bind λl6=>
(zcc p0.factor.zaf l6).bind λr29=>
(((zAB r29.1 r29.2).bind λu31=>
((zaB p0 v9 u31 y14:Option (Out3 (List Int) (List Int) Empty))).bind λo=>match o with
| .go l4=>(
some (true,l4))
| .brk l4=>(
some (false,l4))
| .ret r=>nomatch r:Option ((Bool×(List Int))))).bind λo=>match o with
|(b7_0,l4)=>(
bif b7_0 then(
some ((S_api_Factor.mk p1 l3 l4),0))
else(
some ((S_api_Factor.mk [] [] []),6))))
variable{r:(S_api_Factor×Int)}
theorem zdr{p0:S_factor_table}{p1:(List Int)}(h:za4 p0 p1=some r):Lx.FnA mC 94 [(.agg [(fzE false (eI .i64) p0.factor.vars),(fzE false (eI .i64) p0.factor.zaf),(fzE false (eI .i64) p0.factor.w),(fzE false (eI .i64) p0.steps)]),(fzE false (eI .i64) p1),(.agg [(.clo 95 [] [])])] (.tup [(.agg [(fzE false (eI .i64) r.1.vars),(fzE false (eI .i64) r.1.zaf),(fzE false (eI .i64) r.1.w)]),(dI r.2)]):=by
 refine zI8 (List.range 19) [19,20] ?_;unfold za4 at h;refine wSM ?_;refine EvL.scope (zad ?_);obtain⟨y1,g2,h⟩:=bsM h;refine sXM (anM ((zar g2).1.1) (anM ((zar g2).1.2) (anM @qbI (miM g2)))) ?_;obtain⟨o8,j8,h⟩:=bsM h;obtain⟨T8,hT8⟩:=mkT λa:(Int×(List Int))=>⟨112,[(1,(fzE false (eI .i64) p1)),(3,(.ptr 0 0)),(5,(.ptr 1 0)),(6,(.ptr 2 0)),(8,(.sl 3 0 1 (Int.toNat (p1.length:Int)) (some (Int.toNat (p1.length:Int))) (Int.toNat (p1.length:Int)))),(9,(dI a.1))],[.cells [(fzE false (eI .i64) p0.factor.vars),(fzE false (eI .i64) p0.factor.zaf),(fzE false (eI .i64) p0.factor.w),(fzE false (eI .i64) p0.steps)],.cells [(.clo 95 [] [])],.cells [zez,zez,zez],.els 1 (a.2.map ((eI .i64).c true))]⟩
 refine EvL.jn T8 (λa=>a=o8/\a.2.length=(Int.toNat (p1.length:Int))) ?_ ?_
 .refine wSM ?_;obtain⟨T9,hT9⟩:=mkT λa:(Int×Int×(List Int))=>⟨112,[(1,(fzE false (eI .i64) p1)),(3,(.ptr 0 0)),(5,(.ptr 1 0)),(6,(.ptr 2 0)),(8,(.sl 3 0 1 (Int.toNat (p1.length:Int)) (some (Int.toNat (p1.length:Int))) (Int.toNat (p1.length:Int)))),(9,(dI a.1)),(22,(fzE false (eI .i64) p1)),(23,(dI (p1.length:Int))),(24,(dI a.2.1))],[.cells [(fzE false (eI .i64) p0.factor.vars),(fzE false (eI .i64) p0.factor.zaf),(fzE false (eI .i64) p0.factor.w),(fzE false (eI .i64) p0.steps)],.cells [(.clo 95 [] [])],.cells [zez,zez,zez],.els 1 (a.2.2.map ((eI .i64).c true))]⟩
  refine EvL.rounds (α:=(Int×Int×(List Int))) T9 (λn a=>zaO p1 p0 n a.1 a.2.1 a.2.2=some o8/\a.2.2.length=(Int.toNat (p1.length:Int))) ((p1.length:Int) - 0+2:Int).toNat (1,0,y1) (by rw[hT9]; exact wm0 [.k,.k,.k,.k] ⟨MB.cs ⟨qds,qds,qds,qds,qds⟩,⟨MB.cs ⟨⟨qds,qds⟩,qds⟩,⟨MB.cs ⟨qds,qds,qds,qds⟩,⟨MB.es (eI .i64) true y1,qds⟩⟩⟩⟩) ⟨j8,zbh g2⟩ (λ_ h=>nomatch (show(none:Option (Int×(List Int)))=some o8 from h.1)) ?_;rintro n ⟨v9,v24,l3⟩ ⟨j8,el3⟩;simp only[zaO]at j8;refine wTM hT9 ?_;refine cBM j8 (λ_ j8=>?_) λ_ j8=>?_
  .obtain rfl:=qaf j8;exact⟨_,⟨rfl,el3⟩,by rw[hT8]; exact wm0 [.k,.k,.k,.k] ⟨MB.cs ⟨qds,qds,qds,qds,qds⟩,⟨MB.cs ⟨⟨qds,qds⟩,qds⟩,⟨MB.cs ⟨qds,qds,qds,qds⟩,⟨MB.es (eI .i64) true l3,qds⟩⟩⟩⟩⟩
  obtain⟨x4,g5,j8⟩:=bsM j8;obtain⟨r6,g7,j8⟩:=bsM j8;refine sXM (ixM g5) ?_;refine fCM (zaW g7) ?_;obtain⟨x8,g9,j8⟩:=bsM j8;obtain⟨x10,g11,j8⟩:=bsM j8;obtain⟨y12,g13,j8⟩:=bsM j8;refine sXM (anM (ixM g9) (anM el3 (anM (za2 g11) (anM (ltM el3 g11) (anM (giM g11) (anM (siM g13) (anM ((zaS g13).trans el3) (zcn (zuO g13) ((eI .i64).c true))))))))) ?_;exact⟨((w64 (v9 * x8)),(w64 (v24+1)),y12),⟨j8,(zaS g13).trans el3⟩,by rw[hT9]; exact wm0 [.k,.k,.k,.k] ⟨MB.cs ⟨qds,qds,qds,qds,qds⟩,⟨MB.cs ⟨⟨qds,qds⟩,qds⟩,⟨MB.cs ⟨qds,qds,qds,qds⟩,⟨MB.es (eI .i64) true y12,qds⟩⟩⟩⟩⟩
 rintro⟨v9,l3⟩ ⟨rfl,el3⟩;dsimp only at h;refine wTM hT8 ?_;obtain⟨y14,g15,h⟩:=bsM h;obtain⟨y16,g17,h⟩:=bsM h;refine sXM (anM ((zar g15).1.1) (anM ((zar g15).1.2) (anM @qbI (anM (miM g15) (anM ((zar g17).1.1) (anM ((zar g17).1.2) (miM g17))))))) ?_;obtain⟨o10,j10,h⟩:=bsM h;obtain⟨T10,hT10⟩:=zdp hT8 λa:(List Int)=>uDM (T8 (v9,l3)) [9] [(12,(.ptr 5 0)),(13,(.sl 6 0 1 (Int.toNat (p0.factor.vars.length:Int)) (some (Int.toNat (p0.factor.vars.length:Int))) (Int.toNat (p0.factor.vars.length:Int))))] [] [.els 1 (y14.map ((eI .i64).c true)),.cells [(.sl 4 0 1 (Int.toNat v9) (some (Int.toNat v9)) (Int.toNat v9))],.els 1 (a.map ((eI .i64).c true))]
 refine EvL.jn T10 (λa=>a=o10/\a.length=(Int.toNat (p0.factor.vars.length:Int))) ?_ ?_
 .refine wSM ?_;obtain⟨T11,hT11⟩:=zdp hT8 λa:(Int×Int×(List Int))=>uDM (T8 (v9,l3)) [9] [(12,(.ptr 5 0)),(13,(.sl 6 0 1 (Int.toNat (p0.factor.vars.length:Int)) (some (Int.toNat (p0.factor.vars.length:Int))) (Int.toNat (p0.factor.vars.length:Int)))),(14,(dI a.1)),(15,(dI a.2.1))] [] [.els 1 (y14.map ((eI .i64).c true)),.cells [(.sl 4 0 1 (Int.toNat v9) (some (Int.toNat v9)) (Int.toNat v9))],.els 1 (a.2.2.map ((eI .i64).c true))]
  refine EvL.rounds (α:=(Int×Int×(List Int))) T11 (λn a=>zaP p1 p0 l3 n a.1 a.2.1 a.2.2=some o10/\a.2.2.length=(Int.toNat (p0.factor.vars.length:Int))) ((w64 ((p1.length:Int) - 1)) - 0+2:Int).toNat (1,(w64 ((p1.length:Int) - 1)),y16) (by rw[hT11]; exact wm0 [.k,.k,.k,.k,.k,.k,.k] ⟨MB.cs ⟨qds,qds,qds,qds,qds⟩,⟨MB.cs ⟨⟨qds,qds⟩,qds⟩,⟨MB.cs ⟨qds,qds,qds,qds⟩,⟨MB.es (eI .i64) true l3,⟨MB.es (eI .i64) true y14,⟨MB.cs ⟨rfl,qds⟩,⟨MB.es (eI .i64) true y16,qds⟩⟩⟩⟩⟩⟩⟩) ⟨j10,zbh g17⟩ (λ_ h=>nomatch (show(none:Option (List Int))=some o10 from h.1)) ?_;rintro n ⟨v14,v15,l6⟩ ⟨j10,el6⟩;simp only[zaP]at j10;refine wTM hT11 ?_;refine cBM j10 (λ_ j10=>?_) λ_ j10=>?_
  .obtain rfl:=qaf j10;exact⟨_,⟨rfl,el6⟩,by rw[hT10]; exact wm0 [.k,.k,.k,.k,.k,.k,.k] ⟨MB.cs ⟨qds,qds,qds,qds,qds⟩,⟨MB.cs ⟨⟨qds,qds⟩,qds⟩,⟨MB.cs ⟨qds,qds,qds,qds⟩,⟨MB.es (eI .i64) true l3,⟨MB.es (eI .i64) true y14,⟨MB.cs ⟨rfl,qds⟩,⟨MB.es (eI .i64) true l6,qds⟩⟩⟩⟩⟩⟩⟩⟩
  obtain⟨x19,g20,j10⟩:=bsM j10;obtain⟨r21,g22,j10⟩:=bsM j10;refine sXM (ixM g20) ?_;refine fCM (zaW g22) ?_;obtain⟨x23,g24,j10⟩:=bsM j10;obtain⟨y25,g26,j10⟩:=bsM j10;obtain⟨x27,g28,j10⟩:=bsM j10;refine sXM (anM el6 (anM (za2 g24) (anM (ltM el6 g24) (anM (giM g24) (anM (siM g26) (anM el3 (anM (za2 g28) (anM (ltM el3 g28) (giM g28))))))))) ?_;exact⟨((w64 (v14 * x27)),(w64 (v15 - 1)),y25),⟨j10,(zaS g26).trans el6⟩,by rw[hT11]; exact wm0 [.k,.k,.k,.k,.k,.k,.k] ⟨MB.cs ⟨qds,qds,qds,qds,qds⟩,⟨MB.cs ⟨⟨qds,qds⟩,qds⟩,⟨MB.cs ⟨qds,qds,qds,qds⟩,⟨MB.es (eI .i64) true l3,⟨MB.es (eI .i64) true y14,⟨MB.cs ⟨rfl,qds⟩,⟨MB.es (eI .i64) true y25,qds⟩⟩⟩⟩⟩⟩⟩⟩
 rintro l6 ⟨rfl,el6⟩;refine wTM hT10 ?_;refine EvL.zgB (S':=⟨112,[(1,(fzE false (eI .i64) p1)),(3,(.ptr 0 0)),(5,(.ptr 1 0)),(6,(.ptr 2 0)),(8,(.sl 3 0 1 (Int.toNat (p1.length:Int)) (some (Int.toNat (p1.length:Int))) (Int.toNat (p1.length:Int)))),(12,(.ptr 5 0)),(16,(.ptr 7 0)),(78,(fzE false (eI .i64) p0.factor.zaf)),(79,(fzE true (eI .i64) l6))],[.cells [(fzE false (eI .i64) p0.factor.vars),(fzE false (eI .i64) p0.factor.zaf),(fzE false (eI .i64) p0.factor.w),(fzE false (eI .i64) p0.steps)],.cells [(.clo 95 [] [])],.cells [zez,zez,zez],.els 1 (l3.map ((eI .i64).c true)),.els 1 (y14.map ((eI .i64).c true)),.cells [(.sl 4 0 1 (Int.toNat v9) (some (Int.toNat v9)) (Int.toNat v9))],.gone,.cells [(dB true)]]⟩) (zbi.m0 [.k,.k,.k,.k,.k,.k,.f,.k] rfl (msq (msq (msq (msq (msq (msq (msq (msq (mf rfl (zkX (e:=(eI .i64)) (t:=true) rfl rfl (.inl rfl) (el6).symm (el6).symm (λk h=>by cases h; exact qap _) (λh=>by cases h<;>rfl)) trivial))))))))) ⟨MB.cs ⟨qds,qds,qds,qds,qds⟩,⟨MB.cs ⟨⟨qds,qds⟩,qds⟩,⟨MB.cs ⟨qds,qds,qds,qds⟩,⟨MB.es (eI .i64) true l3,⟨MB.es (eI .i64) true y14,⟨MB.cs ⟨rfl,qds⟩,⟨rfl,⟨MB.cs ⟨qds,qds⟩,qds⟩⟩⟩⟩⟩⟩⟩⟩) (zad ?_);obtain⟨r29,g30,h⟩:=bsM h;refine sSM ?_;refine fDM (zdh g30) ?_;obtain⟨o13,j13,h⟩:=bsM h;obtain⟨T13,hT13⟩:=zdp hT10 λa:(Bool×(List Int))=>uDM (T10 l6) [3,5,13] [(16,(.ptr 7 0))] [(0,.gone),(1,.gone),(4,.els 1 (a.2.map ((eI .i64).c true))),(6,.gone)] [.cells [(dB a.1)]]
 refine EvL.jn T13 (λa=>a=o13/\a.2.length=(Int.toNat v9)) ?_ ?_
 .refine wSM ?_;obtain⟨u31,g32,j13⟩:=bsM j13;obtain⟨o14,j14,j13⟩:=bsM j13;obtain⟨T14,hM14⟩:∃ T:(List Int)->List LB,T=(λa=>[.cells [(fzE false (eI .i64) p0.factor.vars),(fzE false (eI .i64) p0.factor.zaf),(fzE false (eI .i64) p0.factor.w),(fzE false (eI .i64) p0.steps)],.cells [(.clo 95 [] [])],.cells [zez,zez,zez],.els 1 (l3.map ((eI .i64).c true)),.els 1 (a.map ((eI .i64).c true)),.cells [(.sl 4 0 1 (Int.toNat v9) (some (Int.toNat v9)) (Int.toNat v9))],.gone,.cells [(dB true)]]):=⟨_,rfl⟩;obtain⟨TX14,hMX14⟩:∃ T:(List Int)->List LB,T=(λa=>[.cells [(fzE false (eI .i64) p0.factor.vars),(fzE false (eI .i64) p0.factor.zaf),(fzE false (eI .i64) p0.factor.w),(fzE false (eI .i64) p0.steps)],.cells [(.clo 95 [] [])],.cells [zez,zez,zez],.els 1 (l3.map ((eI .i64).c true)),.els 1 (a.map ((eI .i64).c true)),.cells [(.sl 4 0 1 (Int.toNat v9) (some (Int.toNat v9)) (Int.toNat v9))],.gone,.cells [(dB false)]]):=⟨_,rfl⟩;refine EvL.zgB (S':=⟨112,[(1,(fzE false (eI .i64) p1)),(3,(.ptr 0 0)),(5,(.ptr 1 0)),(6,(.ptr 2 0)),(8,(.sl 3 0 1 (Int.toNat (p1.length:Int)) (some (Int.toNat (p1.length:Int))) (Int.toNat (p1.length:Int)))),(12,(.ptr 5 0)),(16,(.ptr 7 0)),(80,(.clo 125 [] [(.fptr false ((eL (eI .i64)).c false r29.1)),(.fptr false ((eL (eI .i64)).c false r29.2))]))],T14 y14⟩) (by rw[hM14]; exact wm0 [.k,.k,.k,.k,.k,.k,.k,.k] ⟨MB.cs ⟨qds,qds,qds,qds,qds⟩,⟨MB.cs ⟨⟨qds,qds⟩,qds⟩,⟨MB.cs ⟨qds,qds,qds,qds⟩,⟨MB.es (eI .i64) true l3,⟨MB.es (eI .i64) true y14,⟨MB.cs ⟨rfl,qds⟩,⟨MB.same trivial,⟨MB.cs ⟨qds,qds⟩,qds⟩⟩⟩⟩⟩⟩⟩⟩) ?_;refine EvL.zgF (n0:=8) (zcV g32) rfl (bm:=.block 5 (.seq (.reg true true [⟨some 84,.load none (.s 12),none⟩,⟨some 85,.mov (.s 18),none⟩,⟨some 86,.fld 0 (.s 5),none⟩,⟨some 87,.load none (.s 86),none⟩,⟨some 88,.load none (.s 12),none⟩,⟨some 89,.mov (.s 18),none⟩,⟨some 90,.idxS 1 (.s 88) (.s 89),none⟩,⟨some 91,.load none (.s 90),none⟩,⟨some 92,.fld 0 (.s 3),none⟩,⟨some 93,.fld 2 (.s 92),none⟩,⟨some 94,.load none (.s 93),none⟩,⟨some 95,.mov (.s 17),none⟩,⟨some 96,.idxS 1 (.s 94) (.s 95),none⟩,⟨some 97,.load none (.s 96),none⟩,⟨some 98,.zd8 (.s 87) [(.s 91),(.s 97)],none⟩,⟨some 83,.mov (.s 98),none⟩,⟨some 99,.ext (.s 83) 0,none⟩,⟨some 100,.ext (.s 83) 1,none⟩,⟨some 101,.idxS 1 (.s 84) (.s 85),none⟩,⟨none,.store 1 (.s 101) (.s 99),none⟩,⟨none,.store 1 (.s 16) (.s 100),none⟩]) (.block 6 (.seq (.reg false false [⟨some 103,.load none (.s 16),none⟩,⟨some 104,.un .not (.s 103),none⟩,⟨some 102,.mov (.s 104),none⟩]) (.cond (.s 102) (.exit 4) (.skip)))))) rfl T14 (λi a=>zaB p0 v9 (u31.drop i) a=some o14/\a.length=(Int.toNat v9)) (λx L1=>match x with | .normal=>∃ a,o14=.go a/\a.length=(Int.toNat v9)/\L1=T14 a | .exit id=>∃ a,o14=.brk a/\a.length=(Int.toNat v9)/\id=4/\L1=TX14 a | .ret=>L1.length=8/\zdo (8+1) L1/\(zv1 [.cell 6 (some 3),.tmp 7] ((.tup [(.agg [(fzE false (eI .i64) r.1.vars),(fzE false (eI .i64) r.1.zaf),(fzE false (eI .i64) r.1.w)]),(dI r.2)]))) .ret ⟨112,[(1,(fzE false (eI .i64) p1)),(3,(.ptr 0 0)),(5,(.ptr 1 0)),(6,(.ptr 2 0)),(8,(.sl 3 0 1 (Int.toNat (p1.length:Int)) (some (Int.toNat (p1.length:Int))) (Int.toNat (p1.length:Int)))),(12,(.ptr 5 0)),(16,(.ptr 7 0)),(80,(.clo 125 [] [(.fptr false ((eL (eI .i64)).c false r29.1)),(.fptr false ((eL (eI .i64)).c false r29.2))]))],L1 ++ [.lost]⟩| _=>False) y14 ?_ (qau _) ?_ ?_ ?_ (λd L1 hx=>hx.elim) ?_ ?_ ?_ ?_ ?_ ?_
  .intro a; rw[hM14]; rfl
  .exact⟨qds,(qad rfl),(qad rfl),(qad rfl),(qad rfl),(qad rfl),(qad rfl),⟨qds,⟨qds,qds,qds⟩⟩,qds⟩
  .intro a; rw[hM14]; exact⟨⟨qds,qds,qds,qds,qds⟩,⟨⟨qds,qds⟩,qds⟩,⟨qds,qds,qds,qds⟩,(zdU (eI .i64) _ _ _),(zdU (eI .i64) _ _ _),⟨(qad rfl),qds⟩,qds,⟨qds,qds⟩,qds⟩
  .intro x L1 hx;cases x with
   | normal=>obtain⟨a,_,_,rfl⟩:=hx; exact⟨by rw[hM14]; rfl,by rw[hM14]; exact⟨⟨qds,qds,qds,qds,qds⟩,⟨⟨qds,qds⟩,qds⟩,⟨qds,qds,qds,qds⟩,(zdU (eI .i64) _ _ _),(zdU (eI .i64) _ _ _),⟨(qad rfl),qds⟩,qds,⟨qds,qds⟩,qds⟩⟩
   | ret=>exact⟨hx.1,hx.2.1⟩
   | exit id=>obtain⟨a,_,_,_,rfl⟩:=hx; exact⟨by rw[hMX14]; rfl,by rw[hMX14]; exact⟨⟨qds,qds,qds,qds,qds⟩,⟨⟨qds,qds⟩,qds⟩,⟨qds,qds,qds,qds⟩,(zdU (eI .i64) _ _ _),(zdU (eI .i64) _ _ _),⟨(qad rfl),qds⟩,qds,⟨qds,qds⟩,qds⟩⟩
   | panic d=>exact hx.elim
  .exact⟨j14,zbh g15⟩
  .rintro i l4 y33 args G lpF hy ⟨hi14,el4⟩ ⟨rfl,rfl⟩ hkin;rw[zf7 hy]at hi14;simp only[zaB]at hi14;refine⟨_,_,rfl,rfl,?_⟩;rw[congrFun hM14 l4];refine zad ?_;obtain⟨x34,g35,hi14⟩:=bsM hi14;obtain⟨x36,g37,hi14⟩:=bsM hi14;obtain⟨r38,g39,hi14⟩:=bsM hi14;refine sXM (anM el4 (anM (za2 g35) (anM (ltM el4 g35) (anM (giM g35) (ixM g37))))) ?_;refine EvL.fnv rfl rfl (znW g39) rfl (.cons (.lit _) (.cons (.lit _) .nil)) ?_;obtain⟨y40,g41,hi14⟩:=bsM hi14;refine sXM (anM el4 (anM (za2 g35) (anM (ltM el4 g35) (anM (giM g35) (siM g41))))) ?_;refine cBM hi14 (λ_ hi14=>?_) λ_ hi14=>?_
   .obtain rfl:=qaf hi14;exact⟨TX14 y40,by rw[hMX14]; rfl,by rw[hMX14]; exact zbi.mK [.k,.k,.k,.k,.k,.k,.k,.k,.k,.k] rfl rfl qds ⟨MB.cs ⟨qds,qds,qds,qds,qds⟩,⟨MB.cs ⟨⟨qds,qds⟩,qds⟩,⟨MB.cs ⟨qds,qds,qds,qds⟩,⟨MB.es (eI .i64) true l3,⟨MB.es (eI .i64) true y40,⟨MB.cs ⟨rfl,qds⟩,⟨MB.same trivial,⟨MB.cs ⟨qds,qds⟩,⟨.same (hkin _ (by decide)),⟨MB.same (zeM _ _ _ _),qds⟩⟩⟩⟩⟩⟩⟩⟩⟩⟩,y40,rfl,(zaS g41).trans el4,rfl⟩
   exact⟨T14 y40,by rw[hM14]; rfl,by rw[hM14]; exact zbi.mK [.k,.k,.k,.k,.k,.k,.k,.k,.k,.k] rfl rfl qds ⟨MB.cs ⟨qds,qds,qds,qds,qds⟩,⟨MB.cs ⟨⟨qds,qds⟩,qds⟩,⟨MB.cs ⟨qds,qds,qds,qds⟩,⟨MB.es (eI .i64) true l3,⟨MB.es (eI .i64) true y40,⟨MB.cs ⟨rfl,qds⟩,⟨MB.same trivial,⟨MB.cs ⟨qds,qds⟩,⟨.same (hkin _ (by decide)),⟨MB.same (zeM _ _ _ _),qds⟩⟩⟩⟩⟩⟩⟩⟩⟩⟩,y40,⟨hi14,(zaS g41).trans el4⟩,rfl⟩
  .rintro l4 ⟨hi14,el4⟩;rw[qbB]at hi14;simp only[zaB]at hi14;exact⟨l4,(qaf hi14).symm,el4,rfl⟩
  .rintro _ ⟨l4,oeq,el4,rfl⟩;have oeq2:=oeq.symm;subst oeq2;dsimp only at j13;rw[congrFun hM14 l4];refine wSM ?_;obtain rfl:=qaf j13;exact zcz hT13 _ ⟨rfl,el4⟩
  .rintro id _ ⟨l4,oeq,el4,rfl,rfl⟩;rw[oeq]at j13;dsimp only at j13;rw[congrFun hMX14 l4];refine wSM ?_;obtain rfl:=qaf j13;exact zcz hT13 _ ⟨rfl,el4⟩
  intro L1 hx; exact hx.2.2
 rintro⟨b7_0,l4⟩ ⟨rfl,el4⟩;dsimp only at h;refine wTM hT13 ?_;refine cBM h (λ_ h=>?_) λ_ h=>?_
 .exact rHM h
 exact rHM h
def zdj(p0:S_api_Factor)(p1:Int):Option (S_api_Factor×Int):=
(zbL p0).bind λr1=>
bif (r1.2 == 0)then(
(zas r1.1 p1).bind λr4=>
bif (decide (r4<0))then(
some ((S_api_Factor.mk [] [] []),4))
else(
(zex 8 r1.1.factor.vars).bind λy7=>
(zwo y7 r4 (w64 (r4+1))).bind λy9=>
(za4 r1.1 y9).bind λr11=>
some (r11.1,r11.2)))
else(
some ((S_api_Factor.mk [] [] []),r1.2))
variable{p0:S_api_Factor}
theorem zhI{p1:Int}(h:zdj p0 p1=some r):Lx.FnA mC 113 [(.agg [(fzE false (eI .i64) p0.vars),(fzE false (eI .i64) p0.zaf),(fzE false (eI .i64) p0.w)]),(dI p1),(.agg [(.clo 95 [] [])])] (.tup [(.agg [(fzE false (eI .i64) r.1.vars),(fzE false (eI .i64) r.1.zaf),(fzE false (eI .i64) r.1.w)]),(dI r.2)]):=by
 refine zCt ?_;unfold zdj at h;refine zad ?_;obtain⟨r1,g2,h⟩:=bsM h;refine sSM ?_;refine fDM (zdx g2) ?_;refine cBM h (λ_ h=>?_) λ_ h=>?_
 .exact rHM h
 obtain⟨r4,g5,h⟩:=bsM h;refine sSM ?_;refine fCM (zaW g5) ?_;refine cBM h (λ_ h=>?_) λ_ h=>?_
 .obtain⟨y7,g8,h⟩:=bsM h;refine sSM ?_;refine EvL.clone (t:=false) (zs:=r1.1.factor.vars) g8 rfl rfl ?_;obtain⟨y9,g10,h⟩:=bsM h;refine sSM ?_;refine EvL.delete (zs:=y7) (t:=true) g10 rfl rfl rfl rfl rfl rfl ?_;refine EvL.zgB (S':=⟨39,[(6,(.ptr 2 0)),(26,(.agg [(fzE false (eI .i64) r1.1.factor.vars),(fzE false (eI .i64) r1.1.factor.zaf),(fzE false (eI .i64) r1.1.factor.w),(fzE false (eI .i64) r1.1.steps)])),(34,(fzE true (eI .i64) y9)),(35,(.agg [(.clo 95 [] [])]))],[.gone,.gone,.cells [zez,zez,zez]]⟩) (zbi.m0 [.d,.d,.k,.d,.f] rfl (msq (ms rfl ⟨qds,qds,qds,qds,qds⟩ (mf rfl (znZ (xs:=y7) (ys:=y9) (t:=true) (zqK g10) rfl rfl rfl (λ_=>rfl)) (ms rfl ⟨⟨qds,qds⟩,qds⟩ trivial)))) ⟨rfl,⟨rfl,⟨MB.cs ⟨qds,qds,qds,qds⟩,qds⟩⟩⟩) (zad ?_);obtain⟨r11,g12,h⟩:=bsM h;refine sSM ?_;refine EvL.fnS (zdr g12) rfl rfl (.cons (Mzs.agg (.cons (zdw _ _ (λh=>by cases h<;>contradiction)) (.cons (zdw _ _ (λh=>by cases h<;>contradiction)) (.cons (zdw _ _ (λh=>by cases h<;>contradiction)) (.cons (zdw _ _ (λh=>by cases h<;>contradiction)) .nil))))) (.cons (zdw _ _ (λh=>by cases h<;>contradiction)) (.cons (Mzs.agg (.cons zqb .nil)) .nil))) ⟨⟨(zb0 _ _),(zb0 _ _),(zb0 _ _),(zb0 _ _),qds⟩,(zb0 _ _),⟨⟨qds,qds⟩,qds⟩,qds⟩ ⟨⟨(zb0 _ _),(zb0 _ _),(zb0 _ _),qds⟩,qds,qds⟩ ?_;refine sSM ?_;exact rHM h
 exact rHM h
def zb5(p0:S_api_Factor)(p1:Int):Option (S_api_Factor×Int):=
(zdj p0 p1).bind λr1=>
some (r1.1,r1.2)
theorem zjC{p1:Int}(h:zb5 p0 p1=some r):Lx.FnA mC 82 [(.agg [(fzE false (eI .i64) p0.vars),(fzE false (eI .i64) p0.zaf),(fzE false (eI .i64) p0.w)]),(dI p1)] (.tup [(.agg [(fzE false (eI .i64) r.1.vars),(fzE false (eI .i64) r.1.zaf),(fzE false (eI .i64) r.1.w)]),(dI r.2)]):=by
 refine zCt ?_;unfold zb5 at h;refine zad ?_;obtain⟨r1,g2,h⟩:=bsM h;refine sSM ?_;refine EvL.fnS (zhI g2) rfl rfl (.cons (Mzs.agg (.cons (zdw _ _ (λh=>by cases h<;>contradiction)) (.cons (zdw _ _ (λh=>by cases h<;>contradiction)) (.cons (zdw _ _ (λh=>by cases h<;>contradiction)) .nil)))) (.cons (.lit _) (.cons (Mzs.agg (.cons zqb .nil)) .nil))) ⟨⟨(zb0 _ _),(zb0 _ _),(zb0 _ _),qds⟩,qds,⟨⟨qds,qds⟩,qds⟩,qds⟩ ⟨⟨(zb0 _ _),(zb0 _ _),(zb0 _ _),qds⟩,qds,qds⟩ ?_;refine sSM ?_;exact rHM h
def zcB(r1:(S_factor_table×Int))(r4:Int)(p2:Int)(q21:Int):List (Int×Int×(List Int))->(List Int)->Option (List Int)
 | [],l5=>some l5
 | y31 :: ys,l5=>(
(zaE r1.1.steps r4).bind λx32=>
(zaE r1.1.factor.w (w64 (y31.2.1+(w64 (p2 * x32))))).bind λx34=>
(zaE l5 y31.1).bind λx36=>
(zeT l5 y31.1 x34).bind λy38=>
zcB r1 r4 p2 q21 ys y38)
def zcY(p0:S_api_Factor)(p1:Int)(p2:Int):Option (S_api_Factor×Int):=
(zbL p0).bind λr1=>
bif (r1.2 == 0)then(
(zas r1.1 p1).bind λr4=>
bif (decide (r4<0))then(
some ((S_api_Factor.mk [] [] []),4))
else(
((bif (decide (p2<0))then(
some true)
else(
(zaE r1.1.factor.zaf r4).bind λx8=>
some (decide (x8<=p2))):Option Bool)).bind λv42=>
bif v42 then(
some ((S_api_Factor.mk [] [] []),2))
else(
(zex 8 r1.1.factor.vars).bind λy11=>
(zwo y11 r4 (w64 (r4+1))).bind λy13=>
(zex 8 r1.1.factor.zaf).bind λy15=>
(zwo y15 r4 (w64 (r4+1))).bind λy17=>
(zaE r1.1.factor.zaf r4).bind λx19=>
(zkp .i64 (r1.1.factor.w.length:Int) x19).bind λq21=>
(zd7 8 q21 0).bind λy23=>
(zbl r1.1 y13).bind λr25=>
(zcc y17 r25).bind λr27=>
(zAB r27.1 r27.2).bind λu29=>
((zcB r1 r4 p2 q21 u29 y23:Option (List Int))).bind λl5=>
some ((S_api_Factor.mk y13 y17 l5),0))))
else(
some ((S_api_Factor.mk [] [] []),r1.2))
theorem znV{p1:Int}{p2:Int}(h:zcY p0 p1 p2=some r):Lx.Fn mC 77 [(.agg [(fzE false (eI .i64) p0.vars),(fzE false (eI .i64) p0.zaf),(fzE false (eI .i64) p0.w)]),(dI p1),(dI p2)] (.tup [(.agg [(fzE true (eI .i64) r.1.vars),(fzE true (eI .i64) r.1.zaf),(fzE true (eI .i64) r.1.w)]),(dI r.2)]):=by
 refine gnO ?_;unfold zcY at h;refine zad ?_;obtain⟨r1,g2,h⟩:=bsM h;refine sSM ?_;refine fDM (zdx g2) ?_;refine cBM h (λ_ h=>?_) λ_ h=>?_
 .exact rHM h
 obtain⟨r4,g5,h⟩:=bsM h;refine sSM ?_;refine fCM (zaW g5) ?_;cases c6:(decide (r4<0))
 .rw[c6,qdu]at h;refine sSM ?_;obtain⟨o1,j1,h⟩:=bsM h;refine usM [5,6,8,10] 5 (λa:Bool=>([(42,(dB a))],[(0,.gone)],[])) λT1 hT1=>?_
  refine EvL.jn T1 (λa=>a=o1) ?_ ?_
  .refine wSM ?_;refine cBM j1 (λ_ j1=>?_) λ_ j1=>?_
   .obtain⟨x8,g9,j1⟩:=bsM j1;refine sXM (ixM g9) ?_;exact zde j1 hT1
   exact zde j1 hT1
  rintro v42 rfl;refine wTM hT1 ?_;cases c10:v42
  .rw[c10,qdu]at h;obtain⟨y11,g12,h⟩:=bsM h;refine sSM ?_;refine EvL.clone (t:=false) (zs:=r1.1.factor.vars) g12 rfl rfl ?_;obtain⟨y13,g14,h⟩:=bsM h;refine sSM ?_;refine EvL.delete (zs:=y11) (t:=true) g14 rfl rfl rfl rfl rfl rfl ?_;refine EvL.zgB (S':=⟨100,[(5,(.ptr 1 0)),(6,(.ptr 2 0)),(8,(.ptr 3 0)),(10,(.ptr 4 0)),(51,(fzE true (eI .i64) y13))],[.gone,.cells [(dI p2)],.cells [zez,zez,zez],.cells [(fzE false (eI .i64) r1.1.factor.vars),(fzE false (eI .i64) r1.1.factor.zaf),(fzE false (eI .i64) r1.1.factor.w),(fzE false (eI .i64) r1.1.steps)],.cells [(dI r4)]]⟩) (zbi.m0 [.d,.k,.k,.k,.k,.f] rfl (msq (msq (msq (msq (mf rfl (znZ (xs:=y11) (ys:=y13) (t:=true) (zqK g14) rfl rfl rfl (λ_=>rfl)) trivial))))) ⟨rfl,⟨MB.cs ⟨qds,qds⟩,⟨MB.cs ⟨qds,qds,qds,qds⟩,⟨MB.cs ⟨qds,qds,qds,qds,qds⟩,⟨MB.cs ⟨qds,qds⟩,qds⟩⟩⟩⟩⟩) (zad ?_);obtain⟨y15,g16,h⟩:=bsM h;refine sSM ?_;refine EvL.clone (t:=false) (zs:=r1.1.factor.zaf) g16 rfl rfl ?_;obtain⟨y17,g18,h⟩:=bsM h;refine sSM ?_;refine EvL.delete (zs:=y15) (t:=true) g18 rfl rfl rfl rfl rfl rfl ?_;refine EvL.zgB (S':=⟨100,[(5,(.ptr 1 0)),(6,(.ptr 2 0)),(8,(.ptr 3 0)),(10,(.ptr 4 0)),(11,(fzE true (eI .i64) y13)),(59,(fzE true (eI .i64) y17))],[.gone,.cells [(dI p2)],.cells [zez,zez,zez],.cells [(fzE false (eI .i64) r1.1.factor.vars),(fzE false (eI .i64) r1.1.factor.zaf),(fzE false (eI .i64) r1.1.factor.w),(fzE false (eI .i64) r1.1.steps)],.cells [(dI r4)]]⟩) (zbi.m0 [.d,.k,.k,.k,.k,.f] rfl (msq (msq (msq (msq (msq (mf rfl (znZ (xs:=y15) (ys:=y17) (t:=true) (zqK g18) rfl rfl rfl (λ_=>rfl)) trivial)))))) ⟨rfl,⟨MB.cs ⟨qds,qds⟩,⟨MB.cs ⟨qds,qds,qds,qds⟩,⟨MB.cs ⟨qds,qds,qds,qds,qds⟩,⟨MB.cs ⟨qds,qds⟩,qds⟩⟩⟩⟩⟩) (zad ?_);obtain⟨x19,g20,q21,g22,y23,g24,h⟩:=zjp h;obtain⟨r25,g26,h⟩:=bsM h;refine sXM (anM (ixM g20) (anM (zfe g22) (anM (zfg g22) (anM ((zar g24).1.1) (anM ((zar g24).1.2) (anM @qbI (miM g24))))))) ?_;refine fCM (zc2 g26) ?_;obtain⟨r27,g28,h⟩:=bsM h;refine sSM ?_;refine fDM (zdh g28) ?_;obtain⟨u29,g30,o2,j2,h⟩:=zgs h;obtain⟨T2,hM2⟩:∃ T:(List Int)->List LB,T=(λa=>[.gone,.cells [(dI p2)],.cells [zez,zez,zez],.cells [(fzE false (eI .i64) r1.1.factor.vars),(fzE false (eI .i64) r1.1.factor.zaf),(fzE false (eI .i64) r1.1.factor.w),(fzE false (eI .i64) r1.1.steps)],.cells [(dI r4)],.els 1 (a.map ((eI .i64).c true)),.cells [(.sl 5 0 1 (Int.toNat q21) (some (Int.toNat q21)) (Int.toNat q21))]]):=⟨_,rfl⟩;refine EvL.zgB (S':=⟨100,[(5,(.ptr 1 0)),(6,(.ptr 2 0)),(8,(.ptr 3 0)),(10,(.ptr 4 0)),(11,(fzE true (eI .i64) y13)),(12,(fzE true (eI .i64) y17)),(13,(.ptr 6 0)),(76,(.clo 125 [] [(.fptr false ((eL (eI .i64)).c false r27.1)),(.fptr false ((eL (eI .i64)).c false r27.2))]))],T2 y23⟩) (by rw[hM2]; exact wm0 [.k,.k,.k,.k,.k,.k,.k] ⟨MB.same trivial,⟨MB.cs ⟨qds,qds⟩,⟨MB.cs ⟨qds,qds,qds,qds⟩,⟨MB.cs ⟨qds,qds,qds,qds,qds⟩,⟨MB.cs ⟨qds,qds⟩,⟨MB.es (eI .i64) true y23,⟨MB.cs ⟨rfl,qds⟩,qds⟩⟩⟩⟩⟩⟩⟩) ?_;refine EvL.zgF (n0:=7) (zcV g30) rfl (bm:=.block 1 (.reg true false [⟨some 79,.load none (.s 13),none⟩,⟨some 80,.mov (.s 14),none⟩,⟨some 81,.fld 0 (.s 8),none⟩,⟨some 82,.fld 2 (.s 81),none⟩,⟨some 83,.load none (.s 82),none⟩,⟨some 84,.mov (.s 15),none⟩,⟨some 85,.load none (.s 5),none⟩,⟨some 86,.fld 3 (.s 8),none⟩,⟨some 87,.load none (.s 86),none⟩,⟨some 88,.load none (.s 10),none⟩,⟨some 89,.idxS 1 (.s 87) (.s 88),none⟩,⟨some 90,.load none (.s 89),none⟩,⟨some 91,.bin .mul (.s 85) (.s 90),none⟩,⟨some 92,.bin .add (.s 84) (.s 91),none⟩,⟨some 93,.idxS 1 (.s 83) (.s 92),none⟩,⟨some 94,.load none (.s 93),none⟩,⟨some 95,.idxS 1 (.s 79) (.s 80),none⟩,⟨none,.store 1 (.s 95) (.s 94),none⟩])) rfl T2 (λi a=>zcB r1 r4 p2 q21 (u29.drop i) a=some o2/\a.length=(Int.toNat q21)) (λx L1=>match x with | .normal=>∃ a,o2=a/\a.length=(Int.toNat q21)/\L1=T2 a | .ret=>L1.length=7/\zdo (7+1) L1/\(zjI [.cell 6 (some 3),.tmp 7] ((.tup [(.agg [(fzE true (eI .i64) r.1.vars),(fzE true (eI .i64) r.1.zaf),(fzE true (eI .i64) r.1.w)]),(dI r.2)]))) .ret ⟨100,[(5,(.ptr 1 0)),(6,(.ptr 2 0)),(8,(.ptr 3 0)),(10,(.ptr 4 0)),(11,(fzE true (eI .i64) y13)),(12,(fzE true (eI .i64) y17)),(13,(.ptr 6 0)),(76,(.clo 125 [] [(.fptr false ((eL (eI .i64)).c false r27.1)),(.fptr false ((eL (eI .i64)).c false r27.2))]))],L1 ++ [.lost]⟩| _=>False) y23 ?_ (qau _) ?_ ?_ ?_ (λd L1 hx=>hx.elim) ?_ ?_ ?_ ?_ ?_ ?_
   .intro a; rw[hM2]; rfl
   .exact⟨(qad rfl),(qad rfl),(qad rfl),(qad rfl),qds,qds,(qad rfl),⟨qds,⟨qds,qds,qds⟩⟩,qds⟩
   .intro a; rw[hM2]; exact⟨qds,⟨qds,qds⟩,⟨qds,qds,qds,qds⟩,⟨qds,qds,qds,qds,qds⟩,⟨qds,qds⟩,(zdU (eI .i64) _ _ _),⟨(qad rfl),qds⟩,qds⟩
   .intro x L1 hx;cases x with
    | normal=>obtain⟨a,_,_,rfl⟩:=hx; exact⟨by rw[hM2]; rfl,by rw[hM2]; exact⟨qds,⟨qds,qds⟩,⟨qds,qds,qds,qds⟩,⟨qds,qds,qds,qds,qds⟩,⟨qds,qds⟩,(zdU (eI .i64) _ _ _),⟨(qad rfl),qds⟩,qds⟩⟩
    | ret=>exact⟨hx.1,hx.2.1⟩
    | exit id=>exact hx.elim
    | panic d=>exact hx.elim
   .exact⟨j2,zbh g24⟩
   .rintro i l5 y31 args G lpF hy ⟨hi2,el5⟩ ⟨rfl,rfl⟩ hkin;rw[zf7 hy]at hi2;simp only[zcB]at hi2;refine⟨_,_,rfl,rfl,?_⟩;rw[congrFun hM2 l5];refine zad ?_;obtain⟨x32,g33,x34,g35,x36,g37,hi2⟩:=zjp hi2;obtain⟨y38,g39,hi2⟩:=bsM hi2;refine sXM (anM (ixM g33) (anM (ixM g35) (anM el5 (anM (za2 g37) (anM (ltM el5 g37) (anM (giM g37) (siM g39))))))) ?_;exact⟨T2 y38,by rw[hM2]; rfl,by rw[hM2]; exact zbi.mK [.k,.k,.k,.k,.k,.k,.k,.k,.k] rfl rfl qds ⟨MB.same trivial,⟨MB.cs ⟨qds,qds⟩,⟨MB.cs ⟨qds,qds,qds,qds⟩,⟨MB.cs ⟨qds,qds,qds,qds,qds⟩,⟨MB.cs ⟨qds,qds⟩,⟨MB.es (eI .i64) true y38,⟨MB.cs ⟨rfl,qds⟩,⟨.same (hkin _ (by decide)),⟨MB.same (zeM _ _ _ _),qds⟩⟩⟩⟩⟩⟩⟩⟩⟩,y38,⟨hi2,(zaS g39).trans el5⟩,rfl⟩
   .rintro l5 ⟨hi2,el5⟩;rw[qbB]at hi2;simp only[zcB]at hi2;exact⟨l5,(qaf hi2).symm,el5,rfl⟩
   .rintro _ ⟨l5,oeq,el5,rfl⟩;have oeq2:=oeq.symm;subst oeq2;rw[congrFun hM2 l5];refine wSM ?_;exact rHM h
   .intro id L1 hx; exact hx.elim
   intro L1 hx; exact hx.2.2
  rw[c10,qdt]at h;refine sSM ?_;exact rHM h
 rw[c6,qdt]at h;refine sSM ?_;exact rHM h
def zci(p0:S_api_Factor):Option (Int×Int):=
(zbL p0).bind λr1=>
bif (r1.2 == 0)then(
(za4 r1.1 []).bind λr4=>
bif (r4.2 == 0)then(
(zaE r4.1.w 0).bind λx7=>
some (x7,0))
else(
some (0,r4.2)))
else(
some (0,r1.2))
theorem zkj{r:(Int×Int)}(h:zci p0=some r):Lx.Fn mC 69 [(.agg [(fzE false (eI .i64) p0.vars),(fzE false (eI .i64) p0.zaf),(fzE false (eI .i64) p0.w)])] (.tup [(dI r.1),(dI r.2)]):=by
 refine gnO ?_;unfold zci at h;refine zad ?_;obtain⟨r1,g2,h⟩:=bsM h;refine sSM ?_;refine fDM (zdx g2) ?_;refine cBM h (λ_ h=>?_) λ_ h=>?_
 .exact rHM h
 obtain⟨r4,g5,h⟩:=bsM h;refine sSM ?_;refine EvL.fnS (zdr g5) rfl rfl (.cons (Mzs.agg (.cons (zdw _ _ (λh=>by cases h<;>contradiction)) (.cons (zdw _ _ (λh=>by cases h<;>contradiction)) (.cons (zdw _ _ (λh=>by cases h<;>contradiction)) (.cons (zdw _ _ (λh=>by cases h<;>contradiction)) .nil))))) (.cons (zjm (eI .i64)) (.cons (Mzs.agg (.cons zqb .nil)) .nil))) ⟨⟨(zb0 _ _),(zb0 _ _),(zb0 _ _),(zb0 _ _),qds⟩,(zb0 _ _),⟨⟨qds,qds⟩,qds⟩,qds⟩ ⟨⟨(zb0 _ _),(zb0 _ _),(zb0 _ _),qds⟩,qds,qds⟩ ?_;refine sSM ?_;refine cBM h (λ_ h=>?_) λ_ h=>?_
 .exact rHM h
 obtain⟨x7,g8,h⟩:=bsM h;refine sXM (ixM g8) ?_;exact rHM h
end Go.Dc
