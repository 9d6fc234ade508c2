/-
 weigh.Combinations: a closure over the cards; as a generator: the numbers of all combinations, each with its values. Conditions: none.
-/
import Derived.Test.YtbjogdohfhdaiaaCkHGn
import Derived.Test.YtbjogdohfhdaiaaCkQt
set_option linter.unusedSimpArgs false
set_option linter.unusedVariables false
set_option maxRecDepth 100000
set_option maxHeartbeats 4000000
set_option maxHeartbeats 8000000
namespace Go.Dc
open Go Go.Mx Go.Lx Go.Proofs
def zeK(cards:List Int):Option (List Int):=some cards
variable{L:List LB}
theorem zwL{α:Type}{β:Nat}(e:En α)(x:α)(h:L[β]? = some (.cells (e.c false x))):Snp L false (.ptr β 0) (.fptr false (e.c false x)):=
 .ptr h (by omega) λk d d' h3 h4=>by
  rw[qaT]at h3;exact(e.snp (L:=L) (t:=false) (t':=false) x id).get k d d' h3 h4
variable{cards:List Int}
theorem zew{r:List Int}(h:zeK cards=some r):
  Lx.FnA mC 132 [fzE false (eI .i64) cards] (.clo 149 [] [.fptr false ((eL (eI .i64)).c false r)]):=by
 cases h;refine zwt ?_;refine zab ?_;simp only[rnA,Nat.reduceEqDiff,Nat.reduceLT,reduceCtorEq];exact zqs.ret rfl (.clo rfl rfl (Snps.get .nil) (Snps.get (.cons (zwL (eL (eI .i64)) cards rfl) .nil)))
def zgR(cards:List Int):Nat->List Int->Option (List Int×Int)
 | 0,vals=>some (vals,-1)
 | k+1,vals=>(zaH vals (k:Int)).bind λv=>(zaH cards (k:Int)).bind λc=>bif v == w64 (c - 1)then(zfU vals (k:Int) 0).bind λvals'=>zgR cards k vals' else some (vals,(k:Int))
def ztx(cards:List Int):Nat->List Int->Int->Option (List (Int×List Int))
 | 0,_,_=>none
 | n+1,vals,i=>(zgR cards cards.length vals).bind λr=>bif decide (r.2<0)then some [(i,vals)]else
   (zaH r.1 r.2).bind λv=>(zfU r.1 r.2 (w64 (v+1))).bind λvals'=>(ztx cards n vals' (w64 (i+1))).map λl=>(i,vals):: l
def zvk(cards:List Int):Option (List (Int×List Int)):=(zh6 cards).bind λ_=>(zfN 8 (cards.length:Int) 0).bind λz=>ztx cards ((cards.foldl (· * ·) 1).toNat) z 0
theorem mapM_some{α β:Type}{o:Option α}{f:α->β}{b:β}(h:o.map f=some b):∃ a,o=some a/\b=f a:=by
 cases o with
 | none=>cases h
 | some a=>cases h; exact⟨a,rfl,rfl⟩
theorem zq1{n:Nat}(h:L.length=n)(x:LB):(L ++ [x])[n]? = some x:=by subst h; simp
theorem zql{n:Nat}(h:L.length=n)(x y:LB):(L ++ [x]).set n y=L ++ [y]:=by subst h; simp
theorem zd2{u:List (Int×List Int)}(hu:zvk cards=some u):
  Gen mC 149 [] [.fptr false ((eL (eI .i64)).c false cards)] u (λy n0 args G=>args=[dI y.1,.sl n0 0 1 y.2.length (some y.2.length) y.2.length]/\G=[.els 1 (y.2.map ((eI .i64).c true))]):=by
 intro n0 β P Ps hβ hlen hround L hP;refine gnL ?_;obtain⟨_,hsm,hu⟩:=bind_some hu;obtain⟨z,hz,hv⟩:=bind_some hu;have hL:=hlen _ _ hP;have hm:IntKind.i64.wrap ((cards.length:Int) - 1)=(cards.length:Int) - 1:=by
  have:=zgJ hsm;exact wrap64 (by omega) (by omega)
 refine zab ?_;simp only[rnA,Nat.reduceEqDiff,Nat.reduceLT,Nat.reduceAdd,reduceCtorEq,zaf,(zbv hz).1.1,(zbv hz).1.2,qbN,qaH,(show List.replicate cards.length [(dI 0)]=z.map ((eI .i64).c true)from(zdd hz ((eI .i64).c true)))];refine EvL.scope (zab ?_);simp only[rnA];rw[hL];refine EvL.loop (α:=Nat×Nat×List Int×Int×List LB) (λa=>⟨45,[(0,.yld β),(1,.fptr false ((eL (eI .i64)).c false cards)),(3,.sl n0 0 1 cards.length (some cards.length) cards.length),(4,dI a.2.2.2.1)],a.2.2.2.2 ++ [.els 1 (a.2.2.1.map ((eI .i64).c true))]⟩)
  (λa=>P a.2.1 a.2.2.2.2/\ztx cards a.1 a.2.2.1 a.2.2.2.1=some (u.drop a.2.1)/\a.2.2.1.length=cards.length) (λa=>a.1) ((cards.foldl (· * ·) 1).toNat,0,z,0,L) (by refine zbQ.sub ?_; exact⟨rfl,rfl,rfl,rfl,qcD⟩) ⟨hP,hv,by rw[zdg hz,qaH]⟩ ?_
 rintro⟨n,j,vals,i,L'⟩ ⟨hPi,hvk,hvl⟩;simp only at hPi hvk hvl;cases n with
 | zero=>cases hvk
 | succ n=>
 unfold ztx at hvk;obtain⟨⟨vals1,kk⟩,hc,hvk⟩:=bind_some hvk;simp only at hvk;have hul:∃ r,u.drop j=(i,vals):: r:=by
  cases hk:decide (kk<0)with
  | true=>rw[hk,qcE]at hvk; exact⟨[],(qaa hvk).symm⟩
  | false=>
   rw[hk,qcF]at hvk;obtain⟨v,_,hvk⟩:=bind_some hvk;obtain⟨vals2,_,hvk⟩:=bind_some hvk;obtain⟨l,_,hl⟩:=mapM_some hvk;exact⟨l,hl⟩
 obtain⟨r,hul⟩:=hul;have hj:j<u.length:=by
  refine Nat.lt_of_not_le λhn=>?_
  rw[qas hn]at hul;cases hul
 have huj:u[j]? = some (i,vals):=by
  rw[qan hj]at hul;rw[qae hj,(List.cons.inj hul).1]
 have hur:u.drop (j+1)=r:=by
  rw[qan hj]at hul;exact(List.cons.inj hul).2
 refine zab ?_;simp only[rnA,Nat.reduceEqDiff,Nat.reduceLT,reduceCtorEq];refine EvL.yield rfl rfl rfl (hround j (i,vals) L' _ [.els 1 (vals.map ((eI .i64).c true))] huj hPi ⟨by rw[hvl],rfl⟩) ?_;rintro b L2 ⟨L1,rfl,hl1,hb⟩;cases b with
 | false=>
  simp only[rnA,Nat.reduceEqDiff,Nat.reduceLT,reduceCtorEq];exact⟨[],rfl,L1,_,rfl,hl1,.inr hb⟩
 | true=>
 have hga:=zq1 hl1;have hsa:=zql hl1;simp only[rnA,Nat.reduceEqDiff,Nat.reduceLT,reduceCtorEq,zaf,hm];refine EvL.jn (λa:List Int×Int=>⟨45,[(0,.yld β),(1,.fptr false ((eL (eI .i64)).c false cards)),(3,.sl n0 0 1 cards.length (some cards.length) cards.length),(4,dI i),(5,dI a.2)],L1 ++ [.els 1 (a.1.map ((eI .i64).c true))]⟩) (λa=>a=(vals1,kk)/\a.1.length=cards.length) ?_ ?_
 .refine zab ?_;simp only[rnA];refine EvL.loop (α:=Nat×List Int) (λa=>⟨45,[(0,.yld β),(1,.fptr false ((eL (eI .i64)).c false cards)),(3,.sl n0 0 1 cards.length (some cards.length) cards.length),(4,dI i),(5,dI ((a.1:Int) - 1))],L1 ++ [.els 1 (a.2.map ((eI .i64).c true))]⟩)
   (λa=>zgR cards a.1 a.2=some (vals1,kk)/\a.2.length=cards.length/\a.1<=cards.length) (λa=>a.1) (cards.length,vals) (by refine zbQ.sub ?_; exact⟨rfl,rfl,rfl,rfl,rfl,qcD⟩) ⟨hc,hvl,qam _⟩ ?_
  rintro⟨f,vs⟩ ⟨hf,hvs,hfl⟩;simp only at hf hvs hfl;refine zab ?_;simp only[rnA];cases f with
  | zero=>
   cases hf;refine EvL.scope (zab ?_);have hk:((0:Nat):Int) - 1 = -1:=rfl;simp only[rnA,Nat.reduceEqDiff,Nat.reduceLT,Int.reduceLE,reduceCtorEq,hk];exact⟨_,⟨rfl,hvs⟩,zbQ.sub ⟨rfl,rfl,rfl,rfl,rfl,qcD⟩⟩
  | succ f=>
   have hk:((f+1:Nat):Int) - 1=(f:Int):=by omega
   have hk0:(0:Int)<=(f:Int):=by omega
   unfold zgR at hf;obtain⟨v,q1,hf⟩:=bind_some hf;obtain⟨c,q2,hf⟩:=bind_some hf;refine EvL.scope (zab ?_);cases hb:(v == w64 (c - 1))with
   | false=>
    rw[hb,qcF]at hf;cases hf;simp only[rnA,Nat.reduceEqDiff,Nat.reduceLT,reduceCtorEq,hk,hk0,hga,hvs,(show(f:Int)<((cards.length:Nat):Int)from hvs ▸ zbg q1),zaC q1 ((eI .i64).c true),zai (n:=1) (e:=eI .i64) rfl q2,hb];exact⟨_,⟨rfl,hvs⟩,zbQ.sub ⟨rfl,rfl,rfl,rfl,rfl,qcD⟩⟩
   | true=>
    rw[hb,qcE]at hf;obtain⟨vs',q4,hf⟩:=bind_some hf;have hw:IntKind.i64.wrap ((f:Int) - 1)=(f:Int) - 1:=by
     have:=zgJ hsm;exact wrap64 (by omega) (by omega)
    simp only[rnA,Nat.reduceEqDiff,Nat.reduceLT,Nat.reduceLeDiff,reduceCtorEq,hk,hk0,hga,hsa,hvs,(show(f:Int)<((cards.length:Nat):Int)from hvs ▸ zbg q1),zaC q1 ((eI .i64).c true),zai (n:=1) (e:=eI .i64) rfl q2,hb,(show(vs.map ((eI .i64).c true)).set (f:Int).toNat [dI 0]=vs'.map ((eI .i64).c true)from zbR q4 ((eI .i64).c true)),hw];exact⟨(f,vs'),⟨hf,by rw[zbE q4]; exact hvs,by omega⟩,qbt f,zbQ.sub ⟨rfl,rfl,rfl,rfl,rfl,qcD⟩⟩
 rintro a ⟨rfl,hvs⟩;simp only at hvs;refine zab ?_;cases hk:decide (kk<0)with
 | true=>
  rw[hk,qcE]at hvk;simp only[rnA,Nat.reduceEqDiff,Nat.reduceLT,reduceCtorEq,hk];have h1:u.length=j+1:=by
   have h2:=qaa hvk;have h3:u.drop (j+1)=[]:=by
    rw[hur];rw[<- h2]at hul;exact(List.cons.inj hul).2.symm
   have h4:=List.drop_eq_nil_iff.1 h3;omega
  exact⟨[],rfl,L1,_,rfl,hl1,.inl (by rw[h1]; exact hb)⟩
 | false=>
  rw[hk,qcF]at hvk;obtain⟨v,q1,hvk⟩:=bind_some hvk;obtain⟨vals2,q2,hvk⟩:=bind_some hvk;obtain⟨l,q4,hl⟩:=mapM_some hvk;simp only[rnA,Nat.reduceEqDiff,Nat.reduceLT,Nat.reduceLeDiff,reduceCtorEq,hk,hga,hsa,hvs,zbh q1,(show kk<((cards.length:Nat):Int)from hvs ▸ zbg q1),zaC q1 ((eI .i64).c true),(show(vals1.map ((eI .i64).c true)).set kk.toNat [dI (w64 (v+1))]=vals2.map ((eI .i64).c true)from zbR q2 ((eI .i64).c true))];refine⟨(n,j+1,vals2,w64 (i+1),L1),⟨hb,?_,by rw[zbE q2]; exact hvs⟩,qbt n,zbQ.sub ⟨rfl,rfl,rfl,rfl,qcD⟩⟩;simp only;rw[q4,hur];rw[hul]at hl;rw[(List.cons.inj hl).2]
def vC(x:List Int)(i:Nat):D:=dU (x.getD i 0)
theorem zpK{L:List LB}{t':Bool}(x:List Int):∀ l:List Nat,Snps L t' (l.map (vC x)) (l.map (vC x))
 | []=>.nil
 | _ :: r=>.cons (.lit _) (zpK x r)
theorem zrM(x:List Int):∀ l:List Nat,D.frs (l.map (vC x))
 | []=>trivial
 | _ :: r=>⟨qcD,zrM x r⟩
theorem znW(kp:Nat->Bool)(x:List Int):∀ l:List Nat,D.zfY kp (l.map (vC x))
 | []=>trivial
 | _ :: r=>⟨qcD,znW kp x r⟩
def e16:En (List Int) where
 n:=16
 c _ x:=(List.range 16).map (vC x)
 pos:=by decide
 len _ _:=by simp
 snp x _:=zpK x _
 mz x _ i d d' h1 h2:=by
  rw[h1]at h2; cases h2;obtain⟨k,_,rfl⟩:=qbf.1 (qay h1);exact .lit _
 fr x:=zrM x _
 kin kp t x:=znW kp x _
def z16:List Int:=List.replicate 16 0
variable{t:Bool}{x:List Int}
theorem zda:(e16.c t x).length=16:=e16.len t x
theorem zwe:([dU 0,dU 0,dU 0,dU 0,dU 0,dU 0,dU 0,dU 0,dU 0,dU 0,dU 0,dU 0,dU 0,dU 0,dU 0,dU 0]:List D)=e16.c t z16:=rfl
theorem zev{i w:Int}(hx:x.length=16)(h:zaH x i=some w):(e16.c t x)[i.toNat]? = some (dU w):=by
 have h1:=zaC h λy=>y
 rw[qbJ]at h1;have hi:i.toNat<16:=hx ▸ (qac.1 h1).1;show((List.range 16).map (vC x))[i.toNat]? = _;rw[qaR,qbu hi];simp[vC,qak,h1]
theorem ziY{y:List Int}{i w:Int}(hx:x.length=16)(h:zfU x i w=some y):zkW (e16.c t x) i.toNat [dU w]=e16.c t y:=by
 have h1:=zbR h λy=>y
 rw[qbJ,qbJ]at h1;subst h1;obtain⟨h0,h2⟩:0<=i/\i<x.length:=by
  unfold zfU at h;split at h
  .assumption
  cases h
 have hi:i.toNat<16:=by omega
 refine qb7 λj=>?_
 show((e16.c t x).take i.toNat ++ [dU w]++ (e16.c t x).drop (i.toNat+1))[j]? =((List.range 16).map (vC (x.set i.toNat w)))[j]?;have hl:(e16.c t x).length=16:=zda;have hg:∀ k:Nat,(e16.c t x)[k]? =((List.range 16).map (vC x))[k]?:=λk=>rfl
 by_cases hj:j<16
 .rw[qaR,qbu hj,qaD];rcases Nat.lt_trichotomy j i.toNat with h3 | h3 | h3
  .rw[qbe,qaj (by simp[hl]; omega),qat,if_pos h3,hg,qaR,qbu hj,qaD];simp[vC,qak,qal (by omega:i.toNat≠j)]
  .subst h3;rw[qbe,qap (by simp[hl]; omega)];simp[hl,qbB (Nat.le_of_lt hj),vC,qak,qaz (show i.toNat<x.length by omega)]
  rw[qap (by simp[hl]; omega),qau,hg];have:i.toNat+1+(j - ((e16.c t x).take i.toNat ++ [dU w]).length)=j:=by simp[hl]; omega
  rw[this,qaR,qbu hj,qaD];simp[vC,qak,qal (by omega:i.toNat≠j)]
 rw[qaJ (by simp[hl]; omega),qaJ (by simp; omega)]
def zhY(x:List Int)(i:Int):Option (List Int):=
 (zny .u64 1 (i.tmod 64)).bind λb=>(zaH x (w64 (i.tdiv 64))).bind λw=>zfU x (w64 (i.tdiv 64)) (orI .u64 w b)
def zhv(rows:List (List (List Int)))(v x i:Int):Option (List (List (List Int))):=
 (zaH rows v).bind λrow=>(zaH row x).bind λip=>(zhY ip i).bind λip'=>(zfU row x ip').bind λrow'=>zfU rows v row'
def zrH(i:Int)(vals:List Int):Nat->Int->List (List (List Int))->Option (List (List (List Int)))
 | 0,_,_=>none
 | n+1,v,rows=>bif decide (v<(vals.length:Int))then(zaH vals v).bind λx=>(zhv rows v x i).bind λrows'=>zrH i vals n (w64 (v+1)) rows' else some rows
def zrC:List (Int×List Int)->List (List (List Int))->Option (List (List (List Int)))
 | [],rows=>some rows
 | y :: ys,rows=>(zrH y.1 y.2 (y.2.length+2) 0 rows).bind λrows'=>zrC ys rows'
def zdI:List Int->Option (List (List (List Int)))
 | []=>some []
 | k :: ks=>(zfN 128 k z16).bind λr=>(zdI ks).map λl=>r :: l
def zaL(cards:List Int):Option (List (List (List Int))):=
 (zh6 cards).bind λ_=>(zfN 24 (cards.length:Int) ([]:List (List Int))).bind λ_=>(zdI cards).bind λrows=>(zvk cards).bind λu=>zrC u rows
theorem zeY:∀ {cards:List Int} {rows:List (List (List Int))},zdI cards=some rows->rows.length=cards.length
 | [],rows,h=>by cases h; rfl
 | k :: ks,rows,h=>by
  unfold zdI at h;obtain⟨r,_,h⟩:=bind_some h;obtain⟨l,hl,rfl⟩:=mapM_some h;simp[zeY hl]
theorem ze5:∀ {cards:List Int} {rows:List (List (List Int))},zdI cards=some rows->∀(v:Nat) (h1:v<cards.length) (h2:v<rows.length),zfN 128 cards[v] z16=some rows[v]
 | [],rows,h,v,h1,_=>by simp at h1
 | k :: ks,rows,h,v,h1,h2=>by
  unfold zdI at h;obtain⟨r,hr,h⟩:=bind_some h;obtain⟨l,hl,rfl⟩:=mapM_some h;cases v with
  | zero=>exact hr
  | succ v=>exact ze5 hl v (by simpa using h1) (by simpa using h2)
def slR:Nat->List Nat->List (List D)
 | _,[]=>[]
 | b,k :: r=>[.sl b 0 16 k (some k) k]:: slR (b+1) r
theorem zfa:∀(cs:List Nat) (b:Nat),(slR b cs).length=cs.length
 | [],_=>rfl
 | k :: r,b=>by simp[slR,zfa r]
theorem zp3:∀(cs:List Nat) (b v:Nat) (h:v<cs.length),(slR b cs)[v]? = some [.sl (b+v) 0 16 cs[v] (some cs[v]) cs[v]]
 | [],_,v,h=>by simp at h
 | k :: r,b,0,_=>by simp[slR]
 | k :: r,b,v+1,h=>by
  simp only[slR,qa6,List.getElem_cons_succ];rw[zp3 r (b+1) v (by simpa using h),show b+1+v=b+(v+1) by omega]
theorem zoV:∀(cs:List Nat) (b k:Nat),slR b (cs ++ [k])=slR b cs ++ [[.sl (b+cs.length) 0 16 k (some k) k]]
 | [],b,k=>by simp[slR]
 | x :: r,b,k=>by
  simp only[slR,qaY,qaS];rw[zoV r (b+1) k,show b+1+r.length=b+(r.length+1) by omega]
theorem zrA{n:Nat}:∀(cs:List Nat) (b:Nat),b+cs.length<=n->∀ cells∈slR b cs,D.scs n cells
 | [],b,_,cells,h=>by simp[slR]at h
 | k :: r,b,hb,cells,h=>by
  simp only[slR,qbg,qaS]at h hb;rcases h with rfl | h
  .exact⟨by show b<n; omega,qcD⟩
  exact zrA r (b+1) (by omega) cells h
def znA(r:List (List Int)):LB:=.els 16 (r.map (e16.c true))
def zht(n:Nat):LB:=.cells [.sl 0 0 1 n (some n) n]
def zkG(rows:List (List (List Int)))(v:Nat):List LB:=.els 1 (slR 2 ((rows.take v).map List.length)++ List.replicate (rows.length - v) [zcu]):: zht rows.length ::(rows.take v).map znA
def zf9(ls:List Nat)(rows:List (List (List Int))):List LB:=.els 1 (slR 2 ls):: zht ls.length :: rows.map znA
section
variable {rows:List (List (List Int))} {ls:List Nat}
variable{v:Nat}
theorem zrx(hv:v<=rows.length):(zkG rows v).length=2+v:=by simp[zkG]; omega
theorem zqI(v:Nat)(X:List LB):(zkG rows v ++ X)[1]? = some (zht rows.length):=rfl
theorem zrc(v:Nat)(X:List LB):(zkG rows v ++ X)[0]? = some (.els 1 (slR 2 ((rows.take v).map List.length)++ List.replicate (rows.length - v) [zcu])):=rfl
theorem zp2(hv:v<rows.length):(zkG rows v ++ [znA rows[v]]).set 0 (.els 1 ((slR 2 ((rows.take v).map List.length)++ List.replicate (rows.length - v) [zcu]).set v [.sl (2+v) 0 16 rows[v].length (some rows[v].length) rows[v].length]))=zkG rows (v+1):=by
 have hl:(slR 2 ((rows.take v).map List.length)).length=v:=by rw[zfa]; simp; omega
 have h1:rows.length - v=(rows.length - (v+1))+1:=by omega
 unfold zkG;rw[qaY,qaY,qbS,List.take_succ_eq_append_getElem hv,qco,qaI,List.map_nil,zoV,qco,qb6 _ _ (by omega),hl,qcg,h1,qbc,qbS];simp[qbB (Nat.le_of_lt hv)]
theorem zqq(hl:rows.map List.length=ls):zkG rows rows.length=zf9 ls rows:=by
 unfold zkG zf9;subst hl;simp
theorem zfE(hr:rows.length=ls.length):(zf9 ls rows).length=2+ls.length:=by simp[zf9,hr]; omega
theorem zmk(hv:v<rows.length)(X:List LB):(zf9 ls rows ++ X)[2+v]? = some (znA rows[v]):=by
 unfold zf9;rw[show 2+v=v+1+1 by omega,qaY,qaY,qa6,qa6,qaj (by simpa using hv)];simp[hv]
theorem zqX(hv:v<rows.length)(r:List (List Int))(X:List LB):(zf9 ls rows ++ X).set (2+v) (znA r)=zf9 ls (rows.set v r)++ X:=by
 unfold zf9;rw[show 2+v=v+1+1 by omega,qaY,qaY,qcp,qcp,qcB _ _ (by simpa using hv)];simp
theorem zs4(n:Nat)(r:List (List Int)):LB.sc n (znA r):=zuX e16 _ _ _
theorem zhV{n:Nat}:∀(rows:List (List (List Int))),zff n (rows.map znA)
 | []=>trivial
 | r :: rows=>⟨zs4 n r,zhV rows⟩
theorem zp0{n:Nat}(hn:2+ls.length<=n)(rows:List (List (List Int))):zff n (zf9 ls rows):=⟨λcells h=>zrA ls 2 hn cells h,⟨by show 0<n; omega,qcD⟩,zhV rows⟩
end
structure LOk (ls:List Nat) (rows:List (List (List Int))):Prop where
 len:rows.map List.length=ls
 w:∀ row∈rows,∀ ip∈row,ip.length=16
theorem LOk.ln{ls:List Nat}{rows:List (List (List Int))}(h:LOk ls rows):rows.length=ls.length:=by rw[<- h.len,qck]
variable{i:Int}
theorem zm7{x y:List Int}(h:zhY x i=some y):y.length=x.length:=by
 unfold zhY at h;obtain⟨_,_,h⟩:=bind_some h;obtain⟨_,_,h⟩:=bind_some h;exact zbE h
variable{α:Type}{xs:List α}
theorem zim{ys:List α}{x:α}(h:zfU xs i x=some ys):ys=xs.set i.toNat x:=by
 have h1:=zbR h λy=>y
 rw[qbJ,qbJ]at h1;exact h1.symm
theorem LOk.put{ls:List Nat}{rows rows':List (List (List Int))}{v x:Int}(h:LOk ls rows)(hp:zhv rows v x i=some rows'):LOk ls rows':=by
 unfold zhv at hp;obtain⟨row,g1,hp⟩:=bind_some hp;obtain⟨ip,g2,hp⟩:=bind_some hp;obtain⟨ip',g3,hp⟩:=bind_some hp;obtain⟨row',g4,hp⟩:=bind_some hp;have hr:=qay (by have:=zaC g1 λy=>y; rwa [qbJ]at this);have hi:=qay (by have:=zaC g2 λy=>y; rwa [qbJ]at this);have e1:=zim hp;have e2:=zim g4;constructor
 .rw[e1,qcf,zbE g4,<- h.len];refine qb7 λj=>?_
  have h1:=zaC g1 List.length;by_cases hj:v.toNat=j
  .subst hj;rw[h1,qaz (qac.1 h1).1]
  rw[qal hj]
 intro a ha b hb;rw[e1]at ha;rcases qbn ha with ha | rfl
 .exact h.w a ha b hb
 rw[e2]at hb;rcases qbn hb with hb | rfl
 .exact h.w row hr b hb
 rw[zm7 g3]; exact h.w row hr ip hi
theorem zoU{ls:List Nat}{i:Int}{vals:List Int}:∀(n:Nat) (v:Int) (rows rows':List (List (List Int))),LOk ls rows->zrH i vals n v rows=some rows'->LOk ls rows'
 | 0,_,_,_,_,h=>nomatch h
 | n+1,v,rows,rows',hl,h=>by
  unfold zrH at h;cases hc:decide (v<(vals.length:Int))with
  | false=>rw[hc,qcF]at h; cases h; exact hl
  | true=>
   rw[hc,qcE]at h;obtain⟨x,_,h⟩:=bind_some h;obtain⟨r1,g,h⟩:=bind_some h;exact zoU n _ _ _ (hl.put g) h
variable{cards:List Int}
theorem zhB{rows:List (List (List Int))}(h:zdI cards=some rows):LOk (rows.map List.length) rows:=by
 refine⟨rfl,λrow hr ip hi=>?_⟩;obtain⟨v,hv,rfl⟩:=List.getElem_of_mem hr;have h1:=ze5 h v (by rw[<- zeY h]; exact hv) hv;have h2:rows[v]=List.replicate (rows[v]).length z16:=by
  have:=zdd h1 λy=>y
  rw[qbJ,<- zdg h1]at this;exact this.symm
 rw[h2]at hi;rw[(qcn.1 hi).2];rfl
theorem zrU{L:List LB}:∀(rows:List (List (List Int))) (b:Nat),(∀ v (h:v<rows.length),L[b+v]? = some (znA rows[v]))->Pw (Snp L true) (slR b (rows.map List.length)) (rows.map ((eL e16).c true))
 | [],b,_=>.nil
 | r :: rs,b,h=>.cons rfl (λj d d' h1 h2=>by
   obtain⟨rfl,rfl⟩:=zjd h1 h2
   exact zaz (e:=e16) (t:=true) rfl (.inl (h 0 (Nat.zero_lt_succ _))) rfl rfl (λk h=>by cases h; exact qam _) λ_=>rfl) (zrU rs (b+1) λv hv=>by rw[show b+1+v=b+(v+1) by omega]; exact h (v+1) (Nat.succ_lt_succ hv))
theorem ze1{r:List (List (List Int))}(h:zaL cards=some r):Lx.Fn mC 102 [fzE false (eI .i64) cards] (fzE true (eL e16) r):=by
 refine gnO ?_;unfold zaL at h;obtain⟨_,hsm,h⟩:=bind_some h;obtain⟨_,hmk,h⟩:=bind_some h;obtain⟨rows,hrw,h⟩:=bind_some h;obtain⟨u,hu,h⟩:=bind_some h;have hlr:=zeY hrw;have hsl:=zgJ hsm;refine zab ?_;simp only[rnA,Nat.reduceEqDiff,Nat.reduceLT,Nat.reduceLeDiff,reduceCtorEq,zaf,(zbv hmk).1.1,(zbv hmk).1.2,qbN,qaH];refine EvL.jn (λa:Unit=>⟨55,[(0,fzE false (eI .i64) cards),(3,.ptr 1 0)],zf9 (rows.map List.length) rows⟩) (λ_=>True) ?_ ?_
 .refine zab ?_;simp only[rnA];refine EvL.loop (α:=Nat) (λv=>⟨55,[(0,fzE false (eI .i64) cards),(3,.ptr 1 0),(13,fzE false (eI .i64) cards),(14,dI cards.length),(15,dI v)],zkG rows v⟩) (λv=>v<=rows.length) (λv=>rows.length - v) 0 ?_ (qaA _) ?_
  .have e0:([.els 1 (List.replicate cards.length [zcu]),.cells [.sl 0 0 1 cards.length (some cards.length) cards.length]]:List LB)=zkG rows 0:=by simp[zkG,slR,zht,hlr]
   rw[e0];exact zbQ.sub ⟨rfl,rfl,rfl,rfl,rfl,qcD⟩
  intro v hv;refine zab ?_;by_cases hv2:v<cards.length
  .have hlt:decide ((v:Int)<(cards.length:Int))=true:=qcG (by omega);have hw2:IntKind.i64.wrap ((v:Int)+1)=((v+1:Nat):Int):=by rw[wrap64 (by omega) (by omega)]; rfl
   have hv3:v<rows.length:=by omega
   have hmv:=ze5 hrw v hv2 hv3;have hk:=zbv hmv;have hkl:cards[v].toNat=rows[v].length:=(zdg hmv).symm;have hrep:List.replicate cards[v].toNat (e16.c true z16)=rows[v].map (e16.c true):=zdd hmv (e16.c true);have hPl:(zkG rows v).length=2+v:=zrx (by omega);have h1:=λX=>zqI (rows:=rows) v X
   have h10:(zkG rows v)[1]? = some (zht rows.length):=rfl;have h0:=λX=>zrc (rows:=rows) v X
   have hst:=zp2 hv3;have hRl:(slR 2 ((rows.take v).map List.length)++ List.replicate (rows.length - v) [zcu]).length=rows.length:=by simp[zfa]; omega
   have hRg:(slR 2 ((rows.take v).map List.length)++ List.replicate (rows.length - v) [zcu])[v]? = some [zcu]:=by
    have hsl:(slR 2 ((rows.take v).map List.length)).length=v:=by rw[zfa]; simp; omega
    rw[qap (by omega),hsl,qcg,qcq,if_pos (by omega)]
   have hidx:zaH cards (v:Int)=some cards[v]:=zmy hv2;have hvi:((v:Int)<(rows.length:Int))=True:=eq_true (by omega);generalize (slR 2 ((rows.take v).map List.length)++ List.replicate (rows.length - v) [zcu])=rsl at *;unfold znA at hst;unfold zht at h1 h10;generalize zkG rows v=M at *;generalize rows[v]=rv at *;generalize cards[v]=k at *;simp only[rnA,Nat.reduceEqDiff,Nat.reduceLT,Nat.reduceAdd,Nat.reduceLeDiff,reduceCtorEq,hlt,zai (n:=1) (e:=eI .i64) rfl hidx,h10,hk.1.1,hk.1.2,qbN,hPl,h0,hRl,hRg,qbT,qaH,zwe,hkl,hw2,hvi];refine⟨v+1,by omega,by omega,?_⟩;have e:(M ++ [LB.els 16 (List.replicate rv.length (e16.c true z16))]).set 0 (.els 1 (rsl.set v [.sl (2+v) 0 16 rv.length (some rv.length) rv.length]))=zkG rows (v+1):=by rw[<- hkl,hrep,hkl]; exact hst
   show zbQ 0 ⟨55,_,(M ++ [LB.els 16 (List.replicate rv.length (e16.c true z16))]).set 0 (.els 1 (rsl.set v [.sl (2+v) 0 16 rv.length (some rv.length) rv.length]))⟩ _;rw[e];refine zbQ.sub ?_;exact⟨rfl,rfl,rfl,rfl,rfl,qcD⟩
  have hlt:decide ((v:Int)<(cards.length:Int))=false:=qcH (by omega);have hve:v=rows.length:=by omega
  subst hve;rw[zqq rfl];simp only[rnA,Nat.reduceEqDiff,Nat.reduceLT,reduceCtorEq,hlt];exact⟨(),qcD,zbQ.sub ⟨rfl,rfl,qcD⟩⟩
 intro _ _;have hLk:=zhB hrw;generalize hls:rows.map List.length=ls at *;have hln:=hLk.ln;refine zab ?_;simp only[rnA,Nat.reduceLT,reduceCtorEq];refine fDM (zew (r:=cards) rfl) ?_;refine EvL.zpL (S':=⟨55,[(3,.ptr 1 0),(27,.clo 149 [] [.fptr false ((eL (eI .i64)).c false cards)])],zf9 ls rows⟩) (zbQ.sub ⟨rfl,rfl,qcD⟩) ?_;refine EvL.zmP (γ:={ a:List (List (List Int)) // LOk ls a }) (n0:=2+ls.length) (zd2 hu) rfl (by conv=>lhs; cbv) (λa=>zf9 ls a.1) (λi a=>zrC (u.drop i) a.1=some r) (λx L1=>match x with | .normal=>LOk ls r/\L1=zf9 ls r | _=>False) ⟨rows,hLk⟩ ?_ (qaA _) ?_ ?_ ?_ (λd L1 hx=>hx.elim) ?_ ?_ ?_ ?_ ?_ ?_
 .intro a; exact zfE a.2.ln
 .exact⟨by show 1<_; omega,⟨qcD,⟨qcD,qcD⟩⟩,qcD⟩
 .intro a; exact zp0 (by omega) _
 .intro x L1 hx;cases x with
  | normal=>obtain⟨hx,rfl⟩:=hx; exact⟨zfE hx.ln,zp0 (by omega) _⟩
  | ret=>exact hx.elim
  | exit id=>exact hx.elim
  | panic d=>exact hx.elim
 .exact h
 .rintro i ⟨a,ha⟩ y args G lpF hy hi ⟨rfl,rfl⟩ hkin;simp only at hi;rw[zro hy]at hi;simp only[zrC]at hi;obtain⟨b,hb,hi⟩:=bind_some hi;refine⟨_,_,rfl,rfl,?_⟩;obtain⟨T,hT⟩:∃ T:Int×{ a:List (List (List Int)) // LOk ls a }->LSt,T=λp=>⟨55,[(3,.ptr 1 0),(6,dI y.1),(30,.sl (2+ls.length+1) 0 1 y.2.length (some y.2.length) y.2.length),(31,dI y.2.length),(32,dI p.1)],zf9 ls p.2.1 ++ [lpF,.els 1 (y.2.map ((eI .i64).c true))]⟩:=⟨_,rfl⟩
  have hm1:∀ c,(zf9 ls c ++ [lpF,.els 1 (y.2.map ((eI .i64).c true))])[1]? = some (zht ls.length):=λc=>rfl
  have hm0:∀ c,(zf9 ls c ++ [lpF,.els 1 (y.2.map ((eI .i64).c true))])[0]? = some (.els 1 (slR 2 ls)):=λc=>rfl
  have hmv:∀ c,LOk ls c->(zf9 ls c ++ [lpF,.els 1 (y.2.map ((eI .i64).c true))])[2+ls.length+1]? = some (.els 1 (y.2.map ((eI .i64).c true))):=λc hc=>by
   rw[qap (by rw[zfE hc.ln]; omega),zfE hc.ln,show 2+ls.length+1 - (2+ls.length)=1 by omega];rfl
  have hmr:∀(c:List (List (List Int))) (v:Nat) (hv:v<c.length),(zf9 ls c ++ [lpF,.els 1 (y.2.map ((eI .i64).c true))])[2+v]? = some (znA c[v]):=λc v hv=>zmk hv _
  have hms:∀(c:List (List (List Int))) (v:Nat) (hv:v<c.length) row,(zf9 ls c ++ [lpF,.els 1 (y.2.map ((eI .i64).c true))]).set (2+v) (znA row)=zf9 ls (c.set v row)++ [lpF,.els 1 (y.2.map ((eI .i64).c true))]:=λc v hv row=>zqX hv row _
  refine zab ?_;simp only[rnA,Nat.reduceEqDiff,Nat.reduceLT,hmv a ha];refine EvL.jn T (λp=>p.2.1=b) ?_ ?_
  .refine zab ?_;simp only[rnA];refine EvL.rounds T (λn p=>zrH y.1 y.2 n p.1 p.2.1=some b) (y.2.length+2) (0,⟨a,ha⟩) (by rw[hT]; refine zbQ.sub ?_; exact⟨rfl,rfl,rfl,rfl,rfl,qcD⟩) hb (λ_ h=>nomatch (show none=some _ from h)) ?_;rintro n ⟨v,c,hc⟩ hp;simp only[zrH]at hp;rw[congrFun hT (v,⟨c,hc⟩)];refine zab ?_;simp only;cases hcc:decide (v<(y.2.length:Int))with
   | false=>
    rw[hcc,qcF]at hp;simp only[rnA,Nat.reduceEqDiff,Nat.reduceLT,hcc];exact⟨(v,⟨c,hc⟩),qaa hp,by rw[hT]; refine zbQ.sub ?_; exact⟨rfl,rfl,rfl,rfl,rfl,qcD⟩⟩
   | true=>
    rw[hcc,qcE]at hp;obtain⟨x,g1,hp⟩:=bind_some hp;obtain⟨c',g2,hp⟩:=bind_some hp;have hc':=hc.put g2;unfold zhv at g2;obtain⟨row,g3,g2⟩:=bind_some g2;obtain⟨ip,g4,g2⟩:=bind_some g2;obtain⟨ip',g5,g2⟩:=bind_some g2;obtain⟨row',g6,g2⟩:=bind_some g2;unfold zhY at g5;obtain⟨bt,g7,g5⟩:=bind_some g5;obtain⟨w,g8,g5⟩:=bind_some g5;have hv0:=zbh g3;have hvl:v.toNat<c.length:=by have:=zbg g3; omega
    have hrow:c[v.toNat]=row:=by
     have:=zaC g3 λy=>y
     rw[qbJ,qae hvl]at this;exact qaa this
    have hlv:v.toNat<ls.length:=by rw[<- hc.ln]; exact hvl
    have hll:ls[v.toNat]=row.length:=by
     have h1:=hc.len;subst h1;rw[List.getElem_map,hrow]
    have hvn:v<(ls.length:Int):=by omega
    have hip:ip.length=16:=by
     refine hc.w row ?_ ip ?_
     .rw[<- hrow]; exact qax _
     have:=zaC g4 λy=>y
     rw[qbJ]at this;exact qay this
    have hsl2:=zp3 ls 2 v.toNat hlv;rw[hll]at hsl2;have hr1:=hmr c v.toNat hvl;rw[hrow]at hr1;have hr2:=hms c v.toNat hvl row';rw[<- zim g2]at hr2;have h1:=hm1 c;have h0:=hm0 c;have hv5:=hmv c hc;have hl0:=zfa ls 2;have hq:((IntKind.i64.wrap (y.1.tdiv 64)).toNat<=15)=True:=eq_true (by have h2:=zbg g8; have h3:=zbh g8; rw[hip]at h2; change 0<=IntKind.i64.wrap (y.1.tdiv 64)at h3; change IntKind.i64.wrap (y.1.tdiv 64)<_ at h2; omega);have hput:List.take (IntKind.i64.wrap (y.1.tdiv 64)).toNat (e16.c true ip)++ [D.lit (.int .u64 (IntKind.u64.wrap (BitVec.ofInt IntKind.u64.bits w ||| BitVec.ofInt IntKind.u64.bits bt).toNat))]++ List.drop ((IntKind.i64.wrap (y.1.tdiv 64)).toNat+1) (e16.c true ip)=e16.c true ip':=ziY hip g5;unfold znA at hr1 hr2;unfold zht at h1;generalize zf9 ls c ++ [lpF,.els 1 (y.2.map ((eI .i64).c true))]=M at *;generalize slR 2 ls=es at *;simp only[rnA,Nat.reduceEqDiff,Nat.reduceLT,Nat.reduceLeDiff,Int.reduceBEq,hv5,zbh g1,(show v<((y.2.length:Nat):Int)from zbg g1),zaC g1 ((eI .i64).c true),h1,h0,hl0,hvn,hsl2,hr1,zbh g4,(show x<((row.length:Nat):Int)from zbg g4),zaC g4 (e16.c true),zbh g8,(show w64 (y.1.tdiv 64)<((16:Nat):Int)from hip ▸ zbg g8),qcs,zev hip g8,(zeA g7).1,(zeA g7).2,hq,hput,zda,zbR g6 (e16.c true),hr2];exact⟨(w64 (v+1),⟨c',hc'⟩),hp,by rw[hT]; refine zbQ.sub ?_; exact⟨rfl,rfl,rfl,rfl,rfl,qcD⟩⟩
  rintro⟨v,c,hc⟩ rfl;rw[congrFun hT (v,⟨c,hc⟩)];refine zab ?_;simp only[rnA];exact⟨zf9 ls c,zfE hc.ln,zbQ.sub trivial,⟨c,hc⟩,hi,rfl⟩
 .rintro⟨a,ha⟩ hi;simp only[List.drop_length]at hi;cases hi;exact⟨ha,rfl⟩
 .rintro _ ⟨hr,rfl⟩;refine zab ?_;have h1:(zf9 ls r ++ [LB.lost])[1]? = some (zht ls.length):=rfl;have hpw:Pw (Snp (zf9 ls r ++ [LB.lost]) true) (slR 2 ls) (r.map ((eL e16).c true)):=by
   have:=zrU (L:=zf9 ls r ++ [LB.lost]) r 2 λv hv=>zmk hv _
   rwa [hr.len]at this
  unfold zht at h1;simp only[rnA,Nat.reduceEqDiff,Nat.reduceLT,h1];exact zbT.ret rfl (zcv (e:=eL e16) rfl (.inl rfl) (zfa ls 2).symm (zfa ls 2).symm (λk h=>by cases h; exact qam _) hpw)
 .intro id L1 hx; exact hx.elim
 intro L1 hx; exact hx.elim
def zqi(f:Int->Int)(sets:List (List Int))(i k:Int):Option (List (List Int)):=
 (zaH sets i).bind λs=>(zaH s k).bind λw=>(zfU s k (f w)).bind λs'=>zfU sets i s'
def nz1(one:List Int)(i:Int):Nat->Int->List (List Int)->Option (List (List Int))
 | 0,_,_=>none
 | n+1,k,sets=>bif decide (k<16)then(zaH one k).bind λo=>(zqi (λw=>orI .u64 w o) sets i k).bind λs=>nz1 one i n (w64 (k+1)) s else some sets
def nz2(zgF:List (List Int))(i:Int):Nat->Int->List (List Int)->Option (List (List Int))
 | 0,_,_=>none
 | n+1,j,sets=>bif decide (j<(zgF.length:Int))then(zaH zgF j).bind λone=>(nz1 one i 18 0 sets).bind λs=>nz2 zgF i n (w64 (j+1)) s else some sets
def nz3(kind:Int)(wd:List Int)(i:Int):Nat->Int->List (List Int)->Bool->Option (List (List Int)×Bool)
 | 0,_,_,_=>none
 | n+1,k,sets,ap=>bif decide (k<16)then(zaH wd k).bind λo=>
   bif kind == 4 then(zqi (λw=>zmJ .u64 w o) sets i k).bind λs=>nz3 kind wd i n (w64 (k+1)) s ap
   else(zaH sets i).bind λs0=>(zaH s0 k).bind λw0=>(zqi (λw=>orI .u64 w o) sets i k).bind λs=>nz3 kind wd i n (w64 (k+1)) s (bif ap then zmJ .u64 w0 o == 0 else false)
   else some (sets,ap)
def nz4(g:S_api_Gate)(i:Int):Nat->Int->List (List Int)->Bool->Option (List (List Int)×Bool)
 | 0,_,_,_=>none
 | n+1,j,sets,ap=>bif decide (j<(g.args.length:Int))then(zaH g.args j).bind λa=>(zaH sets a).bind λwd=>(nz3 g.kind wd i 18 0 sets ap).bind λr=>nz4 g i n (w64 (j+1)) r.1 r.2 else some (sets,ap)
def nzF(lits:List (List (List Int)))(g:S_api_Gate)(i:Int)(sets:List (List Int)):Option (List (List Int)):=
 bif g.kind == 2 then(zaH lits g.var).bind λrow=>(zaH row g.val).bind λip=>zfU sets i ip
 else bif (bif g.kind == 4 then true else bif g.kind == 1 then decide (0<g.n)else false)then(zaH lits 0).bind λzgF=>nz2 zgF i (zgF.length+2) 0 sets else some sets
def nz5(lits:List (List (List Int)))(gates:List S_api_Gate):Nat->Int->List (List Int)->Bool->Option (List (List Int)×Bool)
 | 0,_,_,_=>none
 | n+1,i,sets,ap=>bif decide (i<(gates.length:Int))then(zaH gates i).bind λg=>(zaH sets i).bind λ_=>(nzF lits g i sets).bind λs=>(nz4 g i (g.args.length+2) 0 s ap).bind λr=>nz5 lits gates n (w64 (i+1)) r.1 r.2 else some (sets,ap)
def zbz(c:S_api_Circuit):Option (List (List Int)×Bool):=
 (zaL c.cards).bind λlits=>(zfN 128 (c.gates.length:Int) z16).bind λsets=>nz5 lits c.gates (c.gates.length+2) 0 sets true
structure SOk (m:Nat) (sets:List (List Int)):Prop where
 len:sets.length=m
 w:∀ s∈sets,s.length=16
variable{sets sets':List (List Int)}
theorem SOk.set{m:Nat}{s:List Int}(h:SOk m sets)(hs:s.length=16)(e:zfU sets i s=some sets'):SOk m sets':=by
 refine⟨(zbE e).trans h.len,λa ha=>?_⟩;rw[zim e]at ha;rcases qbn ha with ha | rfl
 .exact h.w a ha
 exact hs
theorem SOk.up{m:Nat}{f:Int->Int}{k:Int}(h:SOk m sets)(e:zqi f sets i k=some sets'):SOk m sets':=by
 unfold zqi at e;obtain⟨s,g1,e⟩:=bind_some e;obtain⟨w,g2,e⟩:=bind_some e;obtain⟨s',g3,e⟩:=bind_some e;exact h.set ((zbE g3).trans (h.w s (zcR g1))) e
theorem zou{ls:List Nat}:∀(u:List (Int×List Int)) (a b:List (List (List Int))),LOk ls a->zrC u a=some b->LOk ls b
 | [],_,_,h,e=>by cases e; exact h
 | y :: u,a,b,h,e=>by
  unfold zrC at e;obtain⟨c,g,e⟩:=bind_some e;exact zou u c b (zoU _ _ _ _ h g) e
theorem ziH{t:Bool}{x:List Int}:List.take 16 (e16.c t x)=e16.c t x:=qaM (by rw[zda]; exact qam _)
theorem zqL{t:Bool}{x:List Int}:List.drop 16 (e16.c t x)=[]:=qas (by rw[zda]; exact qam _)
theorem zmW{r:List (List (List Int))}(h:zaL cards=some r):∀ row∈r,∀ ip∈row,ip.length=16:=by
 unfold zaL at h;obtain⟨_,_,h⟩:=bind_some h;obtain⟨_,_,h⟩:=bind_some h;obtain⟨rows,hrw,h⟩:=bind_some h;obtain⟨u,hu,h⟩:=bind_some h;exact(zou u rows r (zhB hrw) h).w
theorem zfA{p0:S_api_Circuit}{r:List (List Int)×Bool}(h:zbz p0=some r):Lx.Fn mC 57 [(.agg [(fzE false (eI .i64) p0.cards),(fzE false zaa p0.gates)])] (.tup [(fzE true e16 r.1),(dB r.2)]):=by
 refine gnO ?_;unfold zbz at h;obtain⟨lits,hlit,h⟩:=bind_some h;obtain⟨sets,hmk,h⟩:=bind_some h;have hlw:=zmW hlit;refine zab ?_;simp only[rnA,Nat.reduceEqDiff,Nat.reduceLT,reduceCtorEq];refine fCM (ze1 hlit) ?_;have hm:16=e16.n:=rfl;simp only[rnA,Nat.reduceEqDiff,Nat.reduceLT,reduceCtorEq,(zbv hmk).1.1,(zbv hmk).1.2,qbN,qaH,zaf];have hok:SOk p0.gates.length sets:=by
  refine⟨by rw[zdg hmk,qaH],λs hs=>?_⟩;have:=zdd hmk λy=>y
  rw[qbJ]at this;rw[<- this]at hs;rw[(qcn.1 hs).2]; rfl
 have hrep:List.replicate p0.gates.length ([dU 0,dU 0,dU 0,dU 0,dU 0,dU 0,dU 0,dU 0,dU 0,dU 0,dU 0,dU 0,dU 0,dU 0,dU 0,dU 0]:List D)=sets.map (e16.c true):=by
  have:=zdd hmk (e16.c true);rw[qaH]at this;exact this
 simp only[dU]at hrep;generalize hm:p0.gates.length=m at *;obtain⟨T0,hT0⟩:∃ T:Int×List (List Int)×Bool->LSt,T=λa=>⟨139,[(2,.sl 1 0 16 m (some m) m),(3,dB a.2.2),(4,fzE true (eL e16) lits),(24,fzE false zaa p0.gates),(25,dI m),(26,dI a.1)],[.gone,.els 16 (a.2.1.map (e16.c true))]⟩:=⟨_,rfl⟩
 obtain⟨TE,hTE⟩:∃ T:List (List Int)×Bool->LSt,T=λa=>⟨139,[(2,.sl 1 0 16 m (some m) m),(3,dB a.2)],[.gone,.els 16 (a.1.map (e16.c true))]⟩:=⟨_,rfl⟩
 refine EvL.jn TE (λa=>a=r/\a.1.length=m) ?_ ?_
 .refine zab ?_;simp only[rnA];refine EvL.rounds T0 (λn a=>nz5 lits p0.gates n a.1 a.2.1 a.2.2=some r/\SOk m a.2.1) (m+2) (0,sets,true) (by rw[hT0,hrep]; exact wAM) ⟨h,hok⟩ (λ_ h=>nomatch (show none=some _ from h.1)) ?_;rintro n ⟨i,sets,ap⟩ ⟨hp,ok⟩;simp only[nz5,hm]at hp;rw[congrFun hT0 (i,sets,ap)];refine zab ?_;simp only[rnA,Nat.reduceEqDiff,Nat.reduceLT];cases hc:decide (i<(m:Int))with
  | false=>
   rw[hc,qcF]at hp;simp only[rnA];cases hp;exact⟨(sets,ap),⟨rfl,ok.len⟩,by rw[hTE]; exact wAM⟩
  | true=>
   rw[hc,qcE]at hp;obtain⟨g,g5,hp⟩:=bind_some hp;obtain⟨si,g6,hp⟩:=bind_some hp;obtain⟨s1,g7,hp⟩:=bind_some hp;obtain⟨r1,g8,hp⟩:=bind_some hp;simp only[rnA,Nat.reduceEqDiff,Nat.reduceLT,Nat.reduceAdd,Nat.reduceLeDiff,zai (n:=5) (e:=zaa) rfl g5,zal,zbh g6,(show i<((m:Nat):Int)from ok.len ▸ zbg g6),ok.len];obtain⟨T1,hT1⟩:∃ T:List (List Int)->LSt,T=λs=>⟨139,[(2,.sl 1 0 16 m (some m) m),(3,dB ap),(4,fzE true (eL e16) lits),(5,dI i),(6,.ptr 2 0),(7,.eptr 1 16 i.toNat 0 m),(24,fzE false zaa p0.gates),(25,dI m),(26,dI i)],[.gone,.els 16 (s.map (e16.c true)),.cells [dI g.kind,dI g.var,dI g.val,dI g.n,fzE false (eI .i64) g.args]]⟩:=⟨_,rfl⟩
   refine EvL.jn T1 (λa=>a=s1/\SOk m a) ?_ ?_
   .refine zab ?_;unfold nzF at g7;cases hk2:(g.kind == 2)with
    | true=>
     rw[hk2,qcE]at g7;obtain⟨row,q1,g7⟩:=bind_some g7;obtain⟨ip,q2,g7⟩:=bind_some g7;simp only[rnA,Nat.reduceEqDiff,Nat.reduceLT,Nat.reduceLeDiff,zai (n:=1) (e:=eL e16) rfl q1,zai (n:=16) (e:=e16) rfl q2,ok.len,zaC g6 (e16.c true),ziH,zda,zqL,qbb,zbR g7 (e16.c true)];exact⟨s1,⟨rfl,ok.set (hlw row (zcR q1) ip (zcR q2)) g7⟩,by rw[hT1]; exact wAM⟩
    | false=>
     rw[hk2,qcF]at g7;simp only[rnA,Nat.reduceEqDiff];obtain⟨T2,hT2⟩:∃ T:Bool->LSt,T=λb=>⟨139,[(2,.sl 1 0 16 m (some m) m),(3,dB ap),(4,fzE true (eL e16) lits),(5,dI i),(6,.ptr 2 0),(7,.eptr 1 16 i.toNat 0 m),(24,fzE false zaa p0.gates),(25,dI m),(26,dI i),(49,dB b)],[.gone,.els 16 (sets.map (e16.c true)),.cells [dI g.kind,dI g.var,dI g.val,dI g.n,fzE false (eI .i64) g.args]]⟩:=⟨_,rfl⟩
     refine EvL.jn T2 (λb=>b=(bif g.kind == 4 then true else bif g.kind == 1 then decide (0<g.n)else false)) ?_ ?_
     .refine zab ?_;cases hk4:(g.kind == 4)with
      | true=>
       simp only[rnA,Nat.reduceEqDiff,Nat.reduceLT,hk4];exact⟨true,rfl,by rw[hT2]; exact wAM⟩
      | false=>
       cases hk1:(g.kind == 1)with
       | true=>
        simp only[rnA,Nat.reduceEqDiff,Nat.reduceLT,hk4,hk1];exact⟨_,rfl,by rw[hT2]; exact wAM⟩
       | false=>
        simp only[rnA,Nat.reduceEqDiff,Nat.reduceLT,hk4,hk1];exact⟨_,rfl,by rw[hT2]; exact wAM⟩
     rintro b hb;rw[<- hb]at g7;cases b with
     | false=>
      rw[qcF]at g7;cases g7;rw[congrFun hT2 false];refine zab ?_;simp only[rnA,Nat.reduceEqDiff];exact⟨sets,⟨rfl,ok⟩,by rw[hT1]; exact wAM⟩
     | true=>
      rw[qcE]at g7;obtain⟨zgF,q1,g7⟩:=bind_some g7;have hones:=hlw zgF (zcR q1);rw[congrFun hT2 true];refine zab ?_;simp only[rnA,Nat.reduceEqDiff,Nat.reduceLT,zai (n:=1) (e:=eL e16) rfl q1,zaf];obtain⟨T3,hT3⟩:∃ T:Int×List (List Int)->LSt,T=λp=>⟨139,[(2,.sl 1 0 16 m (some m) m),(3,dB ap),(4,fzE true (eL e16) lits),(5,dI i),(6,.ptr 2 0),(7,.eptr 1 16 i.toNat 0 m),(24,fzE false zaa p0.gates),(25,dI m),(26,dI i),(65,fzE true e16 zgF),(66,dI zgF.length),(67,dI p.1)],[.gone,.els 16 (p.2.map (e16.c true)),.cells [dI g.kind,dI g.var,dI g.val,dI g.n,fzE false (eI .i64) g.args]]⟩:=⟨_,rfl⟩
      refine EvL.jn T1 (λa=>a=s1/\SOk m a) ?_ ?_
      .refine zab ?_;simp only[rnA];refine EvL.rounds T3 (λn p=>nz2 zgF i n p.1 p.2=some s1/\SOk m p.2) (zgF.length+2) (0,sets) (by rw[hT3]; exact wAM) ⟨g7,ok⟩ (λ_ h=>nomatch (show none=some _ from h.1)) ?_;rintro n ⟨j,s⟩ ⟨hj,oks⟩;simp only[nz2]at hj;simp only at oks;rw[congrFun hT3 (j,s)];refine zab ?_;cases hjc:decide (j<(zgF.length:Int))with
       | false=>
        rw[hjc,qcF]at hj;simp only[rnA,Nat.reduceEqDiff,Nat.reduceLT,reduceCtorEq,hjc];cases hj;exact⟨_,⟨rfl,oks⟩,by rw[hT1]; exact wAM⟩
       | true=>
        rw[hjc,qcE]at hj;obtain⟨one,q3,hj⟩:=bind_some hj;obtain⟨s2,q4,hj⟩:=bind_some hj;have hone:=hones one (zcR q3);simp only[rnA,Nat.reduceEqDiff,Nat.reduceLT,Nat.reduceAdd,Nat.reduceLeDiff,hjc,zai (n:=16) (e:=e16) rfl q3,ziH,zda,qbb];obtain⟨T4,hT4⟩:∃ T:Int×List (List Int)->LSt,T=λp=>⟨139,[(2,.sl 1 0 16 m (some m) m),(3,dB ap),(4,fzE true (eL e16) lits),(5,dI i),(6,.ptr 2 0),(7,.eptr 1 16 i.toNat 0 m),(24,fzE false zaa p0.gates),(25,dI m),(26,dI i),(65,fzE true e16 zgF),(66,dI zgF.length),(67,dI j),(71,.agg (e16.c true one)),(72,dI p.1)],[.gone,.els 16 (p.2.map (e16.c true)),.cells [dI g.kind,dI g.var,dI g.val,dI g.n,fzE false (eI .i64) g.args]]⟩:=⟨_,rfl⟩
        obtain⟨T5,hT5⟩:∃ T:List (List Int)->LSt,T=λs=>⟨139,[(2,.sl 1 0 16 m (some m) m),(3,dB ap),(4,fzE true (eL e16) lits),(5,dI i),(6,.ptr 2 0),(7,.eptr 1 16 i.toNat 0 m),(24,fzE false zaa p0.gates),(25,dI m),(26,dI i),(65,fzE true e16 zgF),(66,dI zgF.length),(67,dI j)],[.gone,.els 16 (s.map (e16.c true)),.cells [dI g.kind,dI g.var,dI g.val,dI g.n,fzE false (eI .i64) g.args]]⟩:=⟨_,rfl⟩
        refine EvL.jn T5 (λa=>a=s2/\SOk m a) ?_ ?_
        .refine zab ?_;simp only[rnA];refine EvL.rounds T4 (λn p=>nz1 one i n p.1 p.2=some s2/\SOk m p.2) 18 (0,s) (by rw[hT4]; exact wAM) ⟨q4,oks⟩ (λ_ h=>nomatch (show none=some _ from h.1)) ?_;clear oks q4 hj hT3;rintro n ⟨k,s⟩ ⟨hk,oks⟩;simp only[nz1]at hk;simp only at oks;rw[congrFun hT4 (k,s)];refine zab ?_;cases hkc:decide (k<16)with
         | false=>
          rw[hkc,qcF]at hk;simp only[rnA,Nat.reduceEqDiff,Nat.reduceLT,reduceCtorEq,hkc];cases hk;exact⟨_,⟨rfl,oks⟩,by rw[hT5]; exact wAM⟩
         | true=>
          rw[hkc,qcE]at hk;obtain⟨o,q5,hk⟩:=bind_some hk;obtain⟨s',u0,hk⟩:=bind_some hk;have oks':=oks.up u0;unfold zqi at u0;obtain⟨z0,u1,u0⟩:=bind_some u0;obtain⟨w,u2,u0⟩:=bind_some u0;obtain⟨z1,u3,u4⟩:=bind_some u0;have hz0:=oks.w z0 (zcR u1);have hk0:=zbh u2;have hk16:k<((16:Nat):Int):=hz0 ▸ zbg u2;have hk15:(k.toNat<=15)=True:=eq_true (by omega);have hput:List.take k.toNat (e16.c true z0)++ [D.lit (.int .u64 (IntKind.u64.wrap (BitVec.ofInt IntKind.u64.bits w ||| BitVec.ofInt IntKind.u64.bits o).toNat))]++ List.drop (k.toNat+1) (e16.c true z0)=e16.c true z1:=ziY hz0 u3;simp only[rnA,Nat.reduceEqDiff,Nat.reduceLT,Nat.reduceLeDiff,hkc,hk0,hk16,qb2,qcs,zev hone q5,oks.len,zaC u1 (e16.c true),zev hz0 u2,zda,hk15,hput,zbR u4 (e16.c true)];exact⟨(w64 (k+1),s'),⟨hk,oks'⟩,by rw[hT4]; exact wAM⟩
        rintro a ⟨rfl,oka⟩;rw[congrFun hT5 a];refine zab ?_;simp only[rnA,Nat.reduceEqDiff,Nat.reduceLT];exact⟨(w64 (j+1),a),⟨hj,oka⟩,by rw[hT3]; exact wAM⟩
      rintro a ⟨rfl,oka⟩;rw[congrFun hT1 a];refine zab ?_;simp only[rnA];exact⟨a,⟨rfl,oka⟩,by rw[hT1]; exact wAM⟩
   rintro a ⟨rfl,oka⟩;rw[congrFun hT1 a];refine zab ?_;simp only[rnA,Nat.reduceEqDiff,Nat.reduceLT,zaf];obtain⟨T6,hT6⟩:∃ T:Int×List (List Int)×Bool->LSt,T=λp=>⟨139,[(2,.sl 1 0 16 m (some m) m),(3,dB p.2.2),(4,fzE true (eL e16) lits),(5,dI i),(6,.ptr 2 0),(7,.eptr 1 16 i.toNat 0 m),(24,fzE false zaa p0.gates),(25,dI m),(26,dI i),(88,fzE false (eI .i64) g.args),(89,dI g.args.length),(90,dI p.1)],[.gone,.els 16 (p.2.1.map (e16.c true)),.cells [dI g.kind,dI g.var,dI g.val,dI g.n,fzE false (eI .i64) g.args]]⟩:=⟨_,rfl⟩
   obtain⟨T7,hT7⟩:∃ T:List (List Int)×Bool->LSt,T=λp=>⟨139,[(2,.sl 1 0 16 m (some m) m),(3,dB p.2),(4,fzE true (eL e16) lits),(24,fzE false zaa p0.gates),(25,dI m),(26,dI i)],[.gone,.els 16 (p.1.map (e16.c true))]⟩:=⟨_,rfl⟩
   refine EvL.jn T7 (λp=>p=r1/\SOk m p.1) ?_ ?_
   .refine zab ?_;simp only[rnA];refine EvL.rounds T6 (λn p=>nz4 g i n p.1 p.2.1 p.2.2=some r1/\SOk m p.2.1) (g.args.length+2) (0,a,ap) (by rw[hT6]; exact wAM) ⟨g8,oka⟩ (λ_ h=>nomatch (show none=some _ from h.1)) ?_;rintro n ⟨j,s,ap⟩ ⟨hj,oks⟩;simp only[nz4]at hj;simp only at oks;rw[congrFun hT6 (j,s,ap)];refine zab ?_;cases hjc:decide (j<(g.args.length:Int))with
    | false=>
     rw[hjc,qcF]at hj;simp only[rnA,Nat.reduceEqDiff,Nat.reduceLT,reduceCtorEq,hjc];cases hj;exact⟨_,⟨rfl,oks⟩,by rw[hT7]; exact wAM⟩
    | true=>
     rw[hjc,qcE]at hj;obtain⟨x,q2,hj⟩:=bind_some hj;obtain⟨wd,q3,hj⟩:=bind_some hj;obtain⟨r2,q4,hj⟩:=bind_some hj;have hwd:=oks.w wd (zcR q3);simp only[rnA,Nat.reduceEqDiff,Nat.reduceLT,Nat.reduceLeDiff,hjc,zai (n:=1) (e:=eI .i64) rfl q2,zbh q3,(show x<((m:Nat):Int)from oks.len ▸ zbg q3),oks.len,zaC q3 (e16.c true),ziH,zda];obtain⟨T8,hT8⟩:∃ T:Int×List (List Int)×Bool->LSt,T=λp=>⟨139,[(2,.sl 1 0 16 m (some m) m),(3,dB p.2.2),(4,fzE true (eL e16) lits),(5,dI i),(6,.ptr 2 0),(7,.eptr 1 16 i.toNat 0 m),(24,fzE false zaa p0.gates),(25,dI m),(26,dI i),(88,fzE false (eI .i64) g.args),(89,dI g.args.length),(90,dI j),(97,.agg (e16.c true wd)),(98,dI p.1)],[.gone,.els 16 (p.2.1.map (e16.c true)),.cells [dI g.kind,dI g.var,dI g.val,dI g.n,fzE false (eI .i64) g.args]]⟩:=⟨_,rfl⟩
     obtain⟨T9,hT9⟩:∃ T:List (List Int)×Bool->LSt,T=λp=>⟨139,[(2,.sl 1 0 16 m (some m) m),(3,dB p.2),(4,fzE true (eL e16) lits),(5,dI i),(6,.ptr 2 0),(7,.eptr 1 16 i.toNat 0 m),(24,fzE false zaa p0.gates),(25,dI m),(26,dI i),(88,fzE false (eI .i64) g.args),(89,dI g.args.length),(90,dI j)],[.gone,.els 16 (p.1.map (e16.c true)),.cells [dI g.kind,dI g.var,dI g.val,dI g.n,fzE false (eI .i64) g.args]]⟩:=⟨_,rfl⟩
     refine EvL.jn T9 (λa=>a=r2/\SOk m a.1) ?_ ?_
     .refine zab ?_;simp only[rnA];refine EvL.rounds T8 (λn p=>nz3 g.kind wd i n p.1 p.2.1 p.2.2=some r2/\SOk m p.2.1) 18 (0,s,ap) (by rw[hT8]; exact wAM) ⟨q4,oks⟩ (λ_ h=>nomatch (show none=some _ from h.1)) ?_;clear oks q3 q4 hj;rintro n ⟨k,s,ap⟩ ⟨hk,oks⟩;simp only[nz3]at hk;simp only at oks;rw[congrFun hT8 (k,s,ap)];refine zab ?_;cases hkc:decide (k<16)with
      | false=>
       rw[hkc,qcF]at hk;simp only[rnA,Nat.reduceEqDiff,Nat.reduceLT,reduceCtorEq,hkc];cases hk;exact⟨_,⟨rfl,oks⟩,by rw[hT9]; exact wAM⟩
      | true=>
       rw[hkc,qcE]at hk;obtain⟨o,q5,hk⟩:=bind_some hk;simp only[rnA,Nat.reduceEqDiff,Nat.reduceLT,hkc];refine EvL.jn (λp:List (List Int)×Bool=>T8 (k,p.1,p.2)) (λp=>nz3 g.kind wd i n (w64 (k+1)) p.1 p.2=some r2/\SOk m p.1) ?_ ?_
       .refine zab ?_;cases hk4:(g.kind == 4)with
        | true=>
         rw[hk4,qcE]at hk;obtain⟨s',u0,hk⟩:=bind_some hk;have oks':=oks.up u0;unfold zqi at u0;obtain⟨z0,u1,u0⟩:=bind_some u0;obtain⟨w,u2,u0⟩:=bind_some u0;obtain⟨z1,u3,u4⟩:=bind_some u0;have hz0:=oks.w z0 (zcR u1);have hk0:=zbh u2;have hk16:k<((16:Nat):Int):=hz0 ▸ zbg u2;have hk15:(k.toNat<=15)=True:=eq_true (by omega);have hput:List.take k.toNat (e16.c true z0)++ [D.lit (.int .u64 (IntKind.u64.wrap (BitVec.ofInt IntKind.u64.bits w &&& BitVec.ofInt IntKind.u64.bits o).toNat))]++ List.drop (k.toNat+1) (e16.c true z0)=e16.c true z1:=ziY hz0 u3;simp only[rnA,Nat.reduceEqDiff,Nat.reduceLT,Nat.reduceLeDiff,reduceCtorEq,hk4,hk0,hk16,qb2,qcs,zev hwd q5,oks.len,zaC u1 (e16.c true),zev hz0 u2,zda,hk15,hput,zbR u4 (e16.c true)];exact⟨(s',ap),⟨hk,oks'⟩,by rw[hT8]; exact wAM⟩
        | false=>
         rw[hk4,qcF]at hk;obtain⟨z,v1,hk⟩:=bind_some hk;obtain⟨w0,v2,hk⟩:=bind_some hk;obtain⟨s',u0,hk⟩:=bind_some hk;have oks':=oks.up u0;unfold zqi at u0;obtain⟨z0,u1,u0⟩:=bind_some u0;obtain⟨w,u2,u0⟩:=bind_some u0;obtain⟨z1,u3,u4⟩:=bind_some u0;have hz0:=oks.w z0 (zcR u1);have hk0:=zbh u2;have hk16:k<((16:Nat):Int):=hz0 ▸ zbg u2;have hk15:(k.toNat<=15)=True:=eq_true (by omega);have hput:List.take k.toNat (e16.c true z0)++ [D.lit (.int .u64 (IntKind.u64.wrap (BitVec.ofInt IntKind.u64.bits w ||| BitVec.ofInt IntKind.u64.bits o).toNat))]++ List.drop (k.toNat+1) (e16.c true z0)=e16.c true z1:=ziY hz0 u3;rw[u1]at v1;obtain rfl:=qaa v1;rw[u2]at v2;obtain rfl:=qaa v2;simp only[rnA,Nat.reduceEqDiff,Nat.reduceLT,hk4,hk0,hk16,qb2,qcs,zev hwd q5];cases ap with
         | false=>
          refine EvL.scope (zab ?_);simp only[rnA,Nat.reduceEqDiff,Nat.reduceLT,Nat.reduceLeDiff,hk0,hk16,qcs,oks.len,zaC u1 (e16.c true),zev hz0 u2,zda,hk15,hput,zbR u4 (e16.c true)];exact⟨(s',false),⟨hk,oks'⟩,by rw[hT8]; exact wAM⟩
         | true=>
          refine EvL.scope (zab ?_);simp only[rnA,Nat.reduceEqDiff,Nat.reduceLT,Nat.reduceLeDiff,hk0,hk16,qcs,oks.len,zaC u1 (e16.c true),zev hz0 u2,zda,hk15,hput,zbR u4 (e16.c true)];exact⟨(s',zmJ .u64 w o == 0),⟨hk,oks'⟩,by rw[hT8]; exact wAM⟩
       rintro⟨a,ap⟩ ⟨hk,oka⟩;rw[congrFun hT8 (k,a,ap)];refine zab ?_;simp only[rnA,Nat.reduceEqDiff,Nat.reduceLT];exact⟨(w64 (k+1),a,ap),⟨hk,oka⟩,by rw[hT8]; exact wAM⟩
     rintro⟨a,ap⟩ ⟨rfl,oka⟩;rw[congrFun hT9 (a,ap)];refine zab ?_;simp only[rnA,Nat.reduceEqDiff,Nat.reduceLT];exact⟨(w64 (j+1),a,ap),⟨hj,oka⟩,by rw[hT6]; exact wAM⟩
   rintro⟨a,ap⟩ ⟨rfl,oka⟩;rw[congrFun hT7 (a,ap)];refine zab ?_;simp only[rnA,Nat.reduceEqDiff,Nat.reduceLT];exact⟨(w64 (i+1),a,ap),⟨hp,oka⟩,by rw[hT0]; exact wAM⟩
 rintro⟨s,a⟩ ⟨rfl,hl⟩;rw[congrFun hTE (s,a)];refine zab ?_;simp only[rnA,Nat.reduceEqDiff,Nat.reduceLT];exact zbT.ret rfl (.zm0 (.cons (zaz (e:=e16) (t:=true) rfl (.inl rfl) hl.symm hl.symm (λk h=>by cases h; exact qam _) λ_=>rfl) (.cons (.lit _) .nil)))
def zch(p0:(List Int)):Nat->Int->Int->Option (Out Int Bool)
 | 0,_,_=>none
 | n+1,v3,v4=>(
bif (decide (v4<(p0.length:Int)))then(
(((zaH p0 v4).bind λx4=>
bif (decide (x4<1))then(
some true)
else(
some (decide (4<x4))):Option Bool)).bind λv30=>
bif v30 then(
some (.ret false))
else(
(zaH p0 v4).bind λx8=>
zch p0 n (w64 (v3 * x8)) (w64 (v4+1))))
else(
some (.go v3)))
def zc6(p0:(List Int)):Option Bool:=
((bif (decide ((p0.length:Int)<1))then(
some true)
else(
some (decide (8<(p0.length:Int)))):Option Bool)).bind λv12=>
bif v12 then(
some false)
else(
((zch p0 ((p0.length:Int) - 0+2:Int).toNat 1 0:Option (Out Int Bool))).bind λo=>match o with
| .go v3=>(
some (decide (v3<=1024)))
| .ret r=>some r)
theorem zj9{p0:(List Int)}{r:Bool}(h:zc6 p0=some r):Lx.Fn mC 52 [(fzE false (eI .i64) p0)] (dB r):=by
 refine gnO ?_;unfold zc6 at h;refine zab ?_;try simp only[rnA,Nat.reduceLT]
 obtain⟨o1,j1,h⟩:=bind_some h;obtain⟨T1,hT1⟩:=mkT λa:Bool=>⟨39,[(0,(fzE false (eI .i64) p0)),(12,(dB a))],[]⟩
 refine EvL.jn T1 (λa=>a=o1) ?_ ?_
 .refine zab ?_;try simp only[rnA,Nat.reduceEqDiff,Nat.reduceLT,reduceCtorEq,zaf]
  cases c1:(decide ((p0.length:Int)<1))
  .rw[c1,qcF]at j1;try simp only[rnA,Nat.reduceEqDiff,Nat.reduceLT,reduceCtorEq,zaf]
   replace j1:=qaa j1; subst j1;exact lfj hT1 rfl (wm0 [] (by exact trivial))
  rw[c1,qcE]at j1;try simp only[rnA,Nat.reduceEqDiff,Nat.reduceLT,reduceCtorEq]
  replace j1:=qaa j1; subst j1;exact lfj hT1 rfl (wm0 [] (by exact trivial))
 rintro v12 rfl;rw[congrFun hT1 v12];refine zab ?_;try simp only[rnA,reduceCtorEq]
 cases c2:v12
 .rw[c2,qcF]at h;try simp only[rnA,Nat.reduceLT]
  obtain⟨o5,j5,h⟩:=bind_some h;obtain⟨T5,hT5⟩:=mkT λa:Int=>⟨39,[(3,(dI a))],[]⟩
  refine EvL.jn T5 (λa=>o5=.go a) ?_ ?_
  .refine zab ?_;simp only[rnA];obtain⟨T8,hT8⟩:=mkT λa:(Int×Int)=>⟨39,[(0,(fzE false (eI .i64) p0)),(3,(dI a.1)),(4,(dI a.2))],[]⟩
   refine EvL.rounds (α:=(Int×Int)) T8 (λn a=>zch p0 n a.1 a.2=some o5) ((p0.length:Int) - 0+2:Int).toNat (1,0) (by rw[hT8]; exact wm0 [] (by exact trivial)) j5 (λ_ h=>nomatch (show(none:Option (Out Int Bool))=some o5 from h)) ?_;rintro n ⟨v3,v4⟩ j5;simp only[zch]at j5;rw[congrFun hT8 (v3,v4)];refine zab ?_;try simp only[rnA,Nat.reduceEqDiff,Nat.reduceLT,reduceCtorEq,zaf]
   cases c3:(decide (v4<(p0.length:Int)))
   .rw[c3,qcF]at j5;try simp only[rnA]
    replace j5:=qaa j5; subst j5;exact lfj hT5 rfl (wm0 [] (by exact trivial))
   rw[c3,qcE]at j5;try simp only[rnA]
   obtain⟨o9,j9,j5⟩:=bind_some j5;obtain⟨T9,hT9⟩:=mkT λa:Bool=>⟨39,[(0,(fzE false (eI .i64) p0)),(3,(dI v3)),(4,(dI v4)),(30,(dB a))],[]⟩
   refine EvL.jn T9 (λa=>a=o9) ?_ ?_
   .refine zab ?_;obtain⟨x4,g5,j9⟩:=bind_some j9;try simp only[rnA,Nat.reduceEqDiff,Nat.reduceLT,reduceCtorEq,zai (n:=1) (e:=(eI .i64)) rfl g5]
    cases c6:(decide (x4<1))
    .rw[c6,qcF]at j9;try simp only[rnA,Nat.reduceEqDiff,Nat.reduceLT,reduceCtorEq,zai (n:=1) (e:=(eI .i64)) rfl g5]
     replace j9:=qaa j9; subst j9;exact lfj hT9 rfl (wm0 [] (by exact trivial))
    rw[c6,qcE]at j9;try simp only[rnA,Nat.reduceEqDiff,Nat.reduceLT,reduceCtorEq]
    replace j9:=qaa j9; subst j9;exact lfj hT9 rfl (wm0 [] (by exact trivial))
   rintro v30 rfl;rw[congrFun hT9 v30];refine zab ?_;try simp only[rnA,Nat.reduceEqDiff,reduceCtorEq]
   cases c7:v30
   .rw[c7,qcF]at j5;obtain⟨x8,g9,j5⟩:=bind_some j5;try simp only[rnA,Nat.reduceEqDiff,Nat.reduceLT,reduceCtorEq,zai (n:=1) (e:=(eI .i64)) rfl g9]
    exact⟨((w64 (v3 * x8)),(w64 (v4+1))),j5,by rw[hT8]; exact wm0 [] (by exact trivial)⟩
   rw[c7,qcE]at j5;try simp only[rnA,Nat.reduceLT]
   replace j5:=qaa j5; subst j5;dsimp only at h;replace h:=qaa h; subst h;exact zbT.ret rfl (.lit _)
  rintro v3 rfl;dsimp only at h;rw[congrFun hT5 v3];refine zab ?_;try simp only[rnA,Nat.reduceEqDiff,Nat.reduceLT]
  replace h:=qaa h; subst h;exact zbT.ret rfl (.lit _)
 rw[c2,qcE]at h;try simp only[rnA,Nat.reduceLT]
 replace h:=qaa h; subst h;exact zbT.ret rfl (.lit _)
def zcD(p0:S_api_Gate)(p1:Int):Nat->Int->Option (Out Unit Bool)
 | 0,_=>none
 | n+1,v7=>(
bif (decide (v7<(p0.args.length:Int)))then(
(((zaH p0.args v7).bind λx14=>
bif (decide (x14<0))then(
some true)
else(
bif (decide (p1<=x14))then(
some true)
else(
bif (decide (0<v7))then(
(zaH p0.args (w64 (v7 - 1))).bind λx19=>
some (decide (x14<=x19)))
else(
some false))):Option Bool)).bind λv135=>
bif v135 then(
some (.ret false))
else(
zcD p0 p1 n (w64 (v7+1))))
else(
some (.go ())))
def zdu(p0:S_api_Gate)(p1:Int)(p2:(List Int)):Option Bool:=
((bif (p0.kind == 1)then(
bif (p0.kind == 2)then(
some false)
else(
bif (p0.var == 0)then(
some (!(p0.val == 0)))
else(
some true)))
else(
bif (p0.n == 0)then(
bif (p0.kind == 2)then(
some false)
else(
bif (p0.var == 0)then(
some (!(p0.val == 0)))
else(
some true)))
else(
some true)):Option Bool)).bind λv30=>
bif v30 then(
some false)
else(
bif (p0.kind == 1)then(
((bif (decide (0<=p0.n))then(
bif (decide (p0.n<=4611686018427387903))then(
some ((p0.args.length:Int)== 0))
else(
some false))
else(
some false):Option Bool)).bind λv6=>
some v6)
else(
bif (p0.kind == 2)then(
((bif (decide (0<=p0.var))then(
bif (decide (p0.var<(p2.length:Int)))then(
bif (decide (0<=p0.val))then(
(zaH p2 p0.var).bind λx25=>
bif (decide (p0.val<x25))then(
some ((p0.args.length:Int)== 0))
else(
some false))
else(
some false))
else(
some false))
else(
some false):Option Bool)).bind λv6=>
some v6)
else(
((bif (p0.kind == 3)then(
some ((p0.args.length:Int)== 0))
else(
bif (p0.kind == 4)then(
some ((p0.args.length:Int)== 0))
else(
some true)):Option Bool)).bind λv95=>
bif v95 then(
some false)
else(
((zcD p0 p1 ((p0.args.length:Int) - 0+2:Int).toNat 0:Option (Out Unit Bool))).bind λo=>match o with
| .go _=>(
some true)
| .ret r=>some r))))
def zh2:C:=
 .seq (rg [oW 3 0,
 oJ 6 false])
 (.seq (.seq (.scope (rg [oF 8 0 3,
 oL 9 8,
 oD 10 .neq 9 1,
 oM 11 10,
 oFg 12 3 3 11 true,
 oLg 13 12 11 true,
 oDg 14 .neq 13 0 11 true,
 ⟨some 15,.pick (.s 11) (.s 14) (.c (.bool false)),none⟩,
 oM 16 15,
 oFg 17 0 3 16 false,
 oLg 18 17 16 false,
 oDg 19 .neq 18 2 16 false,
 oMg 20 19 16 false,
 oFg 21 1 3 20 true,
 oLg 22 21 20 true,
 oDg 23 .neq 22 0 20 true,
 oMg 24 23 20 true,
 oFg 25 2 3 24 false,
 oLg 26 25 24 false,
 oDg 27 .neq 26 0 24 false,
 ⟨some 28,.pick (.s 24) (.c (.bool true)) (.s 27),some (20,true)⟩,
 ⟨some 29,.pick (.s 20) (.s 28) (.c (.bool false)),some (16,false)⟩,
 oP 30 16 29]))
 (.cond (.s 30) (.seq (rg [oJ 6 false])
 (.ret))
 (.skip)))
 (.seq (.seq (rg [oF 31 0 3,
 oL 32 31,
 oD 33 .eql 32 1])
 (.cond (.s 33) (.seq (.scope (rg [oF 34 3 3,
 oL 35 34,
 oD 36 .geq 35 0,
 oM 37 36,
 oFg 38 3 3 37 true,
 oLg 39 38 37 true,
 oDg 40 .leq 39 4611686018427387903 37 true,
 ⟨some 41,.pick (.s 37) (.s 40) (.c (.bool false)),none⟩,
 oM 42 41,
 oFg 43 4 3 42 true,
 oLg 44 43 42 true,
 ⟨some 45,.len (.s 44),some (42,true)⟩,
 oDg 46 .eql 45 0 42 true,
 ⟨some 47,.pick (.s 42) (.s 46) (.c (.bool false)),none⟩,
 oM 6 47]))
 (.ret))
 (.skip)))
 (.seq (.seq (rg [oF 48 0 3,
 oL 49 48,
 oD 50 .eql 49 2])
 (.cond (.s 50) (.seq (.scope (.reg true false [oF 51 1 3,
 oL 52 51,
 oD 53 .geq 52 0,
 oM 54 53,
 oFg 55 1 3 54 true,
 oLg 56 55 54 true,
 oMg 57 2 54 true,
 ⟨some 58,.len (.s 57),some (54,true)⟩,
 ⟨some 59,.bin .lss (.s 56) (.s 58),some (54,true)⟩,
 ⟨some 60,.pick (.s 54) (.s 59) (.c (.bool false)),none⟩,
 oM 61 60,
 oFg 62 2 3 61 true,
 oLg 63 62 61 true,
 oDg 64 .geq 63 0 61 true,
 ⟨some 65,.pick (.s 61) (.s 64) (.c (.bool false)),none⟩,
 oM 66 65,
 oFg 67 2 3 66 true,
 oLg 68 67 66 true,
 oMg 69 2 66 true,
 oFg 70 1 3 66 true,
 oLg 71 70 66 true,
 ⟨some 72,.idxS 1 (.s 69) (.s 71),some (66,true)⟩,
 oLg 73 72 66 true,
 ⟨some 74,.bin .lss (.s 68) (.s 73),some (66,true)⟩,
 ⟨some 75,.pick (.s 66) (.s 74) (.c (.bool false)),none⟩,
 oM 76 75,
 oFg 77 4 3 76 true,
 oLg 78 77 76 true,
 ⟨some 79,.len (.s 78),some (76,true)⟩,
 oDg 80 .eql 79 0 76 true,
 ⟨some 81,.pick (.s 76) (.s 80) (.c (.bool false)),none⟩,
 oM 6 81]))
 (.ret))
 (.skip)))
 (.seq (.seq (.scope (rg [oF 82 0 3,
 oL 83 82,
 oD 84 .neq 83 3,
 oM 85 84,
 oFg 86 0 3 85 true,
 oLg 87 86 85 true,
 oDg 88 .neq 87 4 85 true,
 ⟨some 89,.pick (.s 85) (.s 88) (.c (.bool false)),none⟩,
 oM 90 89,
 oFg 91 4 3 90 false,
 oLg 92 91 90 false,
 ⟨some 93,.len (.s 92),some (90,false)⟩,
 oDg 94 .eql 93 0 90 false,
 oP 95 90 94]))
 (.cond (.s 95) (.seq (rg [oJ 6 false])
 (.ret))
 (.skip)))
 (.seq (.seq (rg [oK 7 0])
 (.scope (.block 0 (.loop (.seq (.seq (rg [oM 96 7,
 oF 97 4 3,
 oL 98 97,
 oE 99 98,
 oB 100 .lss 96 99])
 (.cond (.s 100) (.skip)
 (.exit 0)))
 (.seq (.block 1 (.seq (.scope (.reg true false [oF 103 4 3,
 oL 104 103,
 oM 105 7,
 oI 106 1 104 105,
 oL 107 106,
 oD 108 .lss 107 0,
 oM 109 108,
 oFg 110 4 3 109 false,
 oLg 111 110 109 false,
 oMg 112 7 109 false,
 ⟨some 113,.idxS 1 (.s 111) (.s 112),some (109,false)⟩,
 oLg 114 113 109 false,
 oMg 115 1 109 false,
 ⟨some 116,.bin .geq (.s 114) (.s 115),some (109,false)⟩,
 oP 117 109 116,
 oM 118 117,
 oMg 119 7 118 false,
 oDg 120 .gtr 119 0 118 false,
 oMg 121 120 118 false,
 oFg 122 4 3 121 true,
 oLg 123 122 121 true,
 oMg 124 7 121 true,
 ⟨some 125,.idxS 1 (.s 123) (.s 124),some (121,true)⟩,
 oLg 126 125 121 true,
 oFg 127 4 3 121 true,
 oLg 128 127 121 true,
 oMg 129 7 121 true,
 oDg 130 .sub 129 1 121 true,
 ⟨some 131,.idxS 1 (.s 128) (.s 130),some (121,true)⟩,
 oLg 132 131 121 true,
 ⟨some 133,.bin .leq (.s 126) (.s 132),some (121,true)⟩,
 ⟨some 134,.pick (.s 121) (.s 133) (.c (.bool false)),some (118,false)⟩,
 oP 135 118 134]))
 (.cond (.s 135) (.seq (rg [oJ 6 false])
 (.ret))
 (.skip))))
 (rg [oM 101 7,
 oD 102 .add 101 1,
 oM 7 102])))))))
 (.seq (rg [oJ 6 true])
 (.ret)))))))
theorem zjQ:znz mC 53=some (136,zh2,[.tmp 6],false):=zea (by kernel_rfl)
theorem zlf{p0:S_api_Gate}{p1:Int}{p2:(List Int)}{r:Bool}(h:zdu p0 p1 p2=some r):Lx.Fn mC 53 [(.agg [(dI p0.kind),(dI p0.var),(dI p0.val),(dI p0.n),(fzE false (eI .i64) p0.args)]),(dI p1),(fzE false (eI .i64) p2)] (dB r):=by
 refine Fn.of zjQ (zdc rfl) (qai rfl) ?_;unfold zdu at h;simp only[zh2,zvq];refine zab ?_;try simp only[rnA,Nat.reduceLT,Nat.reduceAdd,reduceCtorEq]
 obtain⟨o1,j1,h⟩:=bind_some h;obtain⟨T1,hT1⟩:=mkT λa:Bool=>⟨136,[(1,(dI p1)),(2,(fzE false (eI .i64) p2)),(3,(.ptr 0 0)),(30,(dB a))],[.cells [(dI p0.kind),(dI p0.var),(dI p0.val),(dI p0.n),(fzE false (eI .i64) p0.args)]]⟩
 refine EvL.jn T1 (λa=>a=o1) ?_ ?_
 .refine zab ?_;try simp only[rnA,Nat.reduceEqDiff,Nat.reduceLT,reduceCtorEq]
  cases c1:(p0.kind == 1)
  .rw[c1,qcF]at j1;try simp only[rnA,Nat.reduceEqDiff,Nat.reduceLT,reduceCtorEq]
   cases c2:(p0.n == 0)
   .rw[c2,qcF]at j1;try simp only[rnA,Nat.reduceEqDiff,Nat.reduceLT,reduceCtorEq]
    replace j1:=qaa j1; subst j1;exact lfj hT1 rfl (wm0 [.k] ⟨MB.cs ⟨qcD,qcD,qcD,qcD,qcD,qcD⟩,qcD⟩)
   rw[c2,qcE]at j1;try simp only[rnA,Nat.reduceEqDiff,Nat.reduceLT,reduceCtorEq]
   cases c3:(p0.kind == 2)
   .rw[c3,qcF]at j1;try simp only[rnA,Nat.reduceEqDiff,Nat.reduceLT,reduceCtorEq]
    cases c4:(p0.var == 0)
    .rw[c4,qcF]at j1;try simp only[rnA,Nat.reduceEqDiff,Nat.reduceLT,reduceCtorEq]
     replace j1:=qaa j1; subst j1;exact lfj hT1 rfl (wm0 [.k] ⟨MB.cs ⟨qcD,qcD,qcD,qcD,qcD,qcD⟩,qcD⟩)
    rw[c4,qcE]at j1;try simp only[rnA,Nat.reduceEqDiff,Nat.reduceLT,reduceCtorEq]
    replace j1:=qaa j1; subst j1;exact lfj hT1 rfl (wm0 [.k] ⟨MB.cs ⟨qcD,qcD,qcD,qcD,qcD,qcD⟩,qcD⟩)
   rw[c3,qcE]at j1;try simp only[rnA,Nat.reduceEqDiff,Nat.reduceLT,reduceCtorEq]
   replace j1:=qaa j1; subst j1;exact lfj hT1 rfl (wm0 [.k] ⟨MB.cs ⟨qcD,qcD,qcD,qcD,qcD,qcD⟩,qcD⟩)
  rw[c1,qcE]at j1;try simp only[rnA,Nat.reduceEqDiff,Nat.reduceLT,reduceCtorEq]
  cases c5:(p0.kind == 2)
  .rw[c5,qcF]at j1;try simp only[rnA,Nat.reduceEqDiff,Nat.reduceLT,reduceCtorEq]
   cases c6:(p0.var == 0)
   .rw[c6,qcF]at j1;try simp only[rnA,Nat.reduceEqDiff,Nat.reduceLT,reduceCtorEq]
    replace j1:=qaa j1; subst j1;exact lfj hT1 rfl (wm0 [.k] ⟨MB.cs ⟨qcD,qcD,qcD,qcD,qcD,qcD⟩,qcD⟩)
   rw[c6,qcE]at j1;try simp only[rnA,Nat.reduceEqDiff,Nat.reduceLT,reduceCtorEq]
   replace j1:=qaa j1; subst j1;exact lfj hT1 rfl (wm0 [.k] ⟨MB.cs ⟨qcD,qcD,qcD,qcD,qcD,qcD⟩,qcD⟩)
  rw[c5,qcE]at j1;try simp only[rnA,Nat.reduceEqDiff,Nat.reduceLT,reduceCtorEq]
  replace j1:=qaa j1; subst j1;exact lfj hT1 rfl (wm0 [.k] ⟨MB.cs ⟨qcD,qcD,qcD,qcD,qcD,qcD⟩,qcD⟩)
 rintro v30 rfl;rw[congrFun hT1 v30];refine zab ?_;try simp only[rnA,Nat.reduceEqDiff]
 cases c7:v30
 .rw[c7,qcF]at h;try simp only[rnA,Nat.reduceEqDiff,Nat.reduceLT]
  cases c8:(p0.kind == 1)
  .rw[c8,qcF]at h;try simp only[rnA,Nat.reduceEqDiff,Nat.reduceLT]
   cases c9:(p0.kind == 2)
   .rw[c9,qcF]at h;try simp only[rnA]
    obtain⟨o2,j2,h⟩:=bind_some h;obtain⟨T2,hT2⟩:=mkT λa:Bool=>⟨136,[(1,(dI p1)),(3,(.ptr 0 0)),(95,(dB a))],[.cells [(dI p0.kind),(dI p0.var),(dI p0.val),(dI p0.n),(fzE false (eI .i64) p0.args)]]⟩
    refine EvL.jn T2 (λa=>a=o2) ?_ ?_
    .refine zab ?_;try simp only[rnA,Nat.reduceEqDiff,Nat.reduceLT]
     cases c10:(p0.kind == 3)
     .rw[c10,qcF]at j2;try simp only[rnA,Nat.reduceEqDiff,Nat.reduceLT]
      cases c11:(p0.kind == 4)
      .rw[c11,qcF]at j2;try simp only[rnA,Nat.reduceEqDiff,Nat.reduceLT]
       replace j2:=qaa j2; subst j2;exact lfj hT2 rfl (wm0 [.k] ⟨MB.cs ⟨qcD,qcD,qcD,qcD,qcD,qcD⟩,qcD⟩)
      rw[c11,qcE]at j2;try simp only[rnA,Nat.reduceEqDiff,Nat.reduceLT,zaf]
      replace j2:=qaa j2; subst j2;exact lfj hT2 rfl (wm0 [.k] ⟨MB.cs ⟨qcD,qcD,qcD,qcD,qcD,qcD⟩,qcD⟩)
     rw[c10,qcE]at j2;try simp only[rnA,Nat.reduceEqDiff,Nat.reduceLT,zaf]
     replace j2:=qaa j2; subst j2;exact lfj hT2 rfl (wm0 [.k] ⟨MB.cs ⟨qcD,qcD,qcD,qcD,qcD,qcD⟩,qcD⟩)
    rintro v95 rfl;rw[congrFun hT2 v95];refine zab ?_;try simp only[rnA,Nat.reduceEqDiff]
    cases c12:v95
    .rw[c12,qcF]at h;try simp only[rnA,Nat.reduceLT]
     obtain⟨o6,j6,h⟩:=bind_some h;obtain⟨T6,hT6⟩:=mkT λa:Unit=>⟨136,[],[]⟩
     refine EvL.jn T6 (λa=>o6=.go a) ?_ ?_
     .refine zab ?_;simp only[rnA];obtain⟨T9,hT9⟩:=mkT λa:Int=>⟨136,[(1,(dI p1)),(3,(.ptr 0 0)),(7,(dI a))],[.cells [(dI p0.kind),(dI p0.var),(dI p0.val),(dI p0.n),(fzE false (eI .i64) p0.args)]]⟩
      refine EvL.rounds (α:=Int) T9 (λn a=>zcD p0 p1 n a=some o6) ((p0.args.length:Int) - 0+2:Int).toNat 0 (by rw[hT9]; exact wm0 [.k] ⟨MB.cs ⟨qcD,qcD,qcD,qcD,qcD,qcD⟩,qcD⟩) j6 (λ_ h=>nomatch (show(none:Option (Out Unit Bool))=some o6 from h)) ?_;rintro n v7 j6;simp only[zcD]at j6;rw[congrFun hT9 v7];refine zab ?_;try simp only[rnA,Nat.reduceEqDiff,Nat.reduceLT,zaf]
      cases c13:(decide (v7<(p0.args.length:Int)))
      .rw[c13,qcF]at j6;try simp only[rnA]
       replace j6:=qaa j6; subst j6;exact lfj hT6 rfl (wm0 [] (by exact trivial))
      rw[c13,qcE]at j6;try simp only[rnA]
      obtain⟨o10,j10,j6⟩:=bind_some j6;obtain⟨T10,hT10⟩:=mkT λa:Bool=>⟨136,[(1,(dI p1)),(3,(.ptr 0 0)),(7,(dI v7)),(135,(dB a))],[.cells [(dI p0.kind),(dI p0.var),(dI p0.val),(dI p0.n),(fzE false (eI .i64) p0.args)]]⟩
      refine EvL.jn T10 (λa=>a=o10) ?_ ?_
      .refine zab ?_;obtain⟨x14,g15,j10⟩:=bind_some j10;try simp only[rnA,Nat.reduceEqDiff,Nat.reduceLT,zai (n:=1) (e:=(eI .i64)) rfl g15]
       cases c16:(decide (x14<0))
       .rw[c16,qcF]at j10;try simp only[rnA,Nat.reduceEqDiff,Nat.reduceLT,zai (n:=1) (e:=(eI .i64)) rfl g15]
        cases c17:(decide (p1<=x14))
        .rw[c17,qcF]at j10;try simp only[rnA,Nat.reduceEqDiff,Nat.reduceLT]
         cases c18:(decide (0<v7))
         .rw[c18,qcF]at j10;try simp only[rnA,Nat.reduceEqDiff,Nat.reduceLT]
          replace j10:=qaa j10; subst j10;exact lfj hT10 rfl (wm0 [.k] ⟨MB.cs ⟨qcD,qcD,qcD,qcD,qcD,qcD⟩,qcD⟩)
         rw[c18,qcE]at j10;obtain⟨x19,g20,j10⟩:=bind_some j10;try simp only[rnA,Nat.reduceEqDiff,Nat.reduceLT,zai (n:=1) (e:=(eI .i64)) rfl g15,zai (n:=1) (e:=(eI .i64)) rfl g20]
         replace j10:=qaa j10; subst j10;exact lfj hT10 rfl (wm0 [.k] ⟨MB.cs ⟨qcD,qcD,qcD,qcD,qcD,qcD⟩,qcD⟩)
        rw[c17,qcE]at j10;try simp only[rnA,Nat.reduceEqDiff,Nat.reduceLT]
        replace j10:=qaa j10; subst j10;exact lfj hT10 rfl (wm0 [.k] ⟨MB.cs ⟨qcD,qcD,qcD,qcD,qcD,qcD⟩,qcD⟩)
       rw[c16,qcE]at j10;try simp only[rnA,Nat.reduceEqDiff,Nat.reduceLT]
       replace j10:=qaa j10; subst j10;exact lfj hT10 rfl (wm0 [.k] ⟨MB.cs ⟨qcD,qcD,qcD,qcD,qcD,qcD⟩,qcD⟩)
      rintro v135 rfl;rw[congrFun hT10 v135];refine zab ?_;try simp only[rnA,Nat.reduceEqDiff]
      cases c21:v135
      .rw[c21,qcF]at j6;try simp only[rnA,Nat.reduceEqDiff,Nat.reduceLT]
       exact⟨(w64 (v7+1)),j6,by rw[hT9]; exact wm0 [.k] ⟨MB.cs ⟨qcD,qcD,qcD,qcD,qcD,qcD⟩,qcD⟩⟩
      rw[c21,qcE]at j6;try simp only[rnA,Nat.reduceLT]
      replace j6:=qaa j6; subst j6;dsimp only at h;replace h:=qaa h; subst h;exact zbT.ret rfl (.lit _)
     rintro⟨⟩ rfl;dsimp only at h;rw[congrFun hT6 ()];refine zab ?_;try simp only[rnA,Nat.reduceLT]
     replace h:=qaa h; subst h;exact zbT.ret rfl (.lit _)
    rw[c12,qcE]at h;try simp only[rnA,Nat.reduceLT]
    replace h:=qaa h; subst h;exact zbT.ret rfl (.lit _)
   rw[c9,qcE]at h;try simp only[rnA]
   obtain⟨o11,j11,h⟩:=bind_some h;obtain⟨T11,hT11⟩:=mkT λa:Bool=>⟨136,[(6,(dB a))],[]⟩
   refine EvL.jn T11 (λa=>a=o11) ?_ ?_
   .refine zab ?_;try simp only[rnA,Nat.reduceEqDiff,Nat.reduceLT]
    cases c22:(decide (0<=p0.var))
    .rw[c22,qcF]at j11;try simp only[rnA,Nat.reduceEqDiff,Nat.reduceLT]
     replace j11:=qaa j11; subst j11;exact lfj hT11 rfl (wm0 [] (by exact trivial))
    rw[c22,qcE]at j11;try simp only[rnA,Nat.reduceEqDiff,Nat.reduceLT,zaf]
    cases c23:(decide (p0.var<(p2.length:Int)))
    .rw[c23,qcF]at j11;try simp only[rnA,Nat.reduceEqDiff,Nat.reduceLT]
     replace j11:=qaa j11; subst j11;exact lfj hT11 rfl (wm0 [] (by exact trivial))
    rw[c23,qcE]at j11;try simp only[rnA,Nat.reduceEqDiff,Nat.reduceLT]
    cases c24:(decide (0<=p0.val))
    .rw[c24,qcF]at j11;try simp only[rnA,Nat.reduceEqDiff,Nat.reduceLT]
     replace j11:=qaa j11; subst j11;exact lfj hT11 rfl (wm0 [] (by exact trivial))
    rw[c24,qcE]at j11;obtain⟨x25,g26,j11⟩:=bind_some j11;try simp only[rnA,Nat.reduceEqDiff,Nat.reduceLT,zai (n:=1) (e:=(eI .i64)) rfl g26]
    cases c27:(decide (p0.val<x25))
    .rw[c27,qcF]at j11;try simp only[rnA,Nat.reduceEqDiff,Nat.reduceLT]
     replace j11:=qaa j11; subst j11;exact lfj hT11 rfl (wm0 [] (by exact trivial))
    rw[c27,qcE]at j11;try simp only[rnA,Nat.reduceEqDiff,Nat.reduceLT,zaf]
    replace j11:=qaa j11; subst j11;exact lfj hT11 rfl (wm0 [] (by exact trivial))
   rintro v6 rfl;rw[congrFun hT11 v6];refine zab ?_;try simp only[rnA]
   replace h:=qaa h; subst h;exact zbT.ret rfl (.lit _)
  rw[c8,qcE]at h;try simp only[rnA]
  obtain⟨o12,j12,h⟩:=bind_some h;obtain⟨T12,hT12⟩:=mkT λa:Bool=>⟨136,[(6,(dB a))],[]⟩
  refine EvL.jn T12 (λa=>a=o12) ?_ ?_
  .refine zab ?_;try simp only[rnA,Nat.reduceEqDiff,Nat.reduceLT]
   cases c28:(decide (0<=p0.n))
   .rw[c28,qcF]at j12;try simp only[rnA,Nat.reduceEqDiff,Nat.reduceLT]
    replace j12:=qaa j12; subst j12;exact lfj hT12 rfl (wm0 [] (by exact trivial))
   rw[c28,qcE]at j12;try simp only[rnA,Nat.reduceEqDiff,Nat.reduceLT]
   cases c29:(decide (p0.n<=4611686018427387903))
   .rw[c29,qcF]at j12;try simp only[rnA,Nat.reduceEqDiff,Nat.reduceLT]
    replace j12:=qaa j12; subst j12;exact lfj hT12 rfl (wm0 [] (by exact trivial))
   rw[c29,qcE]at j12;try simp only[rnA,Nat.reduceEqDiff,Nat.reduceLT,zaf]
   replace j12:=qaa j12; subst j12;exact lfj hT12 rfl (wm0 [] (by exact trivial))
  rintro v6 rfl;rw[congrFun hT12 v6];refine zab ?_;try simp only[rnA]
  replace h:=qaa h; subst h;exact zbT.ret rfl (.lit _)
 rw[c7,qcE]at h;try simp only[rnA,Nat.reduceLT]
 replace h:=qaa h; subst h;exact zbT.ret rfl (.lit _)
def zs7(k n:Int)(x:S_api_Gate):S_api_Gate:=
 bif k == 0 then { x with kind:=n }else bif k == 1 then { x with var:=n }else bif k == 2 then { x with val:=n }else bif k == 3 then { x with n:=n }
 else bif k == 4 then { x with args:=x.args ++ [n] }else bif k == 5 then { x with args:=x.args.drop 1 }else x
def zvw(c:S_api_Circuit):Prop:=(c.gates.length+1)* 56<=zag/\(c.cards.length+1)* 8<=zag/\∀ y∈c.gates,(y.args.length+1)* 8<=zag
instance (c:S_api_Circuit):Decidable (zvw c):=by unfold zvw; infer_instance
def zeX(b:S_haruspexref15_Bend)(c:S_api_Circuit):Option S_api_Circuit:=
 if 0<=b.what/\b.what<=255/\0<=b.at_/\b.at_<=255/\zvw c then
  (bif c.gates.length == 0 || c.cards.length == 0 then some c
  else match c.gates[b.at_.toNat % c.gates.length]? with
   | none=>none
   | some x=>some (bif b.what.tmod 9 == 6 then { c with cards:=c.cards.set (b.at_.toNat % c.cards.length) b.n }
    else bif b.what.tmod 9 == 7 then { c with gates:=c.gates.take (c.gates.length - 1) }
    else bif b.what.tmod 9 == 8 then { c with cards:=c.cards ++ [b.n] }
    else { c with gates:=c.gates.set (b.at_.toNat % c.gates.length) (zs7 (b.what.tmod 9) b.n x) }))else none
abbrev sB(a n l:Nat):D:=.sl a 0 n l none l
abbrev gB(l:List Int):LB:=.grow 1 (l.map ((eI .i64).c true))
def opB(x:S_api_Gate):List D:=[dI x.kind,dI x.var,dI x.val,dI x.n,sB 5 1 x.args.length]
def zum(p0:S_haruspexref15_Bend)(c:S_api_Circuit)(t a:Nat)(x:S_api_Gate):List LB:=
 bif decide (a<=t)then [.cells [dU8 p0.what,dU8 p0.at_,dI p0.n],.cells [fzE false (eI .i64) c.cards,fzE false zaa c.gates],.cells [zcu,zcu],.grow 5 ((c.gates.take a).map (zaa.c true))]
 else [.cells [dU8 p0.what,dU8 p0.at_,dI p0.n],.cells [fzE false (eI .i64) c.cards,fzE false zaa c.gates],.cells [zcu,zcu],.grow 5 (((c.gates.take a).map (zaa.c true)).set t (opB x)),.gone,gB x.args]
variable{p0:S_haruspexref15_Bend}{c:S_api_Circuit}{t:Nat}{x:S_api_Gate}
theorem zi7{a:Nat}(h:a<=t):zum p0 c t a x=[.cells [dU8 p0.what,dU8 p0.at_,dI p0.n],.cells [fzE false (eI .i64) c.cards,fzE false zaa c.gates],.cells [zcu,zcu],.grow 5 ((c.gates.take a).map (zaa.c true))]:=by
 unfold zum; rw[qcG h,qcE]
theorem ziG{a:Nat}(h:¬ a<=t):zum p0 c t a x=[.cells [dU8 p0.what,dU8 p0.at_,dI p0.n],.cells [fzE false (eI .i64) c.cards,fzE false zaa c.gates],.cells [zcu,zcu],.grow 5 (((c.gates.take a).map (zaa.c true)).set t (opB x)),.gone,gB x.args]:=by
 unfold zum; rw[qcH h,qcF]
theorem zml{L:List LB}{F kp:Nat->Bool}:∀ {es:List (List D)},(∀ cs∈es,D.zfY kp cs)->Mt L F kp es es
 | [],_=>.nil
 | c :: es,h=>.cons (Mos.kin (h c (.head _))) (zml λcs hm=>h cs (.tail _ hm))
variable{kp:Nat->Bool}
theorem zpP(h:kp 5=true):D.zfY kp (opB x):=⟨qcD,qcD,qcD,qcD,h,qcD⟩
theorem zsE(kp:Nat->Bool)(gs:List S_api_Gate):∀ cs∈gs.map (zaa.c true),D.zfY kp cs:=ziO zaa kp true gs
theorem zwl{es:List (List D)}{i:Nat}{c:List D}(h:∀ cs∈es,D.zfY kp cs)(hc:D.zfY kp c):∀ cs∈es.set i c,D.zfY kp cs:=by
 intro cs hm;rcases qbn hm with hm | rfl
 .exact h cs hm
 exact hc
variable{L:List LB}
theorem pwB{gs:List S_api_Gate}{op:List D}{y:S_api_Gate}(hop:Snps L true op (zaa.c true y)):
  Pw (Snp L true) ((gs.map (zaa.c true)).set t op) ((gs.set t y).map (zaa.c true)):=by
 rw[qcf];exact Pw.set (Pw.map (λx=>⟨(zaa.snp (L:=L) x λh=>h).len,(zaa.snp (L:=L) x λh=>h).get⟩) gs) hop.len hop.get _
theorem zvr{gs:List S_api_Gate}{op:List D}(h:t<gs.length)(hop:Snps L true op (zaa.c true gs[t])):
  Pw (Snp L true) ((gs.map (zaa.c true)).set t op) (gs.map (zaa.c true)):=by
 have:=pwB hop (gs:=gs) (t:=t)
 rwa [List.set_getElem_self]at this
theorem zus{P:D->D->Prop}{a b:List (List D)}(h:Pw P a b):∀ n:Nat,Pw P (a.take n) (b.take n):=by
 induction h with
 | nil=>intro n; simp; exact .nil
 | cons g1 g2 _ ih=>
  intro n;cases n with
  | zero=>exact .nil
  | succ n=>exact .cons g1 g2 (ih n)
theorem zsw{t':Bool}{β n len st:Nat}{cap:Option Nat}{e:En α}{els:List (List D)}(hn:n=e.n)(he:L[β]? = some (.els n els)\/L[β]? = some (.grow n els))(hs:st=els.length)(hl:len<=els.length)(hc:∀ k,cap=some k->len<=k)(h:Pw (Snp L t') (els.take len) (xs.map (e.c t'))):Snp L t' (.sl β 0 n len cap st) (fzE t' e xs):=by
 subst hn;have hlen:=h.len;rw[qaQ,qbB hl]at hlen;have hget:∀(i:Nat) (cells cells':List D),els[0+i]? = some cells->(xs.map (e.c t'))[i]? = some cells'->(els.take len)[i]? = some cells:=by
  intro i cells cells' h1 h2;have hi:=(qac.1 h2).1;rw[qat,if_pos (by omega),<- h1,qaT]
 refine .sl (zhb he hs) (by simp[hl]) hc hlen (λi cells cells' h1 h2=>(h.get i _ _ (hget i _ _ h1 h2) h2).1) λi k cells cells' d d' h1 h2 h3 h4=>(h.get i _ _ (hget i _ _ h1 h2) h2).2 k d d' h3 h4
theorem zuf{β n len st:Nat}{e:En α}(hn:n=e.n)(he:L[β]? = some (.els n (xs.map (e.c true)))\/L[β]? = some (.grow n (xs.map (e.c true))))(hs:st=xs.length)(hl:len+1=xs.length):Snp L true (.sl β 1 n len none st) (fzE true e (xs.drop 1)):=by
 subst hn;have hg:∀(i:Nat) (cells cells':List D),(xs.map (e.c true))[1+i]? = some cells->((xs.drop 1).map (e.c true))[i]? = some cells'->∃ y,cells=e.c true y/\cells'=e.c true y:=by
  intro i cells cells' h1 h2;rw[List.map_drop,qau]at h2;rw[h1]at h2;rw[qaR]at h1;cases hx:xs[1+i]? with
  | none=>rw[hx]at h1; cases h1
  | some y=>rw[hx]at h1; cases h1; exact⟨y,rfl,(qaa h2).symm⟩
 refine .sl (zhb he (by simpa using hs)) (by simp; omega) (λk h=>nomatch h) (by simp; omega) (λi cells cells' h1 h2=>?_) λi k cells cells' d d' h1 h2 h3 h4=>?_
 .obtain⟨y,rfl,rfl⟩:=hg i cells cells' h1 h2; rfl
 obtain⟨y,rfl,rfl⟩:=hg i cells cells' h1 h2;exact(e.snp (L:=L) y λh=>h).get k d d' h3 h4
theorem zi4{p1 r:S_api_Circuit}(h:zeX p0 p1=some r):Lx.Fn mC 50 [(.agg [(dU8 p0.what),(dU8 p0.at_),(dI p0.n)]),(.agg [(fzE false (eI .i64) p1.cards),(fzE false zaa p1.gates)])] (.agg [(fzE true (eI .i64) r.cards),(fzE true zaa r.gates)]):=by
 refine gnO ?_;unfold zeX at h;split at h
 case isFalse=>cases h
 rename_i hg;obtain⟨hw0,hw1,ha0,ha1,hfit⟩:=hg;refine zab ?_;simp only[rnA,Nat.reduceEqDiff,Nat.reduceLT,Nat.reduceAdd,reduceCtorEq];have hmb:zag=140737488355328:=rfl;obtain⟨hf1,hf2,hf3⟩:=hfit;by_cases hnil:p1.gates.length=0
 .obtain⟨cards,gates⟩:=p1;obtain rfl:gates=[]:=qar hnil;have hr:some (⟨cards,[]⟩:S_api_Circuit)=some r:=h;cases hr;have c1:decide (((0:Nat):Int)<((0:Nat):Int))=false:=rfl;refine EvL.jn (α:=Unit) (λ_=>⟨149,[(2,.ptr 0 0),(3,.ptr 1 0),(4,.ptr 2 0),(5,sB 3 5 0)],[.cells [dU8 p0.what,dU8 p0.at_,dI p0.n],.cells [fzE false (eI .i64) cards,fzE false zaa []],.cells [zcu,zcu],.grow 5 []]⟩) (λ_=>True) ?_ (λ_ _=>?_)
  .refine zab ?_;simp only[rnA];refine EvL.zpL (zbQ.ghost (n:=5) (k:=5) (by decide) rfl) ?_;refine EvL.loop (α:=Unit) (λ_=>⟨149,[(2,.ptr 0 0),(3,.ptr 1 0),(4,.ptr 2 0),(5,sB 3 5 0),(6,dI ((0:Nat):Int))],[.cells [dU8 p0.what,dU8 p0.at_,dI p0.n],.cells [fzE false (eI .i64) cards,fzE false zaa []],.cells [zcu,zcu],.grow 5 []]⟩) (λ_=>True) (λ_=>0) () (by refine zbQ.sub ?_; exact⟨rfl,rfl,rfl,rfl,rfl,qcD⟩) trivial ?_;intro _ _;refine zab ?_;simp only[rnA,Nat.reduceEqDiff,Nat.reduceLT,zaf,c1];exact⟨(),qcD,by refine zbQ.sub ?_; exact⟨rfl,rfl,rfl,rfl,qcD⟩⟩
  have hsc:∀ L,zjm L 1 (fzE false (eI .i64) cards)=some (cards.map ((eI .i64).c true)):=λL=>zje (e:=(eI .i64)) rfl _ L false
  have hpc:cards.length * 8<=zag:=by simp only at hf2; omega
  refine zab ?_;simp only[rnA,Nat.reduceEqDiff,Nat.reduceLT,Nat.reduceAdd,Nat.reduceLeDiff,hsc,hpc];refine EvL.scope (zab ?_);simp only[rnA,Nat.reduceEqDiff,Nat.reduceLT,Nat.reduceAdd,Nat.reduceLeDiff,(show(((0:Nat):Int)== 0)=true from rfl)];exact zbT.ret rfl (.zdp (.cons (zaz (e:=(eI .i64)) (t:=true) rfl (.inr rfl) rfl rfl (λk h=>nomatch h) (λ_=>rfl)) (.cons (zaz (e:=zaa) (t:=true) (xs:=[]) rfl (.inr rfl) rfl rfl (λk h=>nomatch h) (λ_=>rfl)) .nil)))
 have htl:p0.at_.toNat % p1.gates.length<p1.gates.length:=qbw _ (by omega);generalize ht:p0.at_.toNat % p1.gates.length=t at htl h;obtain⟨x,hx⟩:∃ x,p1.gates[t]=x:=⟨_,rfl⟩;have hxg:p1.gates[t]? = some x:=by rw[qae htl,hx]
 rw[hxg]at h;simp only at h;refine EvL.jn (α:=Unit) (λ_=>⟨149,[(2,.ptr 0 0),(3,.ptr 1 0),(4,.ptr 2 0),(5,sB 3 5 p1.gates.length)],[.cells [dU8 p0.what,dU8 p0.at_,dI p0.n],.cells [fzE false (eI .i64) p1.cards,fzE false zaa p1.gates],.cells [zcu,zcu],.grow 5 ((p1.gates.map (zaa.c true)).set t (opB x)),.gone,gB x.args]⟩) (λ_=>True) ?_ (λ_ _=>?_)
 .refine zab ?_;simp only[rnA];refine EvL.zpL (zbQ.ghost (n:=5) (k:=5) (by decide) rfl) ?_;refine EvL.loop (α:=Nat) (λa=>⟨149,[(2,.ptr 0 0),(3,.ptr 1 0),(4,.ptr 2 0),(5,sB 3 5 a),(6,dI a)],zum p0 p1 t a x⟩) (λa=>a<=p1.gates.length) (λa=>p1.gates.length - a) 0 (by rw[zi7 (qaA _)]; refine zbQ.sub ?_; exact⟨rfl,rfl,rfl,rfl,rfl,qcD⟩) (qaA _) ?_;intro a ha;refine zab ?_;by_cases hal:a<p1.gates.length
  .have g3:zaH p1.gates (a:Int)=some p1.gates[a]:=zmy hal;have hya:=hf3 p1.gates[a] (qax _);have hsucc:(p1.gates.take (a+1)).map (zaa.c true)=(p1.gates.take a).map (zaa.c true)++ [zaa.c true p1.gates[a]]:=by rw[List.take_succ_eq_append_getElem hal,qco]; rfl
   have hlen:((p1.gates.take a).map (zaa.c true)).length=a:=by simp; omega
   have hxy:a=t->p1.gates[a]=x:=λe=>by subst e; exact hx
   generalize p1.gates[a]=y at g3 hya hsucc hxy;have c1:decide ((a:Int)<(p1.gates.length:Int))=true:=qcG (by omega);have hw:IntKind.i64.wrap ((a:Int)+1)=((a+1:Nat):Int):=by rw[wrap64 (by omega) (by omega)]; omega
   have hmf:(a+1)* 56<=zag:=by omega
   have hpf:y.args.length * 8<=zag:=by omega
   have hsr:∀ L,zjm L 1 (fzE false (eI .i64) y.args)=some (y.args.map ((eI .i64).c true)):=λL=>zje (e:=(eI .i64)) rfl _ L false
   rcases Nat.lt_trichotomy a t with hat | hat | hat
   .rw[zi7 (Nat.le_of_lt hat)];simp only[rnA,Nat.reduceEqDiff,Nat.reduceLT,Nat.reduceAdd,Nat.reduceLeDiff,zal,zai (n:=5) (e:=zaa) rfl g3,zaf,c1,hpf,hsr,hlen,hmf,hw];refine⟨a+1,hal,by omega,?_⟩;rw[zi7 hat,hsucc];exact wm0 [.k,.k,.k,.k,.d,.f] ⟨MB.cs ⟨qcD,qcD,qcD,qcD⟩,⟨MB.cs ⟨qcD,qcD,qcD⟩,⟨MB.cs ⟨qcD,qcD,qcD⟩,⟨MB.zpx (Mt.app (zml (zsE _ _)) (.cons (.cons (.same trivial) (.cons (.same trivial) (.cons (.same trivial) (.cons (.same trivial) (.cons (.fr (zgV (e:=(eI .i64)) (t:=true) rfl rfl (.inr rfl) rfl rfl (λk h=>nomatch h) (λh=>by cases h<;>rfl))) .nil))))) .nil)),qcD⟩⟩⟩⟩
   .subst hat;obtain rfl:=hxy rfl;rw[zi7 (qam _)];simp only[rnA,Nat.reduceEqDiff,Nat.reduceLT,Nat.reduceAdd,Nat.reduceLeDiff,zal,zai (n:=5) (e:=zaa) rfl g3,zaf,c1,hpf,hsr,hlen,hmf,hw];refine⟨a+1,hal,by omega,?_⟩;rw[ziG (by omega),hsucc,qb6 _ _ (by omega),hlen,qcg,qbS];exact wm0 [.k,.k,.k,.k,.d,.k] ⟨MB.cs ⟨qcD,qcD,qcD,qcD⟩,⟨MB.cs ⟨qcD,qcD,qcD⟩,⟨MB.cs ⟨qcD,qcD,qcD⟩,⟨MB.zpx (Mt.app (zml (zsE _ _)) (.cons (Mos.kin (zpP rfl)) .nil)),⟨rfl,⟨MB.gs (eI .i64) true _,qcD⟩⟩⟩⟩⟩⟩
   have hsl:(((p1.gates.take a).map (zaa.c true)).set t (opB x)).length=a:=by rw[qaG,hlen]
   rw[ziG (by omega)];simp only[rnA,Nat.reduceEqDiff,Nat.reduceLT,Nat.reduceAdd,Nat.reduceLeDiff,zal,zai (n:=5) (e:=zaa) rfl g3,zaf,c1,hpf,hsr,hsl,hmf,hw];refine⟨a+1,hal,by omega,?_⟩;rw[ziG (by omega),hsucc,qcB _ _ (by omega)];exact wm0 [.k,.k,.k,.k,.d,.k,.d,.f] ⟨MB.cs ⟨qcD,qcD,qcD,qcD⟩,⟨MB.cs ⟨qcD,qcD,qcD⟩,⟨MB.cs ⟨qcD,qcD,qcD⟩,⟨MB.zpx (Mt.app (zml (zwl (zsE _ _) (zpP rfl))) (.cons (.cons (.same trivial) (.cons (.same trivial) (.cons (.same trivial) (.cons (.same trivial) (.cons (.fr (zgV (e:=(eI .i64)) (t:=true) rfl rfl (.inr rfl) rfl rfl (λk h=>nomatch h) (λh=>by cases h<;>rfl))) .nil))))) .nil)),⟨rfl,⟨MB.gs (eI .i64) true _,qcD⟩⟩⟩⟩⟩⟩
  have hae:a=p1.gates.length:=by omega
  have c1:decide ((a:Int)<(p1.gates.length:Int))=false:=qcH (by omega);subst hae;rw[ziG (by omega),List.take_length];simp only[rnA,Nat.reduceEqDiff,Nat.reduceLT,zaf,c1];refine⟨(),qcD,?_⟩;refine zbQ.sub ?_;exact⟨rfl,rfl,rfl,rfl,qcD⟩
 have hsc:∀ L,zjm L 1 (fzE false (eI .i64) p1.cards)=some (p1.cards.map ((eI .i64).c true)):=λL=>zje (e:=(eI .i64)) rfl _ L false
 have hpc:p1.cards.length * 8<=zag:=by omega
 have hne:(((p1.gates.length:Nat):Int)== 0)=false:=by rw[qcJ]; omega
 have hl5:((p1.gates.map (zaa.c true)).set t (opB x)).length=p1.gates.length:=by simp
 refine zab ?_;simp only[rnA,Nat.reduceEqDiff,Nat.reduceLT,Nat.reduceAdd,Nat.reduceLeDiff,hsc,hpc];cases hc0:(p1.cards.length == 0)with
 | true=>
  have hce:(((p1.cards.length:Nat):Int)== 0)=true:=by rw[qcI]at hc0 ⊢; omega
  have hr:some p1=some r:=by rw[<- h,hc0,Bool.or_true,qcE]
  cases hr;refine EvL.scope (zab ?_);simp only[rnA,Nat.reduceEqDiff,Nat.reduceLT,Nat.reduceAdd,Nat.reduceLeDiff,hne,hce,hl5];exact zbT.ret rfl (.zdp (.cons (zaz (e:=(eI .i64)) (t:=true) rfl (.inr rfl) rfl rfl (λk h=>nomatch h) (λ_=>rfl)) (.cons (zcv (e:=zaa) rfl (.inr rfl) (by simp) (by simp) (λk h=>nomatch h) (zvr htl (by rw[hx]; exact(.cons (.lit _) (.cons (.lit _) (.cons (.lit _) (.cons (.lit _) (.cons (zaz (e:=(eI .i64)) (t:=true) rfl (.inr rfl) rfl rfl (λk h=>nomatch h) (λ_=>rfl)) .nil)))))))) .nil)))
 | false=>
  have hce:(((p1.cards.length:Nat):Int)== 0)=false:=by rw[qcJ]at hc0 ⊢; omega
  have hc1:p1.cards.length≠0:=by rwa [qcJ]at hc0
  rw[hc0,Bool.or_false,show(p1.gates.length == 0)=false by rw[qcJ]; omega,qcF]at h;replace h:=qaa h;have hat:IntKind.i64.wrap p0.at_=p0.at_:=wrap64 (by omega) (by omega);have hrem:p0.at_.tmod (p1.gates.length:Int)=(t:Int):=by
   rw[<- ht,qb9 ha0,Int.natCast_emod,qcd ha0]
  obtain⟨k,hk12,hkl⟩:∃ k:Nat,p0.what.tmod 9=(k:Int)/\k<9:=by
   refine⟨p0.what.toNat % 9,?_,qbw _ (by decide)⟩;rw[qb9 hw0]; omega
  rw[hk12]at h;have hgt:∀ C:List D,((p1.gates.map (zaa.c true)).set t C)[t]? = some C:=λC=>by rw[qaz (by simpa using htl)]
  have ht0:(0:Int)<=(t:Int):=by omega
  have ht1:(t:Int)<((p1.gates.length:Nat):Int):=by omega
  refine EvL.scope (zab ?_);simp only[rnA,Nat.reduceEqDiff,Nat.reduceLT,Int.reduceBEq,hne,hce,hat,hrem,hl5,ht0,ht1,qaH];obtain rfl | rfl | rfl | rfl | rfl | rfl | rfl | rfl | rfl:k=0\/k=1\/k=2\/k=3\/k=4\/k=5\/k=6\/k=7\/k=8:=by omega
  .have hk:p0.what.tmod 9=0:=hk12;replace h:{ p1 with gates:=p1.gates.set t { x with kind:=p0.n } }=r:=h;subst h;refine EvL.scope (zab ?_);simp only[rnA,Nat.reduceEqDiff,Nat.reduceLT,Nat.reduceAdd,Nat.reduceLeDiff,hgt,opB,qcw,qaG,hk];exact zbT.ret rfl (.zdp (.cons (zaz (e:=(eI .i64)) (t:=true) rfl (.inr rfl) rfl rfl (λk h=>nomatch h) (λ_=>rfl)) (.cons (zcv (e:=zaa) rfl (.inr rfl) (by simp) (by simp) (λk h=>nomatch h) (pwB (.cons (.lit _) (.cons (.lit _) (.cons (.lit _) (.cons (.lit _) (.cons (zaz (e:=(eI .i64)) (t:=true) rfl (.inr rfl) rfl rfl (λk h=>nomatch h) (λ_=>rfl)) .nil))))))) .nil)))
  .have hk:p0.what.tmod 9=1:=hk12;replace h:{ p1 with gates:=p1.gates.set t { x with var:=p0.n } }=r:=h;subst h;refine EvL.scope (zab ?_);simp only[rnA,Nat.reduceEqDiff,Nat.reduceLT,Nat.reduceAdd,Nat.reduceLeDiff,Int.reduceBEq,hgt,opB,qcw,qaG,hk];exact zbT.ret rfl (.zdp (.cons (zaz (e:=(eI .i64)) (t:=true) rfl (.inr rfl) rfl rfl (λk h=>nomatch h) (λ_=>rfl)) (.cons (zcv (e:=zaa) rfl (.inr rfl) (by simp) (by simp) (λk h=>nomatch h) (pwB (.cons (.lit _) (.cons (.lit _) (.cons (.lit _) (.cons (.lit _) (.cons (zaz (e:=(eI .i64)) (t:=true) rfl (.inr rfl) rfl rfl (λk h=>nomatch h) (λ_=>rfl)) .nil))))))) .nil)))
  .have hk:p0.what.tmod 9=2:=hk12;replace h:{ p1 with gates:=p1.gates.set t { x with val:=p0.n } }=r:=h;subst h;refine EvL.scope (zab ?_);simp only[rnA,Nat.reduceEqDiff,Nat.reduceLT,Nat.reduceAdd,Nat.reduceLeDiff,Int.reduceBEq,hgt,opB,qcw,qaG,hk];exact zbT.ret rfl (.zdp (.cons (zaz (e:=(eI .i64)) (t:=true) rfl (.inr rfl) rfl rfl (λk h=>nomatch h) (λ_=>rfl)) (.cons (zcv (e:=zaa) rfl (.inr rfl) (by simp) (by simp) (λk h=>nomatch h) (pwB (.cons (.lit _) (.cons (.lit _) (.cons (.lit _) (.cons (.lit _) (.cons (zaz (e:=(eI .i64)) (t:=true) rfl (.inr rfl) rfl rfl (λk h=>nomatch h) (λ_=>rfl)) .nil))))))) .nil)))
  .have hk:p0.what.tmod 9=3:=hk12;replace h:{ p1 with gates:=p1.gates.set t { x with n:=p0.n } }=r:=h;subst h;refine EvL.scope (zab ?_);simp only[rnA,Nat.reduceEqDiff,Nat.reduceLT,Nat.reduceAdd,Nat.reduceLeDiff,Int.reduceBEq,hgt,opB,qcw,qaG,hk];exact zbT.ret rfl (.zdp (.cons (zaz (e:=(eI .i64)) (t:=true) rfl (.inr rfl) rfl rfl (λk h=>nomatch h) (λ_=>rfl)) (.cons (zcv (e:=zaa) rfl (.inr rfl) (by simp) (by simp) (λk h=>nomatch h) (pwB (.cons (.lit _) (.cons (.lit _) (.cons (.lit _) (.cons (.lit _) (.cons (zaz (e:=(eI .i64)) (t:=true) rfl (.inr rfl) rfl rfl (λk h=>nomatch h) (λ_=>rfl)) .nil))))))) .nil)))
  .have hk:p0.what.tmod 9=4:=hk12;replace h:{ p1 with gates:=p1.gates.set t { x with args:=x.args ++ [p0.n] } }=r:=h;subst h;have hxa:=hf3 x (hx ▸ qax _);refine EvL.scope (zab ?_);simp only[rnA,Nat.reduceEqDiff,Nat.reduceLT,Nat.reduceAdd,Nat.reduceLeDiff,Int.reduceBEq,hgt,opB,qcw,qaG,hk,hxa];exact zbT.ret rfl (.zdp (.cons (zaz (e:=(eI .i64)) (t:=true) rfl (.inr rfl) rfl rfl (λk h=>nomatch h) (λ_=>rfl)) (.cons (zcv (e:=zaa) rfl (.inr rfl) (by simp) (by simp) (λk h=>nomatch h) (pwB (.cons (.lit _) (.cons (.lit _) (.cons (.lit _) (.cons (.lit _) (.cons (zaz (e:=(eI .i64)) (t:=true) (xs:=x.args ++ [p0.n]) rfl (.inr (by simp; rfl)) (by simp) (by simp) (λk h=>nomatch h) (λ_=>rfl)) .nil))))))) .nil)))
  .have hk:p0.what.tmod 9=5:=hk12;replace h:{ p1 with gates:=p1.gates.set t { x with args:=x.args.drop 1 } }=r:=h;refine EvL.scope (zab ?_);simp only[rnA,Nat.reduceEqDiff,Nat.reduceLT,Int.reduceBEq,hgt,opB,qaG,hk];by_cases hxl:x.args.length=0
   .have hxn:x.args.drop 1=x.args:=by rw[qar hxl]; rfl
    rw[hxn]at h;subst h;have hz:decide ((0:Int)<((x.args.length:Nat):Int))=false:=qcH (by omega);simp only[rnA,Nat.reduceEqDiff,Nat.reduceLT,Nat.reduceAdd,Nat.reduceLeDiff,hz];exact zbT.ret rfl (.zdp (.cons (zaz (e:=(eI .i64)) (t:=true) rfl (.inr rfl) rfl rfl (λk h=>nomatch h) (λ_=>rfl)) (.cons (zcv (e:=zaa) rfl (.inr rfl) (by simp) (by simp) (λk h=>nomatch h) (pwB (.cons (.lit _) (.cons (.lit _) (.cons (.lit _) (.cons (.lit _) (.cons (zaz (e:=(eI .i64)) (t:=true) rfl (.inr rfl) rfl rfl (λk h=>nomatch h) (λ_=>rfl)) .nil))))))) .nil)))
   subst h;have hz:decide ((0:Int)<((x.args.length:Nat):Int))=true:=qcG (by omega);have h1l:(1:Int)<=((x.args.length:Nat):Int):=by omega
   have hbo:bounds x.args.length none (some 1) none none=some (1,x.args.length,none):=by simp[bounds,zdt,h1l]
   simp only[rnA,Nat.reduceEqDiff,Nat.reduceLT,Nat.reduceAdd,Nat.reduceLeDiff,hz,hbo,hgt,qcw,qaG];exact zbT.ret rfl (.zdp (.cons (zaz (e:=(eI .i64)) (t:=true) rfl (.inr rfl) rfl rfl (λk h=>nomatch h) (λ_=>rfl)) (.cons (zcv (e:=zaa) rfl (.inr rfl) (by simp) (by simp) (λk h=>nomatch h) (pwB (.cons (.lit _) (.cons (.lit _) (.cons (.lit _) (.cons (.lit _) (.cons (zuf (e:=(eI .i64)) rfl (.inr rfl) rfl (by omega)) .nil))))))) .nil)))
  .have hk:p0.what.tmod 9=6:=hk12;replace h:{ p1 with cards:=p1.cards.set (p0.at_.toNat % p1.cards.length) p0.n }=r:=h;subst h;have hrc:p0.at_.tmod (p1.cards.length:Int)=((p0.at_.toNat % p1.cards.length:Nat):Int):=by
    rw[qb9 ha0,Int.natCast_emod,qcd ha0]
   have htc:p0.at_.toNat % p1.cards.length<p1.cards.length:=qbw _ (by omega);generalize p0.at_.toNat % p1.cards.length=tc at hrc htc;have hc00:(0:Int)<=(tc:Int):=by omega
   have hc01:(tc:Int)<((p1.cards.length:Nat):Int):=by omega
   have hct:(p1.cards.map ((eI .i64).c true))[tc]? = some [dI p1.cards[tc]]:=by rw[qaR,qae htc]; rfl
   have hcs:(p1.cards.map ((eI .i64).c true)).set tc [dI p0.n]=(p1.cards.set tc p0.n).map ((eI .i64).c true):=by rw[qcf]; rfl
   refine EvL.scope (zab ?_);simp only[rnA,Nat.reduceEqDiff,Nat.reduceLT,Nat.reduceAdd,Nat.reduceLeDiff,Int.reduceBEq,qaH,opB,hk,hat,hce,hrc,hc00,hc01,hct,hcs];exact zbT.ret rfl (.zdp (.cons (zaz (e:=(eI .i64)) (t:=true) rfl (.inr rfl) (by simp) (by simp) (λk h=>nomatch h) (λ_=>rfl)) (.cons (zcv (e:=zaa) rfl (.inr rfl) (by simp) (by simp) (λk h=>nomatch h) (zvr htl (by rw[hx]; exact(.cons (.lit _) (.cons (.lit _) (.cons (.lit _) (.cons (.lit _) (.cons (zaz (e:=(eI .i64)) (t:=true) rfl (.inr rfl) rfl rfl (λk h=>nomatch h) (λ_=>rfl)) .nil)))))))) .nil)))
  .have hk:p0.what.tmod 9=7:=hk12;replace h:{ p1 with gates:=p1.gates.take (p1.gates.length - 1) }=r:=h;subst h;have hwn:IntKind.i64.wrap (((p1.gates.length:Nat):Int) - 1)=((p1.gates.length - 1:Nat):Int):=by rw[wrap64 (by omega) (by omega)]; omega
   have h11:((p1.gates.length - 1:Nat):Int)<=((p1.gates.length:Nat):Int):=by omega
   have h10:(0:Int)<=((p1.gates.length - 1:Nat):Int):=by omega
   have hbo:bounds p1.gates.length none none (some ((p1.gates.length - 1:Nat):Int)) none=some (0,p1.gates.length - 1,none):=by simp[bounds,zdt,h11]
   refine EvL.scope (zab ?_);simp only[rnA,Nat.reduceEqDiff,Nat.reduceLT,Nat.reduceAdd,Nat.reduceLeDiff,Int.reduceBEq,opB,qaG,hk,hwn,hbo];exact zbT.ret rfl (.zdp (.cons (zaz (e:=(eI .i64)) (t:=true) rfl (.inr rfl) rfl rfl (λk h=>nomatch h) (λ_=>rfl)) (.cons (zsw (e:=zaa) rfl (.inr rfl) (by simp) (by simp) (λk h=>nomatch h) (by rw[List.map_take]; exact zus (zvr htl (by rw[hx]; exact(.cons (.lit _) (.cons (.lit _) (.cons (.lit _) (.cons (.lit _) (.cons (zaz (e:=(eI .i64)) (t:=true) rfl (.inr rfl) rfl rfl (λk h=>nomatch h) (λ_=>rfl)) .nil))))))) _)) .nil)))
  have hk:p0.what.tmod 9=8:=hk12;replace h:{ p1 with cards:=p1.cards ++ [p0.n] }=r:=h;subst h;refine EvL.scope (zab ?_);simp only[rnA,Nat.reduceEqDiff,Nat.reduceLT,Nat.reduceAdd,Nat.reduceLeDiff,Int.reduceBEq,opB,hk,hf2];exact zbT.ret rfl (.zdp (.cons (zaz (e:=(eI .i64)) (t:=true) (xs:=p1.cards ++ [p0.n]) rfl (.inr (by simp; rfl)) (by simp) (by simp) (λk h=>nomatch h) (λ_=>rfl)) (.cons (zcv (e:=zaa) rfl (.inr rfl) (by simp) (by simp) (λk h=>nomatch h) (zvr htl (by rw[hx]; exact(.cons (.lit _) (.cons (.lit _) (.cons (.lit _) (.cons (.lit _) (.cons (zaz (e:=(eI .i64)) (t:=true) rfl (.inr rfl) rfl rfl (λk h=>nomatch h) (λ_=>rfl)) .nil)))))))) .nil)))
end Go.Dc
