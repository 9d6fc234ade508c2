/-
 weigh.Combinations: a closure over the cards; as a generator: the numbers of all combinations, each with its values. Conditions: none.
-/
import Derived.Test.YtbjogdohfhdaiaaCaHGn
import Derived.Test.YtbjogdohfhdaiaaCaQt
set_option linter.unusedSimpArgs false
set_option linter.unusedVariables false
set_option maxRecDepth 100000
set_option maxHeartbeats 4000000
set_option maxHeartbeats 8000000
namespace Go.Dc
open Go Go.Mx Go.Lx Go.Proofs
def zes(cards:List Int):Option (List Int):=some cards
variable{L:List LB}
theorem zyq{α:Type}{β:Nat}(e:En α)(x:α)(h:L[β]? = some (.cells (e.c false x))):Snp L false (.ptr β 0) (.fptr false (e.c false x)):=
 .ptr h (by omega) λk d d' h3 h4=>by
  rw[qaN]at h3;exact(e.snp (L:=L) (t:=false) (t':=false) x id).get k d d' h3 h4
variable{cards:List Int}
theorem zdW{r:List Int}(h:zes cards=some r):
  Lx.FnA mC 132 [fzE false (eI .i64) cards] (.clo 149 [] [.fptr false ((eL (eI .i64)).c false r)]):=by
 cases h;refine zyw ?_;refine zaa ?_;simp only[rnA,Nat.reduceEqDiff,Nat.reduceLT,reduceCtorEq];exact ztU.ret rfl (.clo rfl rfl (Snps.get .nil) (Snps.get (.cons (zyq (eL (eI .i64)) cards rfl) .nil)))
def zgC(cards:List Int):Nat->List Int->Option (List Int×Int)
 | 0,vals=>some (vals,-1)
 | k+1,vals=>(zaS vals (k:Int)).bind λv=>(zaS cards (k:Int)).bind λc=>bif v == w64 (c - 1)then(zfp vals (k:Int) 0).bind λvals'=>zgC cards k vals' else some (vals,(k:Int))
def zuA(cards:List Int):Nat->List Int->Int->Option (List (Int×List Int))
 | 0,_,_=>none
 | n+1,vals,i=>(zgC cards cards.length vals).bind λr=>bif decide (r.2<0)then some [(i,vals)]else
   (zaS r.1 r.2).bind λv=>(zfp r.1 r.2 (w64 (v+1))).bind λvals'=>(zuA cards n vals' (w64 (i+1))).map λl=>(i,vals):: l
def zwl(cards:List Int):Option (List (Int×List Int)):=(zhl cards).bind λ_=>(zfH 8 (cards.length:Int) 0).bind λz=>zuA cards ((cards.foldl (· * ·) 1).toNat) z 0
theorem mapM_some{α β:Type}{o:Option α}{f:α->β}{b:β}(h:o.map f=some b):∃ a,o=some a/\b=f a:=by
 cases o with
 | none=>cases h
 | some a=>cases h; exact⟨a,rfl,rfl⟩
theorem zrd{n:Nat}(h:L.length=n)(x:LB):(L ++ [x])[n]? = some x:=by subst h; simp
theorem zsg{n:Nat}(h:L.length=n)(x y:LB):(L ++ [x]).set n y=L ++ [y]:=by subst h; simp
theorem zdI{u:List (Int×List Int)}(hu:zwl cards=some u):
  Gen mC 149 [] [.fptr false ((eL (eI .i64)).c false cards)] u (λy n0 args G=>args=[dI y.1,.sl n0 0 1 y.2.length (some y.2.length) y.2.length]/\G=[.els 1 (y.2.map ((eI .i64).c true))]):=by
 intro n0 β P Ps hβ hlen hround L hP;refine gnL ?_;obtain⟨_,hsm,hu⟩:=bind_some hu;obtain⟨z,hz,hv⟩:=bind_some hu;have hL:=hlen _ _ hP;have hm:IntKind.i64.wrap ((cards.length:Int) - 1)=(cards.length:Int) - 1:=by
  have:=zgA hsm;exact wrap64 (by omega) (by omega)
 refine zaa ?_;simp only[rnA,Nat.reduceEqDiff,Nat.reduceLT,Nat.reduceAdd,reduceCtorEq,zal,(zbK hz).1.1,(zbK hz).1.2,qbU,qaq,(show List.replicate cards.length [(dI 0)]=z.map ((eI .i64).c true)from(zdk hz ((eI .i64).c true)))];refine EvL.scope (zaa ?_);simp only[rnA];rw[hL];refine EvL.loop (α:=Nat×Nat×List Int×Int×List LB) (λa=>⟨45,[(0,.yld β),(1,.fptr false ((eL (eI .i64)).c false cards)),(3,.sl n0 0 1 cards.length (some cards.length) cards.length),(4,dI a.2.2.2.1)],a.2.2.2.2 ++ [.els 1 (a.2.2.1.map ((eI .i64).c true))]⟩)
  (λa=>P a.2.1 a.2.2.2.2/\zuA cards a.1 a.2.2.1 a.2.2.2.1=some (u.drop a.2.1)/\a.2.2.1.length=cards.length) (λa=>a.1) ((cards.foldl (· * ·) 1).toNat,0,z,0,L) (by refine za9.sub ?_; exact⟨rfl,rfl,rfl,rfl,qcQ⟩) ⟨hP,hv,by rw[zd9 hz,qaq]⟩ ?_
 rintro⟨n,j,vals,i,L'⟩ ⟨hPi,hvk,hvl⟩;simp only at hPi hvk hvl;cases n with
 | zero=>cases hvk
 | succ n=>
 unfold zuA at hvk;obtain⟨⟨vals1,kk⟩,hc,hvk⟩:=bind_some hvk;simp only at hvk;have hul:∃ r,u.drop j=(i,vals):: r:=by
  cases hk:decide (kk<0)with
  | true=>rw[hk,qcR]at hvk; exact⟨[],(qae hvk).symm⟩
  | false=>
   rw[hk,qcS]at hvk;obtain⟨v,_,hvk⟩:=bind_some hvk;obtain⟨vals2,_,hvk⟩:=bind_some hvk;obtain⟨l,_,hl⟩:=mapM_some hvk;exact⟨l,hl⟩
 obtain⟨r,hul⟩:=hul;have hj:j<u.length:=by
  refine Nat.lt_of_not_le λhn=>?_
  rw[qaM hn]at hul;cases hul
 have huj:u[j]? = some (i,vals):=by
  rw[qau hj]at hul;rw[qad hj,(List.cons.inj hul).1]
 have hur:u.drop (j+1)=r:=by
  rw[qau hj]at hul;exact(List.cons.inj hul).2
 refine zaa ?_;simp only[rnA,Nat.reduceEqDiff,Nat.reduceLT,reduceCtorEq];refine EvL.yield rfl rfl rfl (hround j (i,vals) L' _ [.els 1 (vals.map ((eI .i64).c true))] huj hPi ⟨by rw[hvl],rfl⟩) ?_;rintro b L2 ⟨L1,rfl,hl1,hb⟩;cases b with
 | false=>
  simp only[rnA,Nat.reduceEqDiff,Nat.reduceLT,reduceCtorEq];exact⟨[],rfl,L1,_,rfl,hl1,.inr hb⟩
 | true=>
 have hga:=zrd hl1;have hsa:=zsg hl1;simp only[rnA,Nat.reduceEqDiff,Nat.reduceLT,reduceCtorEq,zal,hm];refine EvL.jn (λa:List Int×Int=>⟨45,[(0,.yld β),(1,.fptr false ((eL (eI .i64)).c false cards)),(3,.sl n0 0 1 cards.length (some cards.length) cards.length),(4,dI i),(5,dI a.2)],L1 ++ [.els 1 (a.1.map ((eI .i64).c true))]⟩) (λa=>a=(vals1,kk)/\a.1.length=cards.length) ?_ ?_
 .refine zaa ?_;simp only[rnA];refine EvL.loop (α:=Nat×List Int) (λa=>⟨45,[(0,.yld β),(1,.fptr false ((eL (eI .i64)).c false cards)),(3,.sl n0 0 1 cards.length (some cards.length) cards.length),(4,dI i),(5,dI ((a.1:Int) - 1))],L1 ++ [.els 1 (a.2.map ((eI .i64).c true))]⟩)
   (λa=>zgC cards a.1 a.2=some (vals1,kk)/\a.2.length=cards.length/\a.1<=cards.length) (λa=>a.1) (cards.length,vals) (by refine za9.sub ?_; exact⟨rfl,rfl,rfl,rfl,rfl,qcQ⟩) ⟨hc,hvl,qan _⟩ ?_
  rintro⟨f,vs⟩ ⟨hf,hvs,hfl⟩;simp only at hf hvs hfl;refine zaa ?_;simp only[rnA];cases f with
  | zero=>
   cases hf;refine EvL.scope (zaa ?_);have hk:((0:Nat):Int) - 1 = -1:=rfl;simp only[rnA,Nat.reduceEqDiff,Nat.reduceLT,Int.reduceLE,reduceCtorEq,hk];exact⟨_,⟨rfl,hvs⟩,za9.sub ⟨rfl,rfl,rfl,rfl,rfl,qcQ⟩⟩
  | succ f=>
   have hk:((f+1:Nat):Int) - 1=(f:Int):=by omega
   have hk0:(0:Int)<=(f:Int):=by omega
   unfold zgC at hf;obtain⟨v,q1,hf⟩:=bind_some hf;obtain⟨c,q2,hf⟩:=bind_some hf;refine EvL.scope (zaa ?_);cases hb:(v == w64 (c - 1))with
   | false=>
    rw[hb,qcS]at hf;cases hf;simp only[rnA,Nat.reduceEqDiff,Nat.reduceLT,reduceCtorEq,hk,hk0,hga,hvs,(show(f:Int)<((cards.length:Nat):Int)from hvs ▸ zbc q1),zaz q1 ((eI .i64).c true),zai (n:=1) (e:=eI .i64) rfl q2,hb];exact⟨_,⟨rfl,hvs⟩,za9.sub ⟨rfl,rfl,rfl,rfl,rfl,qcQ⟩⟩
   | true=>
    rw[hb,qcR]at hf;obtain⟨vs',q4,hf⟩:=bind_some hf;have hw:IntKind.i64.wrap ((f:Int) - 1)=(f:Int) - 1:=by
     have:=zgA hsm;exact wrap64 (by omega) (by omega)
    simp only[rnA,Nat.reduceEqDiff,Nat.reduceLT,Nat.reduceLeDiff,reduceCtorEq,hk,hk0,hga,hsa,hvs,(show(f:Int)<((cards.length:Nat):Int)from hvs ▸ zbc q1),zaz q1 ((eI .i64).c true),zai (n:=1) (e:=eI .i64) rfl q2,hb,(show(vs.map ((eI .i64).c true)).set (f:Int).toNat [dI 0]=vs'.map ((eI .i64).c true)from zbz q4 ((eI .i64).c true)),hw];exact⟨(f,vs'),⟨hf,by rw[zbg q4]; exact hvs,by omega⟩,qa1 f,za9.sub ⟨rfl,rfl,rfl,rfl,rfl,qcQ⟩⟩
 rintro a ⟨rfl,hvs⟩;simp only at hvs;refine zaa ?_;cases hk:decide (kk<0)with
 | true=>
  rw[hk,qcR]at hvk;simp only[rnA,Nat.reduceEqDiff,Nat.reduceLT,reduceCtorEq,hk];have h1:u.length=j+1:=by
   have h2:=qae hvk;have h3:u.drop (j+1)=[]:=by
    rw[hur];rw[<- h2]at hul;exact(List.cons.inj hul).2.symm
   have h4:=List.drop_eq_nil_iff.1 h3;omega
  exact⟨[],rfl,L1,_,rfl,hl1,.inl (by rw[h1]; exact hb)⟩
 | false=>
  rw[hk,qcS]at hvk;obtain⟨v,q1,hvk⟩:=bind_some hvk;obtain⟨vals2,q2,hvk⟩:=bind_some hvk;obtain⟨l,q4,hl⟩:=mapM_some hvk;simp only[rnA,Nat.reduceEqDiff,Nat.reduceLT,Nat.reduceLeDiff,reduceCtorEq,hk,hga,hsa,hvs,zbb q1,(show kk<((cards.length:Nat):Int)from hvs ▸ zbc q1),zaz q1 ((eI .i64).c true),(show(vals1.map ((eI .i64).c true)).set kk.toNat [dI (w64 (v+1))]=vals2.map ((eI .i64).c true)from zbz q2 ((eI .i64).c true))];refine⟨(n,j+1,vals2,w64 (i+1),L1),⟨hb,?_,by rw[zbg q2]; exact hvs⟩,qa1 n,za9.sub ⟨rfl,rfl,rfl,rfl,qcQ⟩⟩;simp only;rw[q4,hur];rw[hul]at hl;rw[(List.cons.inj hl).2]
def vC(x:List Int)(i:Nat):D:=dU (x.getD i 0)
theorem zp6{L:List LB}{t':Bool}(x:List Int):∀ l:List Nat,Snps L t' (l.map (vC x)) (l.map (vC x))
 | []=>.nil
 | _ :: r=>.cons (.lit _) (zp6 x r)
theorem zsq(x:List Int):∀ l:List Nat,D.frs (l.map (vC x))
 | []=>trivial
 | _ :: r=>⟨qcQ,zsq x r⟩
theorem zqB(kp:Nat->Bool)(x:List Int):∀ l:List Nat,D.zhd kp (l.map (vC x))
 | []=>trivial
 | _ :: r=>⟨qcQ,zqB kp x r⟩
def e16:En (List Int) where
 n:=16
 c _ x:=(List.range 16).map (vC x)
 pos:=by decide
 len _ _:=by simp
 snp x _:=zp6 x _
 mz x _ i d d' h1 h2:=by
  rw[h1]at h2; cases h2;obtain⟨k,_,rfl⟩:=qa4.1 (qay h1);exact .lit _
 fr x:=zsq x _
 kin kp t x:=zqB kp x _
def z16:List Int:=List.replicate 16 0
variable{t:Bool}{x:List Int}
theorem zcT:(e16.c t x).length=16:=e16.len t x
theorem zxd:([dU 0,dU 0,dU 0,dU 0,dU 0,dU 0,dU 0,dU 0,dU 0,dU 0,dU 0,dU 0,dU 0,dU 0,dU 0,dU 0]:List D)=e16.c t z16:=rfl
theorem zdS{i w:Int}(hx:x.length=16)(h:zaS x i=some w):(e16.c t x)[i.toNat]? = some (dU w):=by
 have h1:=zaz h λy=>y
 rw[qbQ]at h1;have hi:i.toNat<16:=hx ▸ (qaa.1 h1).1;show((List.range 16).map (vC x))[i.toNat]? = _;rw[qaV,qbz hi];simp[vC,qaj,h1]
theorem ziJ{y:List Int}{i w:Int}(hx:x.length=16)(h:zfp x i w=some y):zk7 (e16.c t x) i.toNat [dU w]=e16.c t y:=by
 have h1:=zbz h λy=>y
 rw[qbQ,qbQ]at h1;subst h1;obtain⟨h0,h2⟩:0<=i/\i<x.length:=by
  unfold zfp at h;split at h
  .assumption
  cases h
 have hi:i.toNat<16:=by omega
 refine qcn λj=>?_
 show((e16.c t x).take i.toNat ++ [dU w]++ (e16.c t x).drop (i.toNat+1))[j]? =((List.range 16).map (vC (x.set i.toNat w)))[j]?;have hl:(e16.c t x).length=16:=zcT;have hg:∀ k:Nat,(e16.c t x)[k]? =((List.range 16).map (vC x))[k]?:=λk=>rfl
 by_cases hj:j<16
 .rw[qaV,qbz hj,qaF];rcases Nat.lt_trichotomy j i.toNat with h3 | h3 | h3
  .rw[qaG,qai (by simp[hl]; omega),qax,if_pos h3,hg,qaV,qbz hj,qaF];simp[vC,qaj,qao (by omega:i.toNat≠j)]
  .subst h3;rw[qaG,qal (by simp[hl]; omega)];simp[hl,qa6 (Nat.le_of_lt hj),vC,qaj,qaC (show i.toNat<x.length by omega)]
  rw[qal (by simp[hl]; omega),qaz,hg];have:i.toNat+1+(j - ((e16.c t x).take i.toNat ++ [dU w]).length)=j:=by simp[hl]; omega
  rw[this,qaV,qbz hj,qaF];simp[vC,qaj,qao (by omega:i.toNat≠j)]
 rw[qaL (by simp[hl]; omega),qaL (by simp; omega)]
def zhV(x:List Int)(i:Int):Option (List Int):=
 (znS .u64 1 (i.tmod 64)).bind λb=>(zaS x (w64 (i.tdiv 64))).bind λw=>zfp x (w64 (i.tdiv 64)) (orI .u64 w b)
def zhF(rows:List (List (List Int)))(v x i:Int):Option (List (List (List Int))):=
 (zaS rows v).bind λrow=>(zaS row x).bind λip=>(zhV ip i).bind λip'=>(zfp row x ip').bind λrow'=>zfp rows v row'
def zsI(i:Int)(vals:List Int):Nat->Int->List (List (List Int))->Option (List (List (List Int)))
 | 0,_,_=>none
 | n+1,v,rows=>bif decide (v<(vals.length:Int))then(zaS vals v).bind λx=>(zhF rows v x i).bind λrows'=>zsI i vals n (w64 (v+1)) rows' else some rows
def zsy:List (Int×List Int)->List (List (List Int))->Option (List (List (List Int)))
 | [],rows=>some rows
 | y :: ys,rows=>(zsI y.1 y.2 (y.2.length+2) 0 rows).bind λrows'=>zsy ys rows'
def zdq:List Int->Option (List (List (List Int)))
 | []=>some []
 | k :: ks=>(zfH 128 k z16).bind λr=>(zdq ks).map λl=>r :: l
def zaF(cards:List Int):Option (List (List (List Int))):=
 (zhl cards).bind λ_=>(zfH 24 (cards.length:Int) ([]:List (List Int))).bind λ_=>(zdq cards).bind λrows=>(zwl cards).bind λu=>zsy u rows
theorem zeC:∀ {cards:List Int} {rows:List (List (List Int))},zdq cards=some rows->rows.length=cards.length
 | [],rows,h=>by cases h; rfl
 | k :: ks,rows,h=>by
  unfold zdq at h;obtain⟨r,_,h⟩:=bind_some h;obtain⟨l,hl,rfl⟩:=mapM_some h;simp[zeC hl]
theorem zeD:∀ {cards:List Int} {rows:List (List (List Int))},zdq cards=some rows->∀(v:Nat) (h1:v<cards.length) (h2:v<rows.length),zfH 128 cards[v] z16=some rows[v]
 | [],rows,h,v,h1,_=>by simp at h1
 | k :: ks,rows,h,v,h1,h2=>by
  unfold zdq at h;obtain⟨r,hr,h⟩:=bind_some h;obtain⟨l,hl,rfl⟩:=mapM_some h;cases v with
  | zero=>exact hr
  | succ v=>exact zeD hl v (by simpa using h1) (by simpa using h2)
def slR:Nat->List Nat->List (List D)
 | _,[]=>[]
 | b,k :: r=>[.sl b 0 16 k (some k) k]:: slR (b+1) r
theorem zeO:∀(cs:List Nat) (b:Nat),(slR b cs).length=cs.length
 | [],_=>rfl
 | k :: r,b=>by simp[slR,zeO r]
theorem zoa:∀(cs:List Nat) (b v:Nat) (h:v<cs.length),(slR b cs)[v]? = some [.sl (b+v) 0 16 cs[v] (some cs[v]) cs[v]]
 | [],_,v,h=>by simp at h
 | k :: r,b,0,_=>by simp[slR]
 | k :: r,b,v+1,h=>by
  simp only[slR,qaZ,qcD];rw[zoa r (b+1) v (by simpa using h),show b+1+v=b+(v+1) by omega]
theorem zow:∀(cs:List Nat) (b k:Nat),slR b (cs ++ [k])=slR b cs ++ [[.sl (b+cs.length) 0 16 k (some k) k]]
 | [],b,k=>by simp[slR]
 | x :: r,b,k=>by
  simp only[slR,qaH,qaP];rw[zow r (b+1) k,show b+1+r.length=b+(r.length+1) by omega]
theorem zsu{n:Nat}:∀(cs:List Nat) (b:Nat),b+cs.length<=n->∀ cells∈slR b cs,D.scs n cells
 | [],b,_,cells,h=>by simp[slR]at h
 | k :: r,b,hb,cells,h=>by
  simp only[slR,qa2,qaP]at h hb;rcases h with rfl | h
  .exact⟨by show b<n; omega,qcQ⟩
  exact zsu r (b+1) (by omega) cells h
def znV(r:List (List Int)):LB:=.els 16 (r.map (e16.c true))
def zhk(n:Nat):LB:=.cells [.sl 0 0 1 n (some n) n]
def zkH(rows:List (List (List Int)))(v:Nat):List LB:=.els 1 (slR 2 ((rows.take v).map List.length)++ List.replicate (rows.length - v) [zc8]):: zhk rows.length ::(rows.take v).map znV
def zfX(ls:List Nat)(rows:List (List (List Int))):List LB:=.els 1 (slR 2 ls):: zhk ls.length :: rows.map znV
section
variable {rows:List (List (List Int))} {ls:List Nat}
variable{v:Nat}
theorem zq9(hv:v<=rows.length):(zkH rows v).length=2+v:=by simp[zkH]; omega
theorem zrq(v:Nat)(X:List LB):(zkH rows v ++ X)[1]? = some (zhk rows.length):=rfl
theorem zrt(v:Nat)(X:List LB):(zkH rows v ++ X)[0]? = some (.els 1 (slR 2 ((rows.take v).map List.length)++ List.replicate (rows.length - v) [zc8])):=rfl
theorem zpT(hv:v<rows.length):(zkH rows v ++ [znV rows[v]]).set 0 (.els 1 ((slR 2 ((rows.take v).map List.length)++ List.replicate (rows.length - v) [zc8]).set v [.sl (2+v) 0 16 rows[v].length (some rows[v].length) rows[v].length]))=zkH rows (v+1):=by
 have hl:(slR 2 ((rows.take v).map List.length)).length=v:=by rw[zeO]; simp; omega
 have h1:rows.length - v=(rows.length - (v+1))+1:=by omega
 unfold zkH;rw[qaH,qaH,qbM,List.take_succ_eq_append_getElem hv,qcz,qaS,qcO,zow,qcz,qbp _ _ (by omega),hl,qbK,h1,qa7,qbM];simp[qa6 (Nat.le_of_lt hv)]
theorem zrg(hl:rows.map List.length=ls):zkH rows rows.length=zfX ls rows:=by
 unfold zkH zfX;subst hl;simp
theorem ze3(hr:rows.length=ls.length):(zfX ls rows).length=2+ls.length:=by simp[zfX,hr]; omega
theorem zmI(hv:v<rows.length)(X:List LB):(zfX ls rows ++ X)[2+v]? = some (znV rows[v]):=by
 unfold zfX;rw[show 2+v=v+1+1 by omega,qaH,qaH,qaZ,qaZ,qai (by simpa using hv)];simp[hv]
theorem zrF(hv:v<rows.length)(r:List (List Int))(X:List LB):(zfX ls rows ++ X).set (2+v) (znV r)=zfX ls (rows.set v r)++ X:=by
 unfold zfX;rw[show 2+v=v+1+1 by omega,qaH,qaH,qb2,qb2,qcq _ _ (by simpa using hv)];simp
theorem zub(n:Nat)(r:List (List Int)):LB.sc n (znV r):=zv1 e16 _ _ _
theorem zhK{n:Nat}:∀(rows:List (List (List Int))),zcd n (rows.map znV)
 | []=>trivial
 | r :: rows=>⟨zub n r,zhK rows⟩
theorem zpd{n:Nat}(hn:2+ls.length<=n)(rows:List (List (List Int))):zcd n (zfX ls rows):=⟨λcells h=>zsu ls 2 hn cells h,⟨by show 0<n; omega,qcQ⟩,zhK rows⟩
end
structure LOk (ls:List Nat) (rows:List (List (List Int))):Prop where
 len:rows.map List.length=ls
 w:∀ row∈rows,∀ ip∈row,ip.length=16
theorem LOk.ln{ls:List Nat}{rows:List (List (List Int))}(h:LOk ls rows):rows.length=ls.length:=by rw[<- h.len,qbS]
variable{x:List Int}{i:Int}
theorem znl{y:List Int}(h:zhV x i=some y):y.length=x.length:=by
 unfold zhV at h;obtain⟨_,_,h⟩:=bind_some h;obtain⟨_,_,h⟩:=bind_some h;exact zbg h
theorem ziA{α:Type}{xs ys:List α}{x:α}(h:zfp xs i x=some ys):ys=xs.set i.toNat x:=by
 have h1:=zbz h λy=>y
 rw[qbQ,qbQ]at h1;exact h1.symm
theorem LOk.put{ls:List Nat}{rows rows':List (List (List Int))}{v x:Int}(h:LOk ls rows)(hp:zhF rows v x i=some rows'):LOk ls rows':=by
 unfold zhF at hp;obtain⟨row,g1,hp⟩:=bind_some hp;obtain⟨ip,g2,hp⟩:=bind_some hp;obtain⟨ip',g3,hp⟩:=bind_some hp;obtain⟨row',g4,hp⟩:=bind_some hp;have hr:=qay (by have:=zaz g1 λy=>y; rwa [qbQ]at this);have hi:=qay (by have:=zaz g2 λy=>y; rwa [qbQ]at this);have e1:=ziA hp;have e2:=ziA g4;constructor
 .rw[e1,qcu,zbg g4,<- h.len];refine qcn λj=>?_
  have h1:=zaz g1 List.length;by_cases hj:v.toNat=j
  .subst hj;rw[h1,qaC (qaa.1 h1).1]
  rw[qao hj]
 intro a ha b hb;rw[e1]at ha;rcases qbj ha with ha | rfl
 .exact h.w a ha b hb
 rw[e2]at hb;rcases qbj hb with hb | rfl
 .exact h.w row hr b hb
 rw[znl g3]; exact h.w row hr ip hi
theorem zpq{ls:List Nat}{i:Int}{vals:List Int}:∀(n:Nat) (v:Int) (rows rows':List (List (List Int))),LOk ls rows->zsI i vals n v rows=some rows'->LOk ls rows'
 | 0,_,_,_,_,h=>nomatch h
 | n+1,v,rows,rows',hl,h=>by
  unfold zsI at h;cases hc:decide (v<(vals.length:Int))with
  | false=>rw[hc,qcS]at h; cases h; exact hl
  | true=>
   rw[hc,qcR]at h;obtain⟨x,_,h⟩:=bind_some h;obtain⟨r1,g,h⟩:=bind_some h;exact zpq n _ _ _ (hl.put g) h
variable{cards:List Int}
theorem zhq{rows:List (List (List Int))}(h:zdq cards=some rows):LOk (rows.map List.length) rows:=by
 refine⟨rfl,λrow hr ip hi=>?_⟩;obtain⟨v,hv,rfl⟩:=List.getElem_of_mem hr;have h1:=zeD h v (by rw[<- zeC h]; exact hv) hv;have h2:rows[v]=List.replicate (rows[v]).length z16:=by
  have:=zdk h1 λy=>y
  rw[qbQ,<- zd9 h1]at this;exact this.symm
 rw[h2]at hi;rw[(qcy.1 hi).2];rfl
theorem zsD{L:List LB}:∀(rows:List (List (List Int))) (b:Nat),(∀ v (h:v<rows.length),L[b+v]? = some (znV rows[v]))->Pw (Snp L true) (slR b (rows.map List.length)) (rows.map ((eL e16).c true))
 | [],b,_=>.nil
 | r :: rs,b,h=>.cons rfl (λj d d' h1 h2=>by
   obtain⟨rfl,rfl⟩:=zgN h1 h2
   exact zcS (e:=e16) (t:=true) rfl (.inl (h 0 (Nat.zero_lt_succ _))) rfl rfl (λk h=>by cases h; exact qan _) λ_=>rfl) (zsD rs (b+1) λv hv=>by rw[show b+1+v=b+(v+1) by omega]; exact h (v+1) (qcK hv))
theorem zeA{r:List (List (List Int))}(h:zaF cards=some r):Lx.Fn mC 102 [fzE false (eI .i64) cards] (fzE true (eL e16) r):=by
 refine gnO ?_;unfold zaF at h;obtain⟨_,hsm,h⟩:=bind_some h;obtain⟨_,hmk,h⟩:=bind_some h;obtain⟨rows,hrw,h⟩:=bind_some h;obtain⟨u,hu,h⟩:=bind_some h;have hlr:=zeC hrw;have hsl:=zgA hsm;refine zaa ?_;simp only[rnA,Nat.reduceEqDiff,Nat.reduceLT,Nat.reduceLeDiff,reduceCtorEq,zal,(zbK hmk).1.1,(zbK hmk).1.2,qbU,qaq];refine EvL.jn (λa:Unit=>⟨55,[(0,fzE false (eI .i64) cards),(3,.ptr 1 0)],zfX (rows.map List.length) rows⟩) (λ_=>True) ?_ ?_
 .refine zaa ?_;simp only[rnA];refine EvL.loop (α:=Nat) (λv=>⟨55,[(0,fzE false (eI .i64) cards),(3,.ptr 1 0),(13,fzE false (eI .i64) cards),(14,dI cards.length),(15,dI v)],zkH rows v⟩) (λv=>v<=rows.length) (λv=>rows.length - v) 0 ?_ (qaB _) ?_
  .have e0:([.els 1 (List.replicate cards.length [zc8]),.cells [.sl 0 0 1 cards.length (some cards.length) cards.length]]:List LB)=zkH rows 0:=by simp[zkH,slR,zhk,hlr]
   rw[e0];exact za9.sub ⟨rfl,rfl,rfl,rfl,rfl,qcQ⟩
  intro v hv;refine zaa ?_;by_cases hv2:v<cards.length
  .have hlt:decide ((v:Int)<(cards.length:Int))=true:=qcT (by omega);have hw2:IntKind.i64.wrap ((v:Int)+1)=((v+1:Nat):Int):=by rw[wrap64 (by omega) (by omega)]; rfl
   have hv3:v<rows.length:=by omega
   have hmv:=zeD hrw v hv2 hv3;have hk:=zbK hmv;have hkl:cards[v].toNat=rows[v].length:=(zd9 hmv).symm;have hrep:List.replicate cards[v].toNat (e16.c true z16)=rows[v].map (e16.c true):=zdk hmv (e16.c true);have hPl:(zkH rows v).length=2+v:=zq9 (by omega);have h1:=λX=>zrq (rows:=rows) v X
   have h10:(zkH rows v)[1]? = some (zhk rows.length):=rfl;have h0:=λX=>zrt (rows:=rows) v X
   have hst:=zpT hv3;have hRl:(slR 2 ((rows.take v).map List.length)++ List.replicate (rows.length - v) [zc8]).length=rows.length:=by simp[zeO]; omega
   have hRg:(slR 2 ((rows.take v).map List.length)++ List.replicate (rows.length - v) [zc8])[v]? = some [zc8]:=by
    have hsl:(slR 2 ((rows.take v).map List.length)).length=v:=by rw[zeO]; simp; omega
    rw[qal (by omega),hsl,qbK,qbx,if_pos (by omega)]
   have hidx:zaS cards (v:Int)=some cards[v]:=zq4 hv2;have hvi:((v:Int)<(rows.length:Int))=True:=eq_true (by omega);generalize (slR 2 ((rows.take v).map List.length)++ List.replicate (rows.length - v) [zc8])=rsl at *;unfold znV at hst;unfold zhk at h1 h10;generalize zkH rows v=M at *;generalize rows[v]=rv at *;generalize cards[v]=k at *;simp only[rnA,Nat.reduceEqDiff,Nat.reduceLT,Nat.reduceAdd,Nat.reduceLeDiff,reduceCtorEq,hlt,zai (n:=1) (e:=eI .i64) rfl hidx,h10,hk.1.1,hk.1.2,qbU,hPl,h0,hRl,hRg,qaA,qaq,zxd,hkl,hw2,hvi];refine⟨v+1,by omega,by omega,?_⟩;have e:(M ++ [LB.els 16 (List.replicate rv.length (e16.c true z16))]).set 0 (.els 1 (rsl.set v [.sl (2+v) 0 16 rv.length (some rv.length) rv.length]))=zkH rows (v+1):=by rw[<- hkl,hrep,hkl]; exact hst
   show za9 0 ⟨55,_,(M ++ [LB.els 16 (List.replicate rv.length (e16.c true z16))]).set 0 (.els 1 (rsl.set v [.sl (2+v) 0 16 rv.length (some rv.length) rv.length]))⟩ _;rw[e];refine za9.sub ?_;exact⟨rfl,rfl,rfl,rfl,rfl,qcQ⟩
  have hlt:decide ((v:Int)<(cards.length:Int))=false:=qcU (by omega);have hve:v=rows.length:=by omega
  subst hve;rw[zrg rfl];simp only[rnA,Nat.reduceEqDiff,Nat.reduceLT,reduceCtorEq,hlt];exact⟨(),qcQ,za9.sub ⟨rfl,rfl,qcQ⟩⟩
 intro _ _;have hLk:=zhq hrw;generalize hls:rows.map List.length=ls at *;have hln:=hLk.ln;refine zaa ?_;simp only[rnA,Nat.reduceLT,reduceCtorEq];refine fDM (zdW (r:=cards) rfl) ?_;refine EvL.zuq (S':=⟨55,[(3,.ptr 1 0),(27,.clo 149 [] [.fptr false ((eL (eI .i64)).c false cards)])],zfX ls rows⟩) (za9.sub ⟨rfl,rfl,qcQ⟩) ?_;refine EvL.zmY (γ:={ a:List (List (List Int)) // LOk ls a }) (n0:=2+ls.length) (zdI hu) rfl (by conv=>lhs; cbv) (λa=>zfX ls a.1) (λi a=>zsy (u.drop i) a.1=some r) (λx L1=>match x with | .normal=>LOk ls r/\L1=zfX ls r | _=>False) ⟨rows,hLk⟩ ?_ (qaB _) ?_ ?_ ?_ (λd L1 hx=>hx.elim) ?_ ?_ ?_ ?_ ?_ ?_
 .intro a; exact ze3 a.2.ln
 .exact⟨by show 1<_; omega,⟨qcQ,⟨qcQ,qcQ⟩⟩,qcQ⟩
 .intro a; exact zpd (by omega) _
 .intro x L1 hx;cases x with
  | normal=>obtain⟨hx,rfl⟩:=hx; exact⟨ze3 hx.ln,zpd (by omega) _⟩
  | ret=>exact hx.elim
  | exit id=>exact hx.elim
  | panic d=>exact hx.elim
 .exact h
 .rintro i ⟨a,ha⟩ y args G lpF hy hi ⟨rfl,rfl⟩ hkin;simp only at hi;rw[zsa hy]at hi;simp only[zsy]at hi;obtain⟨b,hb,hi⟩:=bind_some hi;refine⟨_,_,rfl,rfl,?_⟩;obtain⟨T,hT⟩:∃ T:Int×{ a:List (List (List Int)) // LOk ls a }->LSt,T=λp=>⟨55,[(3,.ptr 1 0),(6,dI y.1),(30,.sl (2+ls.length+1) 0 1 y.2.length (some y.2.length) y.2.length),(31,dI y.2.length),(32,dI p.1)],zfX ls p.2.1 ++ [lpF,.els 1 (y.2.map ((eI .i64).c true))]⟩:=⟨_,rfl⟩
  have hm1:∀ c,(zfX ls c ++ [lpF,.els 1 (y.2.map ((eI .i64).c true))])[1]? = some (zhk ls.length):=λc=>rfl
  have hm0:∀ c,(zfX ls c ++ [lpF,.els 1 (y.2.map ((eI .i64).c true))])[0]? = some (.els 1 (slR 2 ls)):=λc=>rfl
  have hmv:∀ c,LOk ls c->(zfX ls c ++ [lpF,.els 1 (y.2.map ((eI .i64).c true))])[2+ls.length+1]? = some (.els 1 (y.2.map ((eI .i64).c true))):=λc hc=>by
   rw[qal (by rw[ze3 hc.ln]; omega),ze3 hc.ln,show 2+ls.length+1 - (2+ls.length)=1 by omega];rfl
  have hmr:∀(c:List (List (List Int))) (v:Nat) (hv:v<c.length),(zfX ls c ++ [lpF,.els 1 (y.2.map ((eI .i64).c true))])[2+v]? = some (znV c[v]):=λc v hv=>zmI hv _
  have hms:∀(c:List (List (List Int))) (v:Nat) (hv:v<c.length) row,(zfX ls c ++ [lpF,.els 1 (y.2.map ((eI .i64).c true))]).set (2+v) (znV row)=zfX ls (c.set v row)++ [lpF,.els 1 (y.2.map ((eI .i64).c true))]:=λc v hv row=>zrF hv row _
  refine zaa ?_;simp only[rnA,Nat.reduceEqDiff,Nat.reduceLT,hmv a ha];refine EvL.jn T (λp=>p.2.1=b) ?_ ?_
  .refine zaa ?_;simp only[rnA];refine EvL.rounds T (λn p=>zsI y.1 y.2 n p.1 p.2.1=some b) (y.2.length+2) (0,⟨a,ha⟩) (by rw[hT]; refine za9.sub ?_; exact⟨rfl,rfl,rfl,rfl,rfl,qcQ⟩) hb (λ_ h=>nomatch (show none=some _ from h)) ?_;rintro n ⟨v,c,hc⟩ hp;simp only[zsI]at hp;rw[congrFun hT (v,⟨c,hc⟩)];refine zaa ?_;simp only;cases hcc:decide (v<(y.2.length:Int))with
   | false=>
    rw[hcc,qcS]at hp;simp only[rnA,Nat.reduceEqDiff,Nat.reduceLT,hcc];exact⟨(v,⟨c,hc⟩),qae hp,by rw[hT]; refine za9.sub ?_; exact⟨rfl,rfl,rfl,rfl,rfl,qcQ⟩⟩
   | true=>
    rw[hcc,qcR]at hp;obtain⟨x,g1,hp⟩:=bind_some hp;obtain⟨c',g2,hp⟩:=bind_some hp;have hc':=hc.put g2;unfold zhF at g2;obtain⟨row,g3,g2⟩:=bind_some g2;obtain⟨ip,g4,g2⟩:=bind_some g2;obtain⟨ip',g5,g2⟩:=bind_some g2;obtain⟨row',g6,g2⟩:=bind_some g2;unfold zhV at g5;obtain⟨bt,g7,g5⟩:=bind_some g5;obtain⟨w,g8,g5⟩:=bind_some g5;have hv0:=zbb g3;have hvl:v.toNat<c.length:=by have:=zbc g3; omega
    have hrow:c[v.toNat]=row:=by
     have:=zaz g3 λy=>y
     rw[qbQ,qad hvl]at this;exact qae this
    have hlv:v.toNat<ls.length:=by rw[<- hc.ln]; exact hvl
    have hll:ls[v.toNat]=row.length:=by
     have h1:=hc.len;subst h1;rw[List.getElem_map,hrow]
    have hvn:v<(ls.length:Int):=by omega
    have hip:ip.length=16:=by
     refine hc.w row ?_ ip ?_
     .rw[<- hrow]; exact qat _
     have:=zaz g4 λy=>y
     rw[qbQ]at this;exact qay this
    have hsl2:=zoa ls 2 v.toNat hlv;rw[hll]at hsl2;have hr1:=hmr c v.toNat hvl;rw[hrow]at hr1;have hr2:=hms c v.toNat hvl row';rw[<- ziA g2]at hr2;have h1:=hm1 c;have h0:=hm0 c;have hv5:=hmv c hc;have hl0:=zeO ls 2;have hq:((IntKind.i64.wrap (y.1.tdiv 64)).toNat<=15)=True:=eq_true (by have h2:=zbc g8; have h3:=zbb g8; rw[hip]at h2; change 0<=IntKind.i64.wrap (y.1.tdiv 64)at h3; change IntKind.i64.wrap (y.1.tdiv 64)<_ at h2; omega);have hput:List.take (IntKind.i64.wrap (y.1.tdiv 64)).toNat (e16.c true ip)++ [D.lit (.int .u64 (IntKind.u64.wrap (BitVec.ofInt IntKind.u64.bits w ||| BitVec.ofInt IntKind.u64.bits bt).toNat))]++ List.drop ((IntKind.i64.wrap (y.1.tdiv 64)).toNat+1) (e16.c true ip)=e16.c true ip':=ziJ hip g5;unfold znV at hr1 hr2;unfold zhk at h1;generalize zfX ls c ++ [lpF,.els 1 (y.2.map ((eI .i64).c true))]=M at *;generalize slR 2 ls=es at *;simp only[rnA,Nat.reduceEqDiff,Nat.reduceLT,Nat.reduceLeDiff,Int.reduceBEq,hv5,zbb g1,(show v<((y.2.length:Nat):Int)from zbc g1),zaz g1 ((eI .i64).c true),h1,h0,hl0,hvn,hsl2,hr1,zbb g4,(show x<((row.length:Nat):Int)from zbc g4),zaz g4 (e16.c true),zbb g8,(show w64 (y.1.tdiv 64)<((16:Nat):Int)from hip ▸ zbc g8),qbV,zdS hip g8,(zeo g7).1,(zeo g7).2,hq,hput,zcT,zbz g6 (e16.c true),hr2];exact⟨(w64 (v+1),⟨c',hc'⟩),hp,by rw[hT]; refine za9.sub ?_; exact⟨rfl,rfl,rfl,rfl,rfl,qcQ⟩⟩
  rintro⟨v,c,hc⟩ rfl;rw[congrFun hT (v,⟨c,hc⟩)];refine zaa ?_;simp only[rnA];exact⟨zfX ls c,ze3 hc.ln,za9.sub trivial,⟨c,hc⟩,hi,rfl⟩
 .rintro⟨a,ha⟩ hi;simp only[List.drop_length]at hi;cases hi;exact⟨ha,rfl⟩
 .rintro _ ⟨hr,rfl⟩;refine zaa ?_;have h1:(zfX ls r ++ [LB.lost])[1]? = some (zhk ls.length):=rfl;have hpw:Pw (Snp (zfX ls r ++ [LB.lost]) true) (slR 2 ls) (r.map ((eL e16).c true)):=by
   have:=zsD (L:=zfX ls r ++ [LB.lost]) r 2 λv hv=>zmI hv _
   rwa [hr.len]at this
  unfold zhk at h1;simp only[rnA,Nat.reduceEqDiff,Nat.reduceLT,h1];exact zc7.ret rfl (zmS (e:=eL e16) rfl (.inl rfl) (zeO ls 2).symm (zeO ls 2).symm (λk h=>by cases h; exact qan _) hpw)
 .intro id L1 hx; exact hx.elim
 intro L1 hx; exact hx.elim
def zq2(f:Int->Int)(sets:List (List Int))(i k:Int):Option (List (List Int)):=
 (zaS sets i).bind λs=>(zaS s k).bind λw=>(zfp s k (f w)).bind λs'=>zfp sets i s'
def nz1(one:List Int)(i:Int):Nat->Int->List (List Int)->Option (List (List Int))
 | 0,_,_=>none
 | n+1,k,sets=>bif decide (k<16)then(zaS one k).bind λo=>(zq2 (λw=>orI .u64 w o) sets i k).bind λs=>nz1 one i n (w64 (k+1)) s else some sets
def nz2(zgc:List (List Int))(i:Int):Nat->Int->List (List Int)->Option (List (List Int))
 | 0,_,_=>none
 | n+1,j,sets=>bif decide (j<(zgc.length:Int))then(zaS zgc j).bind λone=>(nz1 one i 18 0 sets).bind λs=>nz2 zgc i n (w64 (j+1)) s else some sets
def nz3(kind:Int)(wd:List Int)(i:Int):Nat->Int->List (List Int)->Bool->Option (List (List Int)×Bool)
 | 0,_,_,_=>none
 | n+1,k,sets,ap=>bif decide (k<16)then(zaS wd k).bind λo=>
   bif kind == 4 then(zq2 (λw=>zkD .u64 w o) sets i k).bind λs=>nz3 kind wd i n (w64 (k+1)) s ap
   else(zaS sets i).bind λs0=>(zaS s0 k).bind λw0=>(zq2 (λw=>orI .u64 w o) sets i k).bind λs=>nz3 kind wd i n (w64 (k+1)) s (bif ap then zkD .u64 w0 o == 0 else false)
   else some (sets,ap)
def nz4(g:S_api_Gate)(i:Int):Nat->Int->List (List Int)->Bool->Option (List (List Int)×Bool)
 | 0,_,_,_=>none
 | n+1,j,sets,ap=>bif decide (j<(g.args.length:Int))then(zaS g.args j).bind λa=>(zaS sets a).bind λwd=>(nz3 g.kind wd i 18 0 sets ap).bind λr=>nz4 g i n (w64 (j+1)) r.1 r.2 else some (sets,ap)
def nzF(lits:List (List (List Int)))(g:S_api_Gate)(i:Int)(sets:List (List Int)):Option (List (List Int)):=
 bif g.kind == 2 then(zaS lits g.var).bind λrow=>(zaS row g.val).bind λip=>zfp sets i ip
 else bif (bif g.kind == 4 then true else bif g.kind == 1 then decide (0<g.n)else false)then(zaS lits 0).bind λzgc=>nz2 zgc i (zgc.length+2) 0 sets else some sets
def nz5(lits:List (List (List Int)))(gates:List S_api_Gate):Nat->Int->List (List Int)->Bool->Option (List (List Int)×Bool)
 | 0,_,_,_=>none
 | n+1,i,sets,ap=>bif decide (i<(gates.length:Int))then(zaS gates i).bind λg=>(zaS sets i).bind λ_=>(nzF lits g i sets).bind λs=>(nz4 g i (g.args.length+2) 0 s ap).bind λr=>nz5 lits gates n (w64 (i+1)) r.1 r.2 else some (sets,ap)
def zbk(c:S_api_Circuit):Option (List (List Int)×Bool):=
 (zaF c.cards).bind λlits=>(zfH 128 (c.gates.length:Int) z16).bind λsets=>nz5 lits c.gates (c.gates.length+2) 0 sets true
structure SOk (m:Nat) (sets:List (List Int)):Prop where
 len:sets.length=m
 w:∀ s∈sets,s.length=16
variable{sets sets':List (List Int)}
theorem SOk.set{m:Nat}{s:List Int}(h:SOk m sets)(hs:s.length=16)(e:zfp sets i s=some sets'):SOk m sets':=by
 refine⟨(zbg e).trans h.len,λa ha=>?_⟩;rw[ziA e]at ha;rcases qbj ha with ha | rfl
 .exact h.w a ha
 exact hs
theorem SOk.up{m:Nat}{f:Int->Int}{k:Int}(h:SOk m sets)(e:zq2 f sets i k=some sets'):SOk m sets':=by
 unfold zq2 at e;obtain⟨s,g1,e⟩:=bind_some e;obtain⟨w,g2,e⟩:=bind_some e;obtain⟨s',g3,e⟩:=bind_some e;exact h.set ((zbg g3).trans (h.w s (zcA g1))) e
theorem zoR{ls:List Nat}:∀(u:List (Int×List Int)) (a b:List (List (List Int))),LOk ls a->zsy u a=some b->LOk ls b
 | [],_,_,h,e=>by cases e; exact h
 | y :: u,a,b,h,e=>by
  unfold zsy at e;obtain⟨c,g,e⟩:=bind_some e;exact zoR u c b (zpq _ _ _ _ h g) e
theorem zir{t:Bool}:List.take 16 (e16.c t x)=e16.c t x:=qaQ (by rw[zcT]; exact qan _)
theorem zry{t:Bool}:List.drop 16 (e16.c t x)=[]:=qaM (by rw[zcT]; exact qan _)
theorem znG{r:List (List (List Int))}(h:zaF cards=some r):∀ row∈r,∀ ip∈row,ip.length=16:=by
 unfold zaF at h;obtain⟨_,_,h⟩:=bind_some h;obtain⟨_,_,h⟩:=bind_some h;obtain⟨rows,hrw,h⟩:=bind_some h;obtain⟨u,hu,h⟩:=bind_some h;exact(zoR u rows r (zhq hrw) h).w
theorem zfj{p0:S_api_Circuit}{r:List (List Int)×Bool}(h:zbk p0=some r):Lx.Fn mC 57 [(.agg [(fzE false (eI .i64) p0.cards),(fzE false zab p0.gates)])] (.tup [(fzE true e16 r.1),(dB r.2)]):=by
 refine gnO ?_;unfold zbk at h;obtain⟨lits,hlit,h⟩:=bind_some h;obtain⟨sets,hmk,h⟩:=bind_some h;have hlw:=znG hlit;refine zaa ?_;simp only[rnA,Nat.reduceEqDiff,Nat.reduceLT,reduceCtorEq];refine fCM (zeA hlit) ?_;have hm:16=e16.n:=rfl;simp only[rnA,Nat.reduceEqDiff,Nat.reduceLT,reduceCtorEq,(zbK hmk).1.1,(zbK hmk).1.2,qbU,qaq,zal];have hok:SOk p0.gates.length sets:=by
  refine⟨by rw[zd9 hmk,qaq],λs hs=>?_⟩;have:=zdk hmk λy=>y
  rw[qbQ]at this;rw[<- this]at hs;rw[(qcy.1 hs).2]; rfl
 have hrep:List.replicate p0.gates.length ([dU 0,dU 0,dU 0,dU 0,dU 0,dU 0,dU 0,dU 0,dU 0,dU 0,dU 0,dU 0,dU 0,dU 0,dU 0,dU 0]:List D)=sets.map (e16.c true):=by
  have:=zdk hmk (e16.c true);rw[qaq]at this;exact this
 simp only[dU]at hrep;generalize hm:p0.gates.length=m at *;obtain⟨T0,hT0⟩:∃ T:Int×List (List Int)×Bool->LSt,T=λa=>⟨139,[(2,.sl 1 0 16 m (some m) m),(3,dB a.2.2),(4,fzE true (eL e16) lits),(24,fzE false zab p0.gates),(25,dI m),(26,dI a.1)],[.gone,.els 16 (a.2.1.map (e16.c true))]⟩:=⟨_,rfl⟩
 obtain⟨TE,hTE⟩:∃ T:List (List Int)×Bool->LSt,T=λa=>⟨139,[(2,.sl 1 0 16 m (some m) m),(3,dB a.2)],[.gone,.els 16 (a.1.map (e16.c true))]⟩:=⟨_,rfl⟩
 refine EvL.jn TE (λa=>a=r/\a.1.length=m) ?_ ?_
 .refine zaa ?_;simp only[rnA];refine EvL.rounds T0 (λn a=>nz5 lits p0.gates n a.1 a.2.1 a.2.2=some r/\SOk m a.2.1) (m+2) (0,sets,true) (by rw[hT0,hrep]; exact wAM) ⟨h,hok⟩ (λ_ h=>nomatch (show none=some _ from h.1)) ?_;rintro n ⟨i,sets,ap⟩ ⟨hp,ok⟩;simp only[nz5,hm]at hp;rw[congrFun hT0 (i,sets,ap)];refine zaa ?_;simp only[rnA,Nat.reduceEqDiff,Nat.reduceLT];cases hc:decide (i<(m:Int))with
  | false=>
   rw[hc,qcS]at hp;simp only[rnA];cases hp;exact⟨(sets,ap),⟨rfl,ok.len⟩,by rw[hTE]; exact wAM⟩
  | true=>
   rw[hc,qcR]at hp;obtain⟨g,g5,hp⟩:=bind_some hp;obtain⟨si,g6,hp⟩:=bind_some hp;obtain⟨s1,g7,hp⟩:=bind_some hp;obtain⟨r1,g8,hp⟩:=bind_some hp;simp only[rnA,Nat.reduceEqDiff,Nat.reduceLT,Nat.reduceAdd,Nat.reduceLeDiff,zai (n:=5) (e:=zab) rfl g5,zaE,zbb g6,(show i<((m:Nat):Int)from ok.len ▸ zbc g6),ok.len];obtain⟨T1,hT1⟩:∃ T:List (List Int)->LSt,T=λs=>⟨139,[(2,.sl 1 0 16 m (some m) m),(3,dB ap),(4,fzE true (eL e16) lits),(5,dI i),(6,.ptr 2 0),(7,.eptr 1 16 i.toNat 0 m),(24,fzE false zab p0.gates),(25,dI m),(26,dI i)],[.gone,.els 16 (s.map (e16.c true)),.cells [dI g.kind,dI g.var,dI g.val,dI g.n,fzE false (eI .i64) g.args]]⟩:=⟨_,rfl⟩
   refine EvL.jn T1 (λa=>a=s1/\SOk m a) ?_ ?_
   .refine zaa ?_;unfold nzF at g7;cases hk2:(g.kind == 2)with
    | true=>
     rw[hk2,qcR]at g7;obtain⟨row,q1,g7⟩:=bind_some g7;obtain⟨ip,q2,g7⟩:=bind_some g7;simp only[rnA,Nat.reduceEqDiff,Nat.reduceLT,Nat.reduceLeDiff,zai (n:=1) (e:=eL e16) rfl q1,zai (n:=16) (e:=e16) rfl q2,ok.len,zaz g6 (e16.c true),zir,zcT,zry,qbc,zbz g7 (e16.c true)];exact⟨s1,⟨rfl,ok.set (hlw row (zcA q1) ip (zcA q2)) g7⟩,by rw[hT1]; exact wAM⟩
    | false=>
     rw[hk2,qcS]at g7;simp only[rnA,Nat.reduceEqDiff];obtain⟨T2,hT2⟩:∃ T:Bool->LSt,T=λb=>⟨139,[(2,.sl 1 0 16 m (some m) m),(3,dB ap),(4,fzE true (eL e16) lits),(5,dI i),(6,.ptr 2 0),(7,.eptr 1 16 i.toNat 0 m),(24,fzE false zab p0.gates),(25,dI m),(26,dI i),(49,dB b)],[.gone,.els 16 (sets.map (e16.c true)),.cells [dI g.kind,dI g.var,dI g.val,dI g.n,fzE false (eI .i64) g.args]]⟩:=⟨_,rfl⟩
     refine EvL.jn T2 (λb=>b=(bif g.kind == 4 then true else bif g.kind == 1 then decide (0<g.n)else false)) ?_ ?_
     .refine zaa ?_;cases hk4:(g.kind == 4)with
      | true=>
       simp only[rnA,Nat.reduceEqDiff,Nat.reduceLT,hk4];exact⟨true,rfl,by rw[hT2]; exact wAM⟩
      | false=>
       cases hk1:(g.kind == 1)with
       | true=>
        simp only[rnA,Nat.reduceEqDiff,Nat.reduceLT,hk4,hk1];exact⟨_,rfl,by rw[hT2]; exact wAM⟩
       | false=>
        simp only[rnA,Nat.reduceEqDiff,Nat.reduceLT,hk4,hk1];exact⟨_,rfl,by rw[hT2]; exact wAM⟩
     rintro b hb;rw[<- hb]at g7;cases b with
     | false=>
      rw[qcS]at g7;cases g7;rw[congrFun hT2 false];refine zaa ?_;simp only[rnA,Nat.reduceEqDiff];exact⟨sets,⟨rfl,ok⟩,by rw[hT1]; exact wAM⟩
     | true=>
      rw[qcR]at g7;obtain⟨zgc,q1,g7⟩:=bind_some g7;have hones:=hlw zgc (zcA q1);rw[congrFun hT2 true];refine zaa ?_;simp only[rnA,Nat.reduceEqDiff,Nat.reduceLT,zai (n:=1) (e:=eL e16) rfl q1,zal];obtain⟨T3,hT3⟩:∃ T:Int×List (List Int)->LSt,T=λp=>⟨139,[(2,.sl 1 0 16 m (some m) m),(3,dB ap),(4,fzE true (eL e16) lits),(5,dI i),(6,.ptr 2 0),(7,.eptr 1 16 i.toNat 0 m),(24,fzE false zab p0.gates),(25,dI m),(26,dI i),(65,fzE true e16 zgc),(66,dI zgc.length),(67,dI p.1)],[.gone,.els 16 (p.2.map (e16.c true)),.cells [dI g.kind,dI g.var,dI g.val,dI g.n,fzE false (eI .i64) g.args]]⟩:=⟨_,rfl⟩
      refine EvL.jn T1 (λa=>a=s1/\SOk m a) ?_ ?_
      .refine zaa ?_;simp only[rnA];refine EvL.rounds T3 (λn p=>nz2 zgc i n p.1 p.2=some s1/\SOk m p.2) (zgc.length+2) (0,sets) (by rw[hT3]; exact wAM) ⟨g7,ok⟩ (λ_ h=>nomatch (show none=some _ from h.1)) ?_;rintro n ⟨j,s⟩ ⟨hj,oks⟩;simp only[nz2]at hj;simp only at oks;rw[congrFun hT3 (j,s)];refine zaa ?_;cases hjc:decide (j<(zgc.length:Int))with
       | false=>
        rw[hjc,qcS]at hj;simp only[rnA,Nat.reduceEqDiff,Nat.reduceLT,reduceCtorEq,hjc];cases hj;exact⟨_,⟨rfl,oks⟩,by rw[hT1]; exact wAM⟩
       | true=>
        rw[hjc,qcR]at hj;obtain⟨one,q3,hj⟩:=bind_some hj;obtain⟨s2,q4,hj⟩:=bind_some hj;have hone:=hones one (zcA q3);simp only[rnA,Nat.reduceEqDiff,Nat.reduceLT,Nat.reduceAdd,Nat.reduceLeDiff,hjc,zai (n:=16) (e:=e16) rfl q3,zir,zcT,qbc];obtain⟨T4,hT4⟩:∃ T:Int×List (List Int)->LSt,T=λp=>⟨139,[(2,.sl 1 0 16 m (some m) m),(3,dB ap),(4,fzE true (eL e16) lits),(5,dI i),(6,.ptr 2 0),(7,.eptr 1 16 i.toNat 0 m),(24,fzE false zab p0.gates),(25,dI m),(26,dI i),(65,fzE true e16 zgc),(66,dI zgc.length),(67,dI j),(71,.agg (e16.c true one)),(72,dI p.1)],[.gone,.els 16 (p.2.map (e16.c true)),.cells [dI g.kind,dI g.var,dI g.val,dI g.n,fzE false (eI .i64) g.args]]⟩:=⟨_,rfl⟩
        obtain⟨T5,hT5⟩:∃ T:List (List Int)->LSt,T=λs=>⟨139,[(2,.sl 1 0 16 m (some m) m),(3,dB ap),(4,fzE true (eL e16) lits),(5,dI i),(6,.ptr 2 0),(7,.eptr 1 16 i.toNat 0 m),(24,fzE false zab p0.gates),(25,dI m),(26,dI i),(65,fzE true e16 zgc),(66,dI zgc.length),(67,dI j)],[.gone,.els 16 (s.map (e16.c true)),.cells [dI g.kind,dI g.var,dI g.val,dI g.n,fzE false (eI .i64) g.args]]⟩:=⟨_,rfl⟩
        refine EvL.jn T5 (λa=>a=s2/\SOk m a) ?_ ?_
        .refine zaa ?_;simp only[rnA];refine EvL.rounds T4 (λn p=>nz1 one i n p.1 p.2=some s2/\SOk m p.2) 18 (0,s) (by rw[hT4]; exact wAM) ⟨q4,oks⟩ (λ_ h=>nomatch (show none=some _ from h.1)) ?_;clear oks q4 hj hT3;rintro n ⟨k,s⟩ ⟨hk,oks⟩;simp only[nz1]at hk;simp only at oks;rw[congrFun hT4 (k,s)];refine zaa ?_;cases hkc:decide (k<16)with
         | false=>
          rw[hkc,qcS]at hk;simp only[rnA,Nat.reduceEqDiff,Nat.reduceLT,reduceCtorEq,hkc];cases hk;exact⟨_,⟨rfl,oks⟩,by rw[hT5]; exact wAM⟩
         | true=>
          rw[hkc,qcR]at hk;obtain⟨o,q5,hk⟩:=bind_some hk;obtain⟨s',u0,hk⟩:=bind_some hk;have oks':=oks.up u0;unfold zq2 at u0;obtain⟨z0,u1,u0⟩:=bind_some u0;obtain⟨w,u2,u0⟩:=bind_some u0;obtain⟨z1,u3,u4⟩:=bind_some u0;have hz0:=oks.w z0 (zcA u1);have hk0:=zbb u2;have hk16:k<((16:Nat):Int):=hz0 ▸ zbc u2;have hk15:(k.toNat<=15)=True:=eq_true (by omega);have hput:List.take k.toNat (e16.c true z0)++ [D.lit (.int .u64 (IntKind.u64.wrap (BitVec.ofInt IntKind.u64.bits w ||| BitVec.ofInt IntKind.u64.bits o).toNat))]++ List.drop (k.toNat+1) (e16.c true z0)=e16.c true z1:=ziJ hz0 u3;simp only[rnA,Nat.reduceEqDiff,Nat.reduceLT,Nat.reduceLeDiff,hkc,hk0,hk16,qcf,qbV,zdS hone q5,oks.len,zaz u1 (e16.c true),zdS hz0 u2,zcT,hk15,hput,zbz u4 (e16.c true)];exact⟨(w64 (k+1),s'),⟨hk,oks'⟩,by rw[hT4]; exact wAM⟩
        rintro a ⟨rfl,oka⟩;rw[congrFun hT5 a];refine zaa ?_;simp only[rnA,Nat.reduceEqDiff,Nat.reduceLT];exact⟨(w64 (j+1),a),⟨hj,oka⟩,by rw[hT3]; exact wAM⟩
      rintro a ⟨rfl,oka⟩;rw[congrFun hT1 a];refine zaa ?_;simp only[rnA];exact⟨a,⟨rfl,oka⟩,by rw[hT1]; exact wAM⟩
   rintro a ⟨rfl,oka⟩;rw[congrFun hT1 a];refine zaa ?_;simp only[rnA,Nat.reduceEqDiff,Nat.reduceLT,zal];obtain⟨T6,hT6⟩:∃ T:Int×List (List Int)×Bool->LSt,T=λp=>⟨139,[(2,.sl 1 0 16 m (some m) m),(3,dB p.2.2),(4,fzE true (eL e16) lits),(5,dI i),(6,.ptr 2 0),(7,.eptr 1 16 i.toNat 0 m),(24,fzE false zab p0.gates),(25,dI m),(26,dI i),(88,fzE false (eI .i64) g.args),(89,dI g.args.length),(90,dI p.1)],[.gone,.els 16 (p.2.1.map (e16.c true)),.cells [dI g.kind,dI g.var,dI g.val,dI g.n,fzE false (eI .i64) g.args]]⟩:=⟨_,rfl⟩
   obtain⟨T7,hT7⟩:∃ T:List (List Int)×Bool->LSt,T=λp=>⟨139,[(2,.sl 1 0 16 m (some m) m),(3,dB p.2),(4,fzE true (eL e16) lits),(24,fzE false zab p0.gates),(25,dI m),(26,dI i)],[.gone,.els 16 (p.1.map (e16.c true))]⟩:=⟨_,rfl⟩
   refine EvL.jn T7 (λp=>p=r1/\SOk m p.1) ?_ ?_
   .refine zaa ?_;simp only[rnA];refine EvL.rounds T6 (λn p=>nz4 g i n p.1 p.2.1 p.2.2=some r1/\SOk m p.2.1) (g.args.length+2) (0,a,ap) (by rw[hT6]; exact wAM) ⟨g8,oka⟩ (λ_ h=>nomatch (show none=some _ from h.1)) ?_;rintro n ⟨j,s,ap⟩ ⟨hj,oks⟩;simp only[nz4]at hj;simp only at oks;rw[congrFun hT6 (j,s,ap)];refine zaa ?_;cases hjc:decide (j<(g.args.length:Int))with
    | false=>
     rw[hjc,qcS]at hj;simp only[rnA,Nat.reduceEqDiff,Nat.reduceLT,reduceCtorEq,hjc];cases hj;exact⟨_,⟨rfl,oks⟩,by rw[hT7]; exact wAM⟩
    | true=>
     rw[hjc,qcR]at hj;obtain⟨x,q2,hj⟩:=bind_some hj;obtain⟨wd,q3,hj⟩:=bind_some hj;obtain⟨r2,q4,hj⟩:=bind_some hj;have hwd:=oks.w wd (zcA q3);simp only[rnA,Nat.reduceEqDiff,Nat.reduceLT,Nat.reduceLeDiff,hjc,zai (n:=1) (e:=eI .i64) rfl q2,zbb q3,(show x<((m:Nat):Int)from oks.len ▸ zbc q3),oks.len,zaz q3 (e16.c true),zir,zcT];obtain⟨T8,hT8⟩:∃ T:Int×List (List Int)×Bool->LSt,T=λp=>⟨139,[(2,.sl 1 0 16 m (some m) m),(3,dB p.2.2),(4,fzE true (eL e16) lits),(5,dI i),(6,.ptr 2 0),(7,.eptr 1 16 i.toNat 0 m),(24,fzE false zab p0.gates),(25,dI m),(26,dI i),(88,fzE false (eI .i64) g.args),(89,dI g.args.length),(90,dI j),(97,.agg (e16.c true wd)),(98,dI p.1)],[.gone,.els 16 (p.2.1.map (e16.c true)),.cells [dI g.kind,dI g.var,dI g.val,dI g.n,fzE false (eI .i64) g.args]]⟩:=⟨_,rfl⟩
     obtain⟨T9,hT9⟩:∃ T:List (List Int)×Bool->LSt,T=λp=>⟨139,[(2,.sl 1 0 16 m (some m) m),(3,dB p.2),(4,fzE true (eL e16) lits),(5,dI i),(6,.ptr 2 0),(7,.eptr 1 16 i.toNat 0 m),(24,fzE false zab p0.gates),(25,dI m),(26,dI i),(88,fzE false (eI .i64) g.args),(89,dI g.args.length),(90,dI j)],[.gone,.els 16 (p.1.map (e16.c true)),.cells [dI g.kind,dI g.var,dI g.val,dI g.n,fzE false (eI .i64) g.args]]⟩:=⟨_,rfl⟩
     refine EvL.jn T9 (λa=>a=r2/\SOk m a.1) ?_ ?_
     .refine zaa ?_;simp only[rnA];refine EvL.rounds T8 (λn p=>nz3 g.kind wd i n p.1 p.2.1 p.2.2=some r2/\SOk m p.2.1) 18 (0,s,ap) (by rw[hT8]; exact wAM) ⟨q4,oks⟩ (λ_ h=>nomatch (show none=some _ from h.1)) ?_;clear oks q3 q4 hj;rintro n ⟨k,s,ap⟩ ⟨hk,oks⟩;simp only[nz3]at hk;simp only at oks;rw[congrFun hT8 (k,s,ap)];refine zaa ?_;cases hkc:decide (k<16)with
      | false=>
       rw[hkc,qcS]at hk;simp only[rnA,Nat.reduceEqDiff,Nat.reduceLT,reduceCtorEq,hkc];cases hk;exact⟨_,⟨rfl,oks⟩,by rw[hT9]; exact wAM⟩
      | true=>
       rw[hkc,qcR]at hk;obtain⟨o,q5,hk⟩:=bind_some hk;simp only[rnA,Nat.reduceEqDiff,Nat.reduceLT,hkc];refine EvL.jn (λp:List (List Int)×Bool=>T8 (k,p.1,p.2)) (λp=>nz3 g.kind wd i n (w64 (k+1)) p.1 p.2=some r2/\SOk m p.1) ?_ ?_
       .refine zaa ?_;cases hk4:(g.kind == 4)with
        | true=>
         rw[hk4,qcR]at hk;obtain⟨s',u0,hk⟩:=bind_some hk;have oks':=oks.up u0;unfold zq2 at u0;obtain⟨z0,u1,u0⟩:=bind_some u0;obtain⟨w,u2,u0⟩:=bind_some u0;obtain⟨z1,u3,u4⟩:=bind_some u0;have hz0:=oks.w z0 (zcA u1);have hk0:=zbb u2;have hk16:k<((16:Nat):Int):=hz0 ▸ zbc u2;have hk15:(k.toNat<=15)=True:=eq_true (by omega);have hput:List.take k.toNat (e16.c true z0)++ [D.lit (.int .u64 (IntKind.u64.wrap (BitVec.ofInt IntKind.u64.bits w &&& BitVec.ofInt IntKind.u64.bits o).toNat))]++ List.drop (k.toNat+1) (e16.c true z0)=e16.c true z1:=ziJ hz0 u3;simp only[rnA,Nat.reduceEqDiff,Nat.reduceLT,Nat.reduceLeDiff,reduceCtorEq,hk4,hk0,hk16,qcf,qbV,zdS hwd q5,oks.len,zaz u1 (e16.c true),zdS hz0 u2,zcT,hk15,hput,zbz u4 (e16.c true)];exact⟨(s',ap),⟨hk,oks'⟩,by rw[hT8]; exact wAM⟩
        | false=>
         rw[hk4,qcS]at hk;obtain⟨z,v1,hk⟩:=bind_some hk;obtain⟨w0,v2,hk⟩:=bind_some hk;obtain⟨s',u0,hk⟩:=bind_some hk;have oks':=oks.up u0;unfold zq2 at u0;obtain⟨z0,u1,u0⟩:=bind_some u0;obtain⟨w,u2,u0⟩:=bind_some u0;obtain⟨z1,u3,u4⟩:=bind_some u0;have hz0:=oks.w z0 (zcA u1);have hk0:=zbb u2;have hk16:k<((16:Nat):Int):=hz0 ▸ zbc u2;have hk15:(k.toNat<=15)=True:=eq_true (by omega);have hput:List.take k.toNat (e16.c true z0)++ [D.lit (.int .u64 (IntKind.u64.wrap (BitVec.ofInt IntKind.u64.bits w ||| BitVec.ofInt IntKind.u64.bits o).toNat))]++ List.drop (k.toNat+1) (e16.c true z0)=e16.c true z1:=ziJ hz0 u3;rw[u1]at v1;obtain rfl:=qae v1;rw[u2]at v2;obtain rfl:=qae v2;simp only[rnA,Nat.reduceEqDiff,Nat.reduceLT,hk4,hk0,hk16,qcf,qbV,zdS hwd q5];cases ap with
         | false=>
          refine EvL.scope (zaa ?_);simp only[rnA,Nat.reduceEqDiff,Nat.reduceLT,Nat.reduceLeDiff,hk0,hk16,qbV,oks.len,zaz u1 (e16.c true),zdS hz0 u2,zcT,hk15,hput,zbz u4 (e16.c true)];exact⟨(s',false),⟨hk,oks'⟩,by rw[hT8]; exact wAM⟩
         | true=>
          refine EvL.scope (zaa ?_);simp only[rnA,Nat.reduceEqDiff,Nat.reduceLT,Nat.reduceLeDiff,hk0,hk16,qbV,oks.len,zaz u1 (e16.c true),zdS hz0 u2,zcT,hk15,hput,zbz u4 (e16.c true)];exact⟨(s',zkD .u64 w o == 0),⟨hk,oks'⟩,by rw[hT8]; exact wAM⟩
       rintro⟨a,ap⟩ ⟨hk,oka⟩;rw[congrFun hT8 (k,a,ap)];refine zaa ?_;simp only[rnA,Nat.reduceEqDiff,Nat.reduceLT];exact⟨(w64 (k+1),a,ap),⟨hk,oka⟩,by rw[hT8]; exact wAM⟩
     rintro⟨a,ap⟩ ⟨rfl,oka⟩;rw[congrFun hT9 (a,ap)];refine zaa ?_;simp only[rnA,Nat.reduceEqDiff,Nat.reduceLT];exact⟨(w64 (j+1),a,ap),⟨hj,oka⟩,by rw[hT6]; exact wAM⟩
   rintro⟨a,ap⟩ ⟨rfl,oka⟩;rw[congrFun hT7 (a,ap)];refine zaa ?_;simp only[rnA,Nat.reduceEqDiff,Nat.reduceLT];exact⟨(w64 (i+1),a,ap),⟨hp,oka⟩,by rw[hT0]; exact wAM⟩
 rintro⟨s,a⟩ ⟨rfl,hl⟩;rw[congrFun hTE (s,a)];refine zaa ?_;simp only[rnA,Nat.reduceEqDiff,Nat.reduceLT];exact zc7.ret rfl (.ztX (.cons (zcS (e:=e16) (t:=true) rfl (.inl rfl) hl.symm hl.symm (λk h=>by cases h; exact qan _) λ_=>rfl) (.cons (.lit _) .nil)))
def zxD(c:S_api_Circuit):Prop:=(c.gates.length+1)* 56<=zag/\(c.cards.length+1)* 8<=zag/\∀ y∈c.gates,(y.args.length+1)* 8<=zag
instance (c:S_api_Circuit):Decidable (zxD c):=by unfold zxD; infer_instance
end Go.Dc
