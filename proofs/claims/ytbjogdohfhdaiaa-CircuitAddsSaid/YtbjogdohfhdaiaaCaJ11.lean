/-
 CircuitChecks, in plain Lean. Conditions: none.
-/
import Derived.Test.YtbjogdohfhdaiaaCaJ10
import Derived.Test.YtbjogdohfhdaiaaCaSa
import Derived.Test.YtbjogdohfhdaiaaCaFrA
set_option linter.unusedSimpArgs false
set_option linter.unusedVariables false
set_option maxRecDepth 100000
namespace Go.Dc
open Go Go.Mx Go.Lx
structure Sz (c:S_api_Circuit):Prop where
 gl:c.gates.length<=100
 cl:c.cards.length<=20
 al:∀ x∈c.gates,x.args.length<=20
theorem Sz.args{c:S_api_Circuit}(h:Sz c):∀ g∈c.gates,g.args.length<4611686018427387904:=λg hg=>by have:=h.al g hg; omega
theorem zvF{d:S_haruspexref15_Draft}(hd:∀ x∈d.cards,0<=x):∀(n v:Nat) (acc:List Int),acc.length<=v->v<=4->4 - v<n->(∀ x∈acc,1<=x/\x<=3)->
  ∃ l,zaI d n (v:Int) acc=some l/\l.length<=4/\∀ x∈l,1<=x/\x<=3
 | 0,_,_,_,_,h,_=>absurd h (qav _)
 | n+1,v,acc,h1,h2,h3,h4=>by
  unfold zaI;rw[zb7];by_cases hv:v<d.cards.length
  .by_cases h5:v<4
   .have hx:=hd _ (qat hv);have hm:0<=(d.cards[v].tmod 3)/\(d.cards[v].tmod 3)<3:=by
     obtain⟨m,hm⟩:=Int.eq_ofNat_of_zero_le hx;rw[hm];exact⟨qaA (m % 3),by show((m % 3:Nat):Int)<3; have:=qbv m (show 0<3 by decide); omega⟩
    rw[qcT hv,qcR,qcT (show(v:Int)<4 by omega),qab,qcR,zau hv,qab,zeQ (by rw[qa3]; omega),qab,zap (by omega)];refine zvF hd n (v+1) _ (by simp; omega) h5 (by omega) λx hx=>?_
    rcases qbT.1 hx with hx | hx
    .exact h4 x hx
    rw[qck.1 hx,zd5 (n:=d.cards[v].tmod 3) (by omega) (by omega),zd5 (by omega) (by omega)];omega
   rw[qcT hv,qcR,qcU (show ¬ (v:Int)<4 by omega),qab,qcS];exact⟨acc,rfl,by omega,h4⟩
  rw[qcU hv,qcS,qab,qcS];exact⟨acc,rfl,by omega,h4⟩
end Go.Dc
namespace Go.Proofs.Ytbjogdohfhdaiaa.S
open Go Go.Mx Go.Lx Go.Dc Go.ChangeShapes Go.WideShapes Go.ChangeAt Go.RowKit
theorem zfs{H:Type}{enc:TypeId×Value->H}{W W':World}(hb:Below W.heap.size W W'):∀ {ts:List TypeId} {vs:List Value} {ds:List (DataW H)} {ps:List MemPlace},
  DataW.TrodAll enc Try.prog W 0 (λ_=>true) true ts vs ds ps->(∀ t∈ts,Try.prog.readableRec t=true/\t<Try.prog.types.size)->(∀ x∈ps,x.block<W.heap.size)->
  DataW.TrodAll enc Try.prog W' 0 (λb=>decide (b<W.heap.size)) true ts vs ds ps
 | [],vs,ds,ps,h,_,_=>by
  obtain⟨rfl,rfl,rfl⟩:=trodAll_nil h;exact trodAll_mk0
 | t :: ts,vs,ds,ps,h,ht,hlt=>by
  obtain⟨v,vs',d,ds',p,q,rfl,rfl,rfl,h1,h2⟩:=trodAll_cons h;obtain⟨r1,r2⟩:=ht t qar;exact⟨p,q,Below.trod laidOut r1 r2 h1 hb (λx hx=>hlt x (List.mem_append_left _ hx)),zfs hb h2 (λt h=>ht t (qam _ h)) (λx hx=>hlt x (List.mem_append_right _ hx)),rfl⟩
theorem zvI:Dec zaD [.int .u8,.int .u8,.int .u8,.int .u8] (λx=>okI .u8 x.a0/\okI .u8 x.a1/\okI .u8 x.a2/\okI .u8 x.a3):=
 Dec.iso (Dec.pair (Dec.int .u8) (Dec.pair (Dec.int .u8) (Dec.pair (Dec.int .u8) (Dec.int .u8)))) (λx:A4_Intu8=>(x.a0,x.a1,x.a2,x.a3)) (λa=>⟨a.1,a.2.1,a.2.2.1,a.2.2.2⟩) (λ_=>rfl)
theorem zu1:Dec zcf [.sl [.int .u8],.sl [.int .u8,.int .u8,.int .u8,.int .u8],.bool] (λx=>okL (okI .u8) x.cards/\okL (λx:A4_Intu8=>okI .u8 x.a0/\okI .u8 x.a1/\okI .u8 x.a2/\okI .u8 x.a3) x.gates/\True):=
 Dec.iso (Dec.pair (Dec.list (Dec.int .u8)) (Dec.pair (Dec.list zvI) Dec.bool)) (λx:S_haruspexref15_Draft=>(x.cards,x.gates,x.big)) (λa=>⟨a.1,a.2.1,a.2.2⟩) (λ_=>rfl)
theorem zsL:zcN Try.prog 8 25=some [.sl [.int .u8],.sl [.int .u8,.int .u8,.int .u8,.int .u8],.bool]:=by kernel_rfl
theorem zw2:zoY Try.prog 25=true:=by kernel_rfl
theorem zvD:Try.prog.readableRec 25=true:=by kernel_rfl
theorem zwZ:(274:Nat)<Try.prog.types.size:=qcZ (by kernel_rfl)
theorem zoI{t:Nat}(ht:t<=274):t<Try.prog.types.size:=qcl ht zwZ
end Go.Proofs.Ytbjogdohfhdaiaa.S
namespace Go.Dc
open Go Go.Mx Go.Lx
def zfY(a:Nat->Nat):List Nat->Nat
 | []=>0
 | x :: l=>a x+zfY a l
def zba(a:Nat->Nat):List Nat->Nat
 | []=>1
 | x :: l=>a x * zba a l
theorem zdc{a b:Nat->Nat}:∀ {l:List Nat},(∀ x∈l,a x=b x)->zfY a l=zfY b l
 | [],_=>rfl
 | x :: l,h=>by simp only[zfY,h x qar,zdc λy hy=>h y (qam _ hy)]
theorem zcJ{a b:Nat->Nat}:∀ {l:List Nat},(∀ x∈l,a x=b x)->zba a l=zba b l
 | [],_=>rfl
 | x :: l,h=>by simp only[zba,h x qar,zcJ λy hy=>h y (qam _ hy)]
theorem zkm(a:Nat->Nat):∀ l r:List Nat,zba a (l ++ r)=zba a l * zba a r
 | [],r=>by simp[zba]
 | x :: l,r=>by simp only[qaH,zba,zkm a l r,qb3]
theorem zkn(a:Nat->Nat):∀ l:List Nat,zba a l.reverse=zba a l
 | []=>rfl
 | x :: l=>by rw[List.reverse_cons,zkm,zkn a l]; simp only[zba,qbV]; exact qbs _ _
def ex(inp:List Int)(a:Nat->Nat)(g:S_api_Gate):Nat:=
 bif g.kind == 1 then g.n.toNat else bif g.kind == 2 then isV (inp.getD g.var.toNat 0) g.val else bif g.kind == 3 then zfY a (ga g)else zba a (ga g)
def EvP(inp:List Int)(gs:List S_api_Gate)(a:Nat->Nat):Prop:=∀ i (h:i<gs.length),a i=ex inp a gs[i]
variable{i:Nat}{g:S_api_Gate}
theorem zr1{inp:List Int}{cs:List Nat}(hg:GOk cs i g){a b:Nat->Nat}(h:∀ t,t<i->a t=b t):ex inp a g=ex inp b g:=by
 cases hg with
 | num n hn=>rfl
 | is v x hv hx=>rfl
 | op k hk ar ne inc lt=>
  have e:ga ⟨k,0,0,0,iL ar⟩=ar:=zfA rfl;unfold ex;rw[e,zdc λx hx=>h x (lt x hx),zcJ λx hx=>h x (lt x hx)]
def exL(inp:List Int):List S_api_Gate->List Nat->List Nat
 | [],acc=>acc
 | g :: gs,acc=>exL inp gs (acc ++ [ex inp (λi=>acc.getD i 0) g])
theorem zst{cs:List Nat}(inp:List Int):∀(gs:List S_api_Gate) (acc:List Nat),(∀ k (h:k<gs.length),GOk cs (acc.length+k) gs[k])->
  (∀ t,t<acc.length->(exL inp gs acc).getD t 0=acc.getD t 0)/\∀ k (h:k<gs.length),(exL inp gs acc).getD (acc.length+k) 0=ex inp (λi=>(exL inp gs acc).getD i 0) gs[k]
 | [],acc,_=>⟨λ_ _=>rfl,λk h=>absurd h (qav _)⟩
 | g :: gs,acc,hg=>by
  have h0:GOk cs acc.length g:=hg 0 (qcP _);have hl:(acc ++ [ex inp (λi=>acc.getD i 0) g]).length=acc.length+1:=by simp
  obtain⟨a2,a4⟩:=zst inp gs (acc ++ [ex inp (λi=>acc.getD i 0) g]) λk h=>by
   have:=hg (k+1) (by simpa using h);rw[hl,show acc.length+1+k=acc.length+(k+1) by omega];exact this
  refine⟨λt ht=>?_,λk hk=>?_⟩
  .show(exL inp gs (acc ++ [ex inp (λi=>acc.getD i 0) g])).getD t 0=_;rw[a2 t (by omega),zjU ht]
  show(exL inp gs (acc ++ [ex inp (λi=>acc.getD i 0) g])).getD _ 0=ex inp (λi=>(exL inp gs (acc ++ [ex inp (λi=>acc.getD i 0) g])).getD i 0) _;cases k with
  | zero=>
   rw[qbk,a2 acc.length (by omega),qaj,qal (qan _),qbK];show ex inp _ g=ex inp _ g;refine zr1 h0 λt ht=>?_
   rw[a2 t (by omega),zjU ht]
  | succ k=>
   have:=a4 k (by simpa using hk);rw[hl,show acc.length+1+k=acc.length+(k+1) by omega]at this;exact this
theorem zv6{cs:List Nat}{gs:List S_api_Gate}(hg:∀ k (h:k<gs.length),GOk cs k gs[k])(inp:List Int):∃ a,EvP inp gs a:=by
 obtain⟨_,a4⟩:=zst (cs:=cs) inp gs [] λk hk=>by rw[qaU,qaN]; exact hg k hk
 refine⟨λi=>(exL inp gs []).getD i 0,λk hk=>?_⟩;have:=a4 k hk;rw[qaU,qaN]at this;exact this
theorem zqt{vals:List Nat}{a:Nat->Nat}:∀(ar:List Nat) (s:Nat),s<=za2->(∀ x∈ar,vals.getD x 0=a x)->zr7 vals ar s=min (s+zfY a ar) za2
 | [],s,hs,_=>by show s=min (s+0) za2; omega
 | x :: ar,s,hs,h=>by
  show zr7 vals ar (zfc s (vals.getD x 0))=_;rw[zqt ar _ (zfI _ _) λy hy=>h y (qam _ hy),h x qar];simp only[zfY,zfc];omega
theorem zly(x y:Nat):min (min x za2 * y) za2=min (x * y) za2:=by
 rcases Nat.le_total x za2 with h | h
 .rw[qa6 h]
 rw[qcg h];cases y with
 | zero=>rfl
 | succ y=>
  have h1:za2 * 1<=za2 * (y+1):=Nat.mul_le_mul_left _ (by omega);have h2:za2 * (y+1)<=x * (y+1):=qaE _ h;rw[qbV]at h1;rw[qcg h1,qcg (qaD h1 h2)]
theorem zlN(x y:Nat):zji (min x za2) (min y za2)=min (x * y) za2:=by
 unfold zji;rw[zly,qbs,zly,qbs]
theorem zf6{vals:List Nat}{a:Nat->Nat}:∀(ar:List Nat) (s:Nat),s<=za2->(∀ x∈ar,vals.getD x 0=a x)->zet vals ar s=min (s * zba a ar) za2
 | [],s,hs,_=>by show s=min (s * 1) za2; omega
 | x :: ar,s,hs,h=>by
  show zet vals ar (zji s (vals.getD x 0))=_;rw[zf6 ar _ (zfK _ _) λy hy=>h y (qam _ hy),h x qar];simp only[zba,zji];rw[zly,qb3]
theorem zs6(x v:Int):isV x v<=1:=by
 unfold isV;cases decide (0<=x)<;> cases(x == v)<;> decide
variable{vals:List Nat}
theorem zxa{inp:List Int}{cs:List Nat}(hg:GOk cs i g){a:Nat->Nat}(h:∀ t,t<i->vals.getD t 0=a t):gv inp vals g=min (ex inp a g) za2:=by
 cases hg with
 | num n hn=>
  show((n:Nat):Int).toNat=min ((n:Nat):Int).toNat za2;rw[qaq,qa6 (by have:=zfC; omega)]
 | is v x hv hx=>
  show isV _ _=min (isV _ _) za2;rw[qa6 (qaD (zs6 _ _) (by decide))]
 | op k hk ar ne inc lt=>
  have e:ga ⟨k,0,0,0,iL ar⟩=ar:=zfA rfl;rcases hk with rfl | rfl
  .show zr7 vals (ga ⟨3,0,0,0,iL ar⟩) 0=min (zfY a (ga ⟨3,0,0,0,iL ar⟩)) za2;rw[e,zqt ar 0 (qaB _) λx hx=>h x (lt x hx),qaN]
  show zet vals (ga ⟨4,0,0,0,iL ar⟩) 1=min (zba a (ga ⟨4,0,0,0,iL ar⟩)) za2;rw[e,zf6 ar 1 (by decide) λx hx=>h x (lt x hx),qb5]
theorem zt7{inp:List Int}{cs:List Nat}{gs:List S_api_Gate}(hg:∀ k (h:k<gs.length),GOk cs k gs[k]){a:Nat->Nat}(ha:EvP inp gs a):∀(m i:Nat) (vals:List Nat),i+m=gs.length->vals.length=i->(∀ t,t<i->vals.getD t 0=a t/\a t<za2)->
  (∀ vals',zcr inp vals (gs.drop i)=some vals'->vals'.length=gs.length/\∀ t,t<gs.length->vals'.getD t 0=a t/\a t<za2)/\((∀ t,t<gs.length->a t<za2)->∃ vals',zcr inp vals (gs.drop i)=some vals')
 | 0,i,vals,hi,hl,hv=>by
  rw[qaM (by omega)];refine⟨λvals' h=>?_,λ_=>⟨vals,rfl⟩⟩;cases h;exact⟨by omega,λt ht=>hv t (by omega)⟩
 | m+1,i,vals,hi,hl,hv=>by
  have hlt:i<gs.length:=by omega
  have hgv:gv inp vals gs[i]=min (a i) za2:=by rw[zxa (hg i hlt) λt ht=>(hv t ht).1,<- ha i hlt]
  rw[qau hlt];simp only[zcr];rw[hgv];by_cases hb:a i<za2
  .have hn:(min (a i) za2 == za2)=false:=beq_eq_false_iff_ne.2 (by omega);rw[hn,qcS,qa6 (by omega)];refine zt7 hg ha m (i+1) (vals ++ [a i]) (by omega) (by simp[hl]) λt ht=>?_
   by_cases ht':t<i
   .rw[zjU (by omega)]; exact hv t ht'
   obtain rfl:t=i:=by omega
   rw[qaj,qal (by omega),hl,qbK];exact⟨rfl,hb⟩
  have hn:(min (a i) za2 == za2)=true:=beq_iff_eq.2 (by omega);rw[hn,qcR];exact⟨(λvals' h=>nomatch h),λh=>absurd (h i hlt) hb⟩
theorem zop{inp:List Int}{cs:List Nat}{gs:List S_api_Gate}(hg:∀ k (h:k<gs.length),GOk cs k gs[k]){a:Nat->Nat}(ha:EvP inp gs a)(h:zcr inp [] gs=some vals):vals.length=gs.length/\∀ t,t<gs.length->vals.getD t 0=a t/\a t<za2:=
 (zt7 hg ha gs.length 0 [] (by omega) rfl λt ht=>absurd ht (qav _)).1 vals (by rw[qbi]; exact h)
theorem zwD{inp:List Int}{cs:List Nat}{gs:List S_api_Gate}(hg:∀ k (h:k<gs.length),GOk cs k gs[k]){a:Nat->Nat}(ha:EvP inp gs a)(h:∀ t,t<gs.length->a t<za2):∃ vals,zcr inp [] gs=some vals:=by
 have:=(zt7 hg ha gs.length 0 [] (by omega) rfl λt ht=>absurd ht (qav _)).2 h
 rwa [qbi]at this
def zf3(V:List Nat)(k i:Nat):Bool:=(V.getD i 0).testBit k
theorem zsr{V:List Nat}{k:Nat}:∀(ar:List Nat) (s:Nat),((iL ar).foldl (λs a=>s ||| V.getD a.toNat 0) s).testBit k=(s.testBit k || ar.any λa=>zf3 V k a)
 | [],s=>by show s.testBit k=_; simp
 | a :: ar,s=>by
  show((iL ar).foldl _ (s ||| V.getD a 0)).testBit k=_;rw[zsr ar,Nat.testBit_or,qco,Bool.or_assoc]; rfl
theorem zqG{V:List Nat}{k n:Nat}(h:V.getD i 0=vw V ⟨1,0,0,(n:Int),[]⟩):zf3 V k i=false:=by
 unfold zf3; rw[h]; exact qcr k
theorem zoi{V:List Nat}{k v x:Nat}(h:V.getD i 0=vw V ⟨2,(v:Int),(x:Int),0,[]⟩):zf3 V k i=(v == k):=by
 unfold zf3;rw[h];show(2 ^ ((v:Nat):Int).toNat).testBit k=_;rw[qaq,Nat.testBit_two_pow,qbL];simp
theorem zqz{V:List Nat}{k:Nat}{q:Int}{ar:List Nat}(hq:q=3\/q=4)(h:V.getD i 0=vw V ⟨q,0,0,0,iL ar⟩):zf3 V k i=ar.any λa=>zf3 V k a:=by
 have e:vw V ⟨q,0,0,0,iL ar⟩=(iL ar).foldl (λs a=>s ||| V.getD a.toNat 0) 0:=by rcases hq with rfl | rfl<;>rfl
 have hb:=zsr (V:=V) (k:=k) ar 0;rw[<- e,<- h,qcr,qbD]at hb;exact hb
theorem zoM{V:List Nat}{k:Nat}{ar:List Nat}(ne:ar≠[])(h:V.getD i 0=vw V ⟨3,0,0,0,iL ar⟩)(hs:smG V ⟨3,0,0,0,iL ar⟩=true):∀ a∈ar,zf3 V k a=zf3 V k i:=by
 have e:ga ⟨3,0,0,0,iL ar⟩=ar:=zfA rfl;have h1:ar.all (λa=>V.getD a 0 == V.getD (ar.headD 0) 0)=true:=by
  have:smG V ⟨3,0,0,0,iL ar⟩=ar.all (λa=>V.getD a 0 == V.getD (ar.headD 0) 0):=by
   unfold smG; rw[e]; rfl
  rw[<- this]; exact hs
 rw[<- zqx (gs:=[]) (g:=⟨3,0,0,0,iL ar⟩) rfl rfl ne h,qaY]at h1;intro a ha;unfold zf3;rw[beq_iff_eq.1 (h1 a ha)]
abbrev zqu(p:Nat->Bool)(l:List Nat):Prop:=l.Pairwise λa b=>¬(p a=true/\p b=true)
theorem zmy{V:List Nat}{k:Nat}:∀(l pre:List Nat),znD V pre l=true->zqu (zf3 V k) l/\∀ a∈l,∀ b∈pre,¬(zf3 V k b=true/\zf3 V k a=true)
 | [],pre,_=>⟨List.Pairwise.nil,λa h=>nomatch h⟩
 | a :: l,pre,h=>by
  simp only[znD,qaf,qaY,qcV]at h;obtain⟨h1,h2⟩:=h;obtain⟨g1,g2⟩:=zmy (k:=k) l (pre ++ [a]) h2;refine⟨qbm.2 ⟨λb hb=>g2 b hb a (by simp),g1⟩,λc hc b hb=>?_⟩;rcases qa2.1 hc with rfl | hc
  .rintro⟨q1,q2⟩;have:=congrArg (λn=>n.testBit k) (h1 b hb);simp only[Nat.testBit_and,qcr]at this;unfold zf3 at q1 q2;rw[q1,q2]at this;cases this
  exact g2 c hc b (by simp[hb])
theorem zqw{V:List Nat}{k:Nat}{ar:List Nat}(hs:dcG V ⟨4,0,0,0,iL ar⟩=true):zqu (zf3 V k) ar:=by
 have e:ga ⟨4,0,0,0,iL ar⟩=ar:=zfA rfl;have:dcG V ⟨4,0,0,0,iL ar⟩=zfU 0 (ar.map λa=>V.getD a 0):=by unfold dcG; rw[e]; rfl
 rw[this]at hs;have q:zfU 0 (ar.map λa=>V.getD a 0)=znD V [] ar:=zl8 ar [];rw[q]at hs;exact(zmy ar [] hs).1
def zdM(f:Nat->Nat):Nat->Nat
 | 0=>0
 | n+1=>zdM f n+f n
theorem zcC{f g:Nat->Nat}:∀ {n:Nat},(∀ x,x<n->f x=g x)->zdM f n=zdM g n
 | 0,_=>rfl
 | n+1,h=>by simp only[zdM,h n (qa1 n),zcC λx hx=>h x (Nat.lt_succ_of_lt hx)]
theorem ziD(c:Nat)(f:Nat->Nat):∀ n:Nat,zdM f n * c=zdM (λx=>f x * c) n
 | 0=>qbI c
 | n+1=>by simp only[zdM,qaW,ziD c f n]
theorem zsf(c:Nat)(f:Nat->Nat)(n:Nat):c * zdM f n=zdM (λx=>c * f x) n:=by
 rw[qbs,ziD];exact zcC λx _=>qbs _ _
theorem zmr(f g:Nat->Nat):∀ n:Nat,zdM (λx=>f x+g x) n=zdM f n+zdM g n
 | 0=>rfl
 | n+1=>by simp only[zdM,zmr f g n]; omega
theorem zjI:∀ n:Nat,zdM (λ_=>0) n=0
 | 0=>rfl
 | n+1=>by simp only[zdM,zjI n]
theorem zmv{x':Nat}:∀ {n:Nat},zdM (λx=>bif x == x' then 1 else 0) n=bif decide (x'<n)then 1 else 0
 | 0=>by rw[qcU (qav _)]; rfl
 | n+1=>by
  simp only[zdM];rw[zmv];by_cases h:x'<n
  .rw[qcT h,qcT (show x'<n+1 by omega),show(n == x')=false from beq_eq_false_iff_ne.2 (by omega)]; rfl
  rw[qcU h];by_cases h2:n=x'
  .rw[h2,qcW,qcT (qa1 _)]; rfl
  rw[show(n == x')=false from beq_eq_false_iff_ne.2 h2,qcU (show ¬ x'<n+1 by omega)]; rfl
theorem zjP(b:Nat->Nat->Nat)(n:Nat):∀ l:List Nat,zfY (λt=>zdM (λx=>b x t) n) l=zdM (λx=>zfY (b x) l) n
 | []=>(zjI n).symm
 | a :: l=>by simp only[zfY]; rw[zjP b n l,zmr]
theorem zlW{p:Nat->Bool}{a:Nat->Nat}{b:Nat->Nat->Nat}{n:Nat}:∀ {l:List Nat},zqu p l->(∀ t∈l,p t=true->a t=zdM (λx=>b x t) n)->(∀ t∈l,p t=false->∀ x,b x t=a t)->(l.any p)=true->zba a l=zdM (λx=>zba (b x) l) n
 | [],_,_,_,h=>by cases h
 | t :: l,ap,h1,h2,h=>by
  obtain⟨p1,p2⟩:=qbm.1 ap;simp only[zba];cases hp:p t with
  | true=>
   have hl:∀ x,zba (b x) l=zba a l:=λx=>zcJ λu hu=>h2 u (qam _ hu) (by
    cases hpu:p u with
    | false=>rfl
    | true=>exact absurd ⟨hp,hpu⟩ (p1 u hu)) x
   rw[h1 t qar hp,ziD];exact zcC λx _=>by rw[hl]
  | false=>
   rw[qco,hp,qbD]at h;rw[zlW p2 (λu hu=>h1 u (qam _ hu)) (λu hu=>h2 u (qam _ hu)) h,zsf];exact zcC λx _=>by rw[h2 t qar hp]
def dP(a ρ:Nat->Nat):Nat->List Nat->Nat
 | _,[]=>0
 | pre,t :: l=>ρ t * (pre * zba a l)+dP a ρ (pre * a t) l
theorem zn7{p:Nat->Bool}{a b:Nat->Nat}:∀ {l:List Nat} (pre:Nat),(∀ t∈l,p t=false)->dP a (λt=>bif p t then b t else 0) pre l=0
 | [],_,_=>rfl
 | t :: l,pre,h=>by
  simp only[dP];rw[h t qar,qcS,qbI,zn7 _ λu hu=>h u (qam _ hu)]
theorem zvV{p:Nat->Bool}{a b:Nat->Nat}:∀ {l:List Nat} (pre:Nat),zqu p l->(∀ t∈l,p t=false->b t=a t)->dP a (λt=>bif p t then b t else 0) pre l=pre * (bif l.any p then zba b l else 0)
 | [],pre,_,_=>(Nat.mul_zero pre).symm
 | t :: l,pre,ap,h=>by
  obtain⟨p1,p2⟩:=qbm.1 ap;simp only[dP];cases hp:p t with
  | true=>
   have hn:∀ u∈l,p u=false:=λu hu=>by
    cases hpu:p u with
    | false=>rfl
    | true=>exact absurd ⟨hp,hpu⟩ (p1 u hu)
   rw[zn7 _ hn,qco,hp,Bool.true_or,qcR,qcR,qbk];simp only[zba];rw[zcJ (b:=a) λu hu=>h u (qam _ hu) (hn u hu),Nat.mul_left_comm]
  | false=>
   rw[zvV _ p2 λu hu=>h u (qam _ hu),qco,hp,qbD,qcS,qbI,qaN];cases l.any p with
   | false=>simp
   | true=>
    rw[qcR,qcR];simp only[zba];rw[h t qar hp,qb3]
structure SD (cs:List Nat) (gs:List S_api_Gate) (V:List Nat) (inp:List Int) (k:Nat) (a:Nat->Nat) (b:Nat->Nat->Nat):Prop where
 gate:∀ i (h:i<gs.length),GOk cs i gs[i]
 v:VOk gs V
 sm:∀ g∈gs,smG V g=true
 dc:∀ g∈gs,dcG V g=true
 kl:k<cs.length
 len:inp.length=cs.length
 no:inp.getD k 0 = -1
 a:EvP inp gs a
 b:∀ x,EvP (inp.set k (x:Nat)) gs (b x)
section
variable {cs:List Nat} {gs:List S_api_Gate} {V:List Nat} {inp:List Int} {k:Nat} {a:Nat->Nat} {b:Nat->Nat->Nat}
theorem SD.zxF(h:SD cs gs V inp k a b)(x:Nat):(inp.set k (x:Int)).getD k 0=(x:Int):=by
 rw[zbp _ _ _ _ _ (by rw[h.len]; exact h.kl),if_pos rfl]
theorem SD.zxA(h:SD cs gs V inp k a b)(x:Nat){v:Nat}(hv:v≠k):(inp.set k (x:Int)).getD v 0=inp.getD v 0:=by
 rw[zbp _ _ _ _ _ (by rw[h.len]; exact h.kl),if_neg hv]
theorem SD.un(h:SD cs gs V inp k a b)(x:Nat):∀ n i,i<n->i<gs.length->zf3 V k i=false->b x i=a i
 | 0,_,h,_,_=>absurd h (qav _)
 | n+1,i,hi,hl,hp=>by
  rw[h.b x i hl,h.a i hl];have hv:=h.v.get i hl;have hg:=h.gate i hl;generalize gs[i]=g at *;cases hg with
  | num m hm=>rfl
  | is v y hv1 hv2=>
   rw[zoi hv]at hp;show isV _ _=isV _ _;rw[show((⟨2,(v:Int),(y:Int),0,[]⟩:S_api_Gate).var).toNat=v from qaq v,h.zxA x (beq_eq_false_iff_ne.1 hp)]
  | op q hq ar ne inc lt=>
   rw[zqz hq hv,List.any_eq_false]at hp;have e:ga ⟨q,0,0,0,iL ar⟩=ar:=zfA rfl;have hc:∀ t∈ar,b x t=a t:=λt ht=>h.un x n t (by have:=lt t ht; omega) (by have:=lt t ht; omega) (by simpa using hp t ht)
   rcases hq with rfl | rfl
   .show zfY (b x) (ga _)=zfY a (ga _);rw[e]; exact zdc hc
   show zba (b x) (ga _)=zba a (ga _);rw[e]; exact zcJ hc
theorem zqD{a b:Nat->Nat}:∀ {l:List Nat},(∀ t∈l,b t<=a t)->zfY b l<=zfY a l
 | [],_=>qan _
 | t :: l,h=>Nat.add_le_add (h t qar) (zqD λu hu=>h u (qam _ hu))
theorem zmf{a b:Nat->Nat}:∀ {l:List Nat},(∀ t∈l,b t<=a t)->zba b l<=zba a l
 | [],_=>qan _
 | t :: l,h=>qb7 (h t qar) (zmf λu hu=>h u (qam _ hu))
theorem zsR(v:Int):isV (-1) v=1:=rfl
theorem SD.mono(h:SD cs gs V inp k a b)(x:Nat):∀ n i,i<n->i<gs.length->b x i<=a i
 | 0,_,h,_=>absurd h (qav _)
 | n+1,i,hi,hl=>by
  rw[h.b x i hl,h.a i hl];have hg:=h.gate i hl;generalize gs[i]=g at *;cases hg with
  | num m hm=>exact qan _
  | is v y hv1 hv2=>
   show isV ((inp.set k (x:Int)).getD ((v:Nat):Int).toNat 0) _<=isV (inp.getD ((v:Nat):Int).toNat 0) _;rw[qaq];by_cases hv:v=k
   .subst hv; rw[h.no,zsR]; exact zs6 _ _
   .rw[h.zxA x hv]; exact qan _
  | op q hq ar ne inc lt=>
   have e:ga ⟨q,0,0,0,iL ar⟩=ar:=zfA rfl;have hc:∀ t∈ar,b x t<=a t:=λt ht=>h.mono x n t (by have:=lt t ht; omega) (by have:=lt t ht; omega)
   rcases hq with rfl | rfl
   .show zfY (b x) (ga _)<=zfY a (ga _);rw[e]; exact zqD hc
   show zba (b x) (ga _)<=zba a (ga _);rw[e]; exact zmf hc
theorem zp7(x y:Nat):isV (x:Int) (y:Int)=bif x == y then 1 else 0:=by
 unfold isV;rw[qcT (qaA x),qcR,zue]
theorem SD.add(h:SD cs gs V inp k a b):∀ n i,i<n->i<gs.length->zf3 V k i=true->a i=zdM (λx=>b x i) (cs.getD k 0)
 | 0,_,h,_,_=>absurd h (qav _)
 | n+1,i,hi,hl,hp=>by
  have hb:zdM (λx=>b x i) (cs.getD k 0)=zdM (λx=>ex (inp.set k (x:Nat)) (b x) gs[i]) (cs.getD k 0):=zcC λx _=>h.b x i hl
  rw[hb,h.a i hl];have hv:=h.v.get i hl;have hg:=h.gate i hl;have hsm:=h.sm gs[i] (qat hl);have hdc:=h.dc gs[i] (qat hl);clear hb;generalize gs[i]=g at *;cases hg with
  | num m hm=>rw[zqG hv]at hp; cases hp
  | is v y hv1 hv2=>
   rw[zoi hv]at hp;have hvk:v=k:=beq_iff_eq.1 hp;subst hvk;show isV (inp.getD ((v:Nat):Int).toNat 0) (y:Int)=zdM (λx=>isV ((inp.set v (x:Nat)).getD ((v:Nat):Int).toNat 0) (y:Int)) _;rw[qaq,h.no,zsR,zcC (g:=λx=>bif x == y then 1 else 0) λx _=>by rw[h.zxF,zp7],zmv,qcT hv2]; rfl
  | op q hq ar ne inc lt=>
   have e:ga ⟨q,0,0,0,iL ar⟩=ar:=zfA rfl;have hlt:∀ t∈ar,t<n/\t<gs.length:=λt ht=>by have:=lt t ht; exact⟨by omega,by omega⟩
   rcases hq with rfl | rfl
   .have hs:=zoM (k:=k) ne hv hsm;show zfY a (ga _)=zdM (λx=>zfY (b x) (ga _)) _;rw[e,<- zjP];exact zdc λt ht=>h.add n t (hlt t ht).1 (hlt t ht).2 ((hs t ht).trans hp)
   have hd:=zqw (k:=k) hdc;rw[zqz (.inr rfl) hv]at hp;show zba a (ga _)=zdM (λx=>zba (b x) (ga _)) _;rw[e];exact zlW hd (λt ht hpt=>h.add n t (hlt t ht).1 (hlt t ht).2 hpt) (λt ht hpt x=>h.un x n t (hlt t ht).1 (hlt t ht).2 hpt) hp
def rho(V:List Nat)(k:Nat)(b:Nat->Nat->Nat)(x i:Nat):Nat:=bif zf3 V k i then b x i else 0
variable{x i:Nat}
theorem SD.zth(h:SD cs gs V inp k a b){n:Nat}(hl:i<gs.length)(e:gs[i]=⟨1,0,0,(n:Int),[]⟩):rho V k b x i=0:=by
 have hv:=h.v.get i hl;rw[e]at hv;unfold rho; rw[zqG hv]; rfl
theorem SD.zvW(h:SD cs gs V inp k a b){v y:Nat}(hl:i<gs.length)(e:gs[i]=⟨2,(v:Int),(y:Int),0,[]⟩):rho V k b x i=bif v == k then(bif x == y then 1 else 0)else 0:=by
 have hv:=h.v.get i hl;have hb:=h.b x i hl;rw[e]at hv hb;unfold rho;rw[zoi hv];cases hk:(v == k)with
 | false=>rfl
 | true=>
  have hvk:v=k:=beq_iff_eq.1 hk;subst hvk;rw[qcR,qcR,hb];show isV ((inp.set v (x:Nat)).getD ((v:Nat):Int).toNat 0) (y:Int)=_;rw[qaq,h.zxF,zp7]
theorem zj2:∀ {f:Nat->Nat} {l:List Nat},(∀ t∈l,f t=0)->zfY f l=0
 | _,[],_=>rfl
 | f,t :: l,h=>by simp only[zfY,h t qar,zj2 λu hu=>h u (qam _ hu)]
theorem SD.ztA(h:SD cs gs V inp k a b){ar:List Nat}(ne:ar≠[])(hl:i<gs.length)(e:gs[i]=⟨3,0,0,0,iL ar⟩):rho V k b x i=zfY (rho V k b x) ar:=by
 have hv:=h.v.get i hl;have hb:=h.b x i hl;have hsm:=h.sm gs[i] (qat hl);rw[e]at hv hb hsm;have hs:=zoM (k:=k) ne hv hsm;unfold rho;cases hp:zf3 V k i with
 | true=>
  rw[qcR,hb];show zfY (b x) (ga _)=_;rw[zfA rfl];exact zdc λt ht=>by rw[hs t ht,hp]; rfl
 | false=>
  rw[qcS,zj2 λt ht=>by rw[hs t ht,hp]; rfl]
theorem SD.zrP(h:SD cs gs V inp k a b){ar:List Nat}(hl:i<gs.length)(lt:∀ t∈ar,t<i)(e:gs[i]=⟨4,0,0,0,iL ar⟩):rho V k b x i=dP a (rho V k b x) 1 ar:=by
 have hv:=h.v.get i hl;have hb:=h.b x i hl;have hdc:=h.dc gs[i] (qat hl);rw[e]at hv hb hdc;have hd:=zqw (k:=k) hdc;have:=zvV (p:=zf3 V k) (a:=a) (b:=b x) 1 hd λt ht hpt=>h.un x gs.length t (by have:=lt t ht; omega) (by have:=lt t ht; omega) hpt
 rw[qb5,<- zqz (.inr rfl) hv]at this;show(bif zf3 V k i then b x i else 0)=dP a (λt=>bif zf3 V k t then b x t else 0) 1 ar;rw[this,hb];show(bif zf3 V k i then zba (b x) (ga _)else 0)=_;rw[zfA rfl]
end
def zlL(S:List Nat)(ρ:Nat->Nat):Nat->Nat
 | 0=>0
 | j+1=>zlL S ρ j+S.getD j 0 * ρ j
theorem zi7{S:List Nat}{ρ:Nat->Nat}{a d:Nat}(ha:a<S.length):∀ j:Nat,zlL (S.set a (S.getD a 0+d)) ρ j=zlL S ρ j+if a<j then d * ρ a else 0
 | 0=>rfl
 | j+1=>by
  simp only[zlL];rw[zi7 ha j,zbp _ _ _ _ _ ha];by_cases h:j=a
  .subst h;rw[if_pos rfl,if_neg (Nat.lt_irrefl _),if_pos (qa1 _),qaW];omega
  rw[if_neg h];by_cases h2:a<j
  .rw[if_pos h2,if_pos (by omega)]; omega
  rw[if_neg h2,if_neg (by omega)]; omega
theorem zms(ρ:Nat->Nat)(m:Nat):∀ j:Nat,zlL (List.replicate m 0) ρ j=0
 | 0=>rfl
 | j+1=>by
  simp only[zlL];rw[zms ρ m j,qaj,qbx];split<;>simp
structure SatL (ss S:List Nat):Prop where
 len:ss.length=S.length
 get:∀ i,ss.getD i 0=min (S.getD i 0) za2
theorem SatL.set{ss S:List Nat}(h:SatL ss S){a x y:Nat}(ha:a<ss.length)(e:x=min y za2):SatL (ss.set a x) (S.set a y):=by
 refine⟨by simp[h.len],λi=>?_⟩;rw[zbp _ _ _ _ _ ha,zbp _ _ _ _ _ (h.len ▸ ha)];split
 .exact e
 exact h.get i
def ziV(slope:Nat):List Nat->List Nat->List Nat
 | S,[]=>S
 | S,a :: r=>ziV slope (S.set a (S.getD a 0+slope)) r
theorem zhT{slope j:Nat}(ρ:Nat->Nat):∀(ar ss S:List Nat),SatL ss S->(∀ a∈ar,a<j/\a<ss.length)->
  SatL (zdb slope ss ar) (ziV slope S ar)/\(zdb slope ss ar).length=ss.length/\zlL (ziV slope S ar) ρ j=zlL S ρ j+slope * zfY ρ ar
 | [],ss,S,h,_=>⟨h,rfl,rfl⟩
 | a :: ar,ss,S,h,hl=>by
  obtain⟨h1,h2⟩:=hl a qar;have hs:=h.set (x:=zfc (ss.getD a 0) slope) (y:=S.getD a 0+slope) h2 (by rw[h.get a]; unfold zfc; omega);obtain⟨q1,q2,q3⟩:=zhT (slope:=slope) (j:=j) ρ ar _ _ hs λb hb=>by rw[qaI]; exact hl b (qam _ hb)
  refine⟨q1,by show(zdb slope (ss.set a _) ar).length=_; rw[q2,qaI],?_⟩;show zlL (ziV slope (S.set a _) ar) ρ j=_;rw[q3,zi7 (h.len ▸ h2),if_pos h1];simp only[zfY];rw[Nat.mul_add]; omega
def zii(slope:Nat):List Nat->List Nat->List Nat->List Nat
 | S,a :: r,q :: s=>zii slope (S.set a (S.getD a 0+slope * q)) r s
 | S,_,_=>S
def zlS(a:Nat->Nat):Nat->List Nat->List Nat
 | _,[]=>[]
 | pre,t :: l=>pre * zba a l :: zlS a (pre * a t) l
theorem zhs{slope j:Nat}(hs0:slope<=za2)(ρ a:Nat->Nat):∀(ar:List Nat) (pre:Nat) (ss S:List Nat),SatL ss S->(∀ t∈ar,t<j/\t<ss.length)->
  SatL (zdg slope ss ar ((zlS a pre ar).map λq=>min q za2)) (zii slope S ar (zlS a pre ar))/\(zdg slope ss ar ((zlS a pre ar).map λq=>min q za2)).length=ss.length/\zlL (zii slope S ar (zlS a pre ar)) ρ j=zlL S ρ j+slope * dP a ρ pre ar
 | [],pre,ss,S,h,_=>⟨h,rfl,rfl⟩
 | t :: ar,pre,ss,S,h,hl=>by
  obtain⟨h1,h2⟩:=hl t qar;have e1:zji slope (min (pre * zba a ar) za2)=min (slope * (pre * zba a ar)) za2:=by
   have:=zlN slope (pre * zba a ar);rw[qa6 hs0]at this;exact this
  have hs:=h.set (x:=zfc (ss.getD t 0) (zji slope (min (pre * zba a ar) za2))) (y:=S.getD t 0+slope * (pre * zba a ar)) h2 (by rw[h.get t,e1]; unfold zfc; omega);obtain⟨q1,q2,q3⟩:=zhs (j:=j) hs0 ρ a ar (pre * a t) _ _ hs λb hb=>by rw[qaI]; exact hl b (qam _ hb)
  refine⟨q1,?_,?_⟩
  .show(zdg slope (ss.set t _) ar _).length=_;rw[q2,qaI]
  show zlL (zii slope (S.set t _) ar (zlS a (pre * a t) ar)) ρ j=_;rw[q3,zi7 (h.len ▸ h2),if_pos h1];simp only[dP];rw[Nat.mul_add,qbs (ρ t),qb3]; omega
theorem zl1(a:Nat->Nat):∀(ar:List Nat) (pre:Nat),(zlS a pre ar).length=ar.length
 | [],_=>rfl
 | t :: l,pre=>by simp[zlS,zl1 a l]
theorem zmx(a:Nat->Nat):∀(ar:List Nat) (pre i:Nat) (h:i<(zlS a pre ar).length),(zlS a pre ar)[i]=pre * zba a (ar.take i)* zba a (ar.drop (i+1))
 | [],_,i,h=>absurd h (qav _)
 | t :: l,pre,0,_=>by simp[zlS,zba]
 | t :: l,pre,i+1,h=>by
  simp only[zlS,qcD,qbB,qct,zba];rw[zmx a l,qb3 pre]
variable{vals:List Nat}
theorem ztp{a:Nat->Nat}{ar:List Nat}(h:∀ t∈ar,vals.getD t 0=a t):zkF vals ar=(zlS a 1 ar).map λq=>min q za2:=by
 refine List.ext_getElem (by simp[zkF,zl1]) λi h1 h2=>?_
 have hi:i<ar.length:=by simpa [zkF]using h1
 simp only[zkF,List.getElem_map,List.getElem_range];rw[zmx,qb5];unfold zlZ zpO;rw[zf6 (a:=a) _ 1 (by decide) λx hx=>h x (List.mem_of_mem_take hx),zf6 (a:=a) _ 1 (by decide) λx hx=>h x (qcM (List.mem_reverse.1 hx)),qb5,qb5,zkn,zlN]
structure DimR (cs:List Nat) (rows:List (List Nat)):Prop where
 len:rows.length=cs.length
 row:∀ v,v<cs.length->(rows.getD v []).length=cs.getD v 0
def zhj(rows:List (List Nat))(k x:Nat):Nat:=(rows.getD k []).getD x 0
theorem zjk{cs:List Nat}{gs:List S_api_Gate}{V:List Nat}{inp:List Int}{k:Nat}{a:Nat->Nat}{b:Nat->Nat->Nat}(h:SD cs gs V inp k a b){vals:List Nat}(hv:∀ t,t<gs.length->vals.getD t 0=a t):
  ∀(j:Nat) (rows:List (List Nat)) (ss S:List Nat) (rows':List (List Nat)),j<=gs.length->ss.length=gs.length->DimR cs rows->SatL ss S->zfh vals gs j rows ss=some rows' ->
   DimR cs rows'/\∀ x,zhj rows' k x=zhj rows k x+zlL S (rho V k b x) j
 | 0,rows,ss,S,rows',_,_,hd,_,e=>by
  cases e;exact⟨hd,λx=>rfl⟩
 | j+1,rows,ss,S,rows',hj,hl,hd,hs,e=>by
  have hjl:j<gs.length:=by omega
  have hgd:gs.getD j ⟨0,0,0,0,[]⟩=gs[j]:=zah hjl;simp only[zfh]at e;rw[hgd]at e;have hslope:=hs.get j;have hg:=h.gate j hjl;obtain⟨g,hgg⟩:∃ g,gs[j]=g:=⟨_,rfl⟩;rw[hgg]at hg e;cases hb:(ss.getD j 0 == za2)with
  | true=>
   have:zc4 vals g (ss.getD j 0) rows ss=none:=by unfold zc4; rw[hb]; rfl
   rw[this]at e;cases e
  | false=>
  have hSj:ss.getD j 0=S.getD j 0:=by have:=beq_eq_false_iff_ne.1 hb; omega
  have hsT:ss.getD j 0<=za2:=by omega
  simp only[zlL];cases hg with
  | num n hn=>
   have hst:zc4 vals ⟨1,0,0,(n:Int),[]⟩ (ss.getD j 0) rows ss=some (rows,ss):=by unfold zc4; rw[hb]; rfl
   rw[hst]at e;obtain⟨q1,q2⟩:=zjk h hv j rows ss S rows' (by omega) hl hd hs e;exact⟨q1,λx=>by rw[q2,h.zth hjl hgg,Nat.mul_zero,qbk]⟩
  | is v y hv1 hv2=>
   have hst:zc4 vals ⟨2,(v:Int),(y:Int),0,[]⟩ (ss.getD j 0) rows ss=(bif zfc ((rowAt rows v).getD y 0) (ss.getD j 0)== za2 then none else some (rows.set v ((rowAt rows v).set y (zfc ((rowAt rows v).getD y 0) (ss.getD j 0))),ss)):=by
    unfold zc4;rw[hb,qcS];show(bif zfc ((rowAt rows ((v:Nat):Int).toNat).getD ((y:Nat):Int).toNat 0) (ss.getD j 0)== za2 then none else some (rows.set ((v:Nat):Int).toNat ((rowAt rows ((v:Nat):Int).toNat).set ((y:Nat):Int).toNat (zfc ((rowAt rows ((v:Nat):Int).toNat).getD ((y:Nat):Int).toNat 0) (ss.getD j 0))),ss))=_;rw[qaq,qaq]
   rw[hst]at e;cases hb2:(zfc ((rowAt rows v).getD y 0) (ss.getD j 0)== za2)with
   | true=>rw[hb2]at e; cases e
   | false=>
   rw[hb2,qcS]at e;have hvr:v<rows.length:=by rw[hd.len]; exact hv1
   have hrl:(rowAt rows v).length=cs.getD v 0:=hd.row v hv1;have hyr:y<(rowAt rows v).length:=by rw[hrl]; exact hv2
   have hval:zfc ((rowAt rows v).getD y 0) (ss.getD j 0)=(rowAt rows v).getD y 0+S.getD j 0:=by
    have:=beq_eq_false_iff_ne.1 hb2;unfold zfc at this ⊢;omega
   rw[hval]at e;have hd1:DimR cs (rows.set v ((rowAt rows v).set y ((rowAt rows v).getD y 0+S.getD j 0))):=by
    refine⟨by simp[hd.len],λu hu=>?_⟩;rw[zbp _ _ _ _ _ hvr];split
    .next e=>subst e; rw[qaI]; exact hrl
    exact hd.row u hu
   obtain⟨q1,q2⟩:=zjk h hv j _ ss S rows' (by omega) hl hd1 hs e;refine⟨q1,λx=>?_⟩;rw[q2,h.zvW hjl hgg];have hc:zhj (rows.set v ((rowAt rows v).set y ((rowAt rows v).getD y 0+S.getD j 0))) k x=zhj rows k x+S.getD j 0 * (bif v == k then(bif x == y then 1 else 0)else 0):=by
    unfold zhj;rw[zbp _ _ _ _ _ hvr];by_cases hvk:k=v
    .subst hvk;rw[if_pos rfl,qcW,qcR,zbp _ _ _ _ _ hyr];by_cases hxy:x=y
     .subst hxy;rw[if_pos rfl,qcW,qcR,qbV]; rfl
     rw[if_neg hxy,show(x == y)=false from beq_eq_false_iff_ne.2 hxy,qcS,Nat.mul_zero]; rfl
    rw[if_neg hvk,show(v == k)=false from beq_eq_false_iff_ne.2 (Ne.symm hvk),qcS,Nat.mul_zero]; rfl
   rw[hc]; omega
  | op q hq ar ne inc lt=>
   have eg:ga ⟨q,0,0,0,iL ar⟩=ar:=zfA rfl;have hlt:∀ t∈ar,t<j/\t<ss.length:=λt ht=>by have:=lt t ht; exact⟨this,by omega⟩
   rcases hq with rfl | rfl
   .have hst:zc4 vals ⟨3,0,0,0,iL ar⟩ (ss.getD j 0) rows ss=some (rows,zdb (ss.getD j 0) ss ar):=by
     unfold zc4;rw[hb,qcS];show some (rows,zdb (ss.getD j 0) ss (ga ⟨3,0,0,0,iL ar⟩))=_;rw[eg]
    rw[hst]at e;have hr:=λx=>zhT (slope:=ss.getD j 0) (rho V k b x) ar ss S hs hlt
    obtain⟨r1,r2,_⟩:=hr 0;obtain⟨q1,q2⟩:=zjk h hv j rows _ _ rows' (by omega) (r2.trans hl) hd r1 e;exact⟨q1,λx=>by rw[q2,(hr x).2.2,h.ztA ne hjl hgg,hSj]⟩
   have hst:zc4 vals ⟨4,0,0,0,iL ar⟩ (ss.getD j 0) rows ss=some (rows,zdg (ss.getD j 0) ss ar ((zlS a 1 ar).map λq=>min q za2)):=by
    unfold zc4;rw[hb,qcS];show some (rows,zdg (ss.getD j 0) ss (ga ⟨4,0,0,0,iL ar⟩) (zkF vals (ga ⟨4,0,0,0,iL ar⟩)))=_;rw[eg,ztp λt ht=>hv t (by have:=lt t ht; omega)]
   rw[hst]at e;have hr:=λx=>zhs hsT (rho V k b x) a ar 1 ss S hs hlt
   obtain⟨r1,r2,_⟩:=hr 0;obtain⟨q1,q2⟩:=zjk h hv j rows _ _ rows' (by omega) (r2.trans hl) hd r1 e;exact⟨q1,λx=>by rw[q2,(hr x).2.2,h.zrP hjl lt hgg,hSj]⟩
theorem ztY{cs:List Nat}{gs:List S_api_Gate}{V:List Nat}{inp:List Int}{k:Nat}{a:Nat->Nat}{b:Nat->Nat->Nat}(h:SD cs gs V inp k a b)(hv:∀ t,t<gs.length->vals.getD t 0=a t)(hm:1<=gs.length){rows:List (List Nat)}(e:zfh vals gs gs.length (zcw cs) (zcP gs.length)=some rows)(hp:zf3 V k (gs.length - 1)=true):DimR cs rows/\∀ x,zhj rows k x=b x (gs.length - 1):=by
 have hd:DimR cs (zcw cs):=by
  refine⟨by simp[zcw],λv hv=>?_⟩;rw[zah (by simpa [zcw]using hv),zah hv];simp[zcw]
 have hsl:zcP gs.length=(List.replicate gs.length 0).set (gs.length - 1) ((List.replicate gs.length 0).getD (gs.length - 1) 0+1):=by
  unfold zcP;rw[zah (by simp; omega)];simp
 have hs:SatL (zcP gs.length) (zcP gs.length):=by
  refine⟨rfl,λi=>?_⟩;have:=(zgx gs.length).le i;omega
 obtain⟨q1,q2⟩:=zjk h hv gs.length _ _ _ rows (qan _) (zgx gs.length).len hd hs e;refine⟨q1,λx=>?_⟩;have hz:zhj (zcw cs) k x=0:=by
  have hkl:=h.kl;have hr:(zcw cs).getD k []=List.replicate cs[k] 0:=by
   rw[zah (by simpa [zcw]using h.kl)]; simp[zcw]
  unfold zhj;rw[hr,qaj,qbx];split<;>rfl
 rw[q2,hz,qaN,hsl,zi7 (by simp; omega),zms,if_pos (by omega),qaN,qb5];unfold rho;rw[hp]; rfl
def VG(cs:List Nat)(gs:List S_api_Gate):Prop:=∀ i (h:i<gs.length),GOk cs i gs[i]
variable{g:S_api_Gate}
theorem VG.snoc{cs:List Nat}{gs:List S_api_Gate}(h:VG cs gs)(hg:GOk cs gs.length g):VG cs (gs ++ [g]):=λi hi=>by
 by_cases hlt:i<gs.length
 .rw[qcv hlt]; exact h i hlt
 have:i=gs.length:=by simp at hi; omega
 subst this;simpa using hg
structure DOk (d:S_haruspexref15_Draft):Prop where
 cards:∀ x∈d.cards,0<=x
 gates:∀ g∈d.gates,0<=g.a0/\(0<=g.a1/\g.a1<=255)/\(0<=g.a2/\g.a2<=255)
theorem zhp{x:Int}(h:0<=x):∃ n:Nat,x=(n:Int):=Int.eq_ofNat_of_zero_le h
theorem zvi:∀ {l:List Int},(∀ x∈l,1<=x/\x<=3)->∃ cs:List Nat,l=iL cs/\∀ c∈cs,1<=c/\c<=3
 | [],_=>⟨[],rfl,λc h=>nomatch h⟩
 | x :: l,h=>by
  obtain⟨cs,rfl,h2⟩:=zvi λy hy=>h y (qam _ hy)
  have hx:=h x qar;obtain⟨n,rfl⟩:=zhp (show 0<=x by omega);refine⟨n :: cs,rfl,λc hc=>?_⟩;rcases qa2.1 hc with rfl | hc
  .omega
  exact h2 c hc
theorem zuI:∀ {cs:List Nat},(∀ c∈cs,1<=c/\c<=3)->zaw cs<=3 ^ cs.length
 | [],_=>qan 1
 | c :: cs,h=>by
  have h1:=zuI λd hd=>h d (qam _ hd)
  have h2:=(h c qar).2;show c * zaw cs<=3 ^ (cs.length+1);rw[Nat.pow_succ,qbs];exact qb7 h1 h2
theorem zvQ{cs:List Nat}{v:Nat}(hv:v<cs.length)(hk:cs.getD v 0<=3):∀(n x:Nat) (acc:List S_api_Gate),acc.length+(cs.getD v 0 - x)<=50->x<=cs.getD v 0->cs.getD v 0 - x<n->VG cs acc ->
  ∃ l,zaK (iL cs) (v:Int) n (x:Int) acc=some l/\l.length=acc.length+(cs.getD v 0 - x)/\VG cs l
 | 0,_,_,_,_,h,_=>absurd h (qav _)
 | n+1,x,acc,h1,h2,h3,h4=>by
  unfold zaK;rw[zaT hv,qab,<- zah (d:=0) hv,zb7];by_cases hx:x<cs.getD v 0
  .rw[qcT hx,qcR,zeQ (by rw[qa3]; omega),qab,zap (by omega)];obtain⟨l,q1,q2,q3⟩:=zvQ hv hk n (x+1) (acc ++ [S_api_Gate.mk 2 (v:Int) (x:Int) 0 []]) (by rw[qas,qa3]; omega) hx (by omega) (h4.snoc (.is v x hv hx));exact⟨l,q1,by rw[q2,qas,qa3]; omega,q3⟩
  rw[qcU hx,qcS];exact⟨acc,rfl,by omega,h4⟩
theorem zuK{cs:List Nat}(hl:cs.length<=4)(hb:∀ x∈cs,1<=x/\x<=3):∀(n v:Nat) (acc:List S_api_Gate),acc.length<=3 * v->v<=acc.length->v<=cs.length->cs.length - v<n->VG cs acc ->
  ∃ l,zaH (iL cs) n (v:Int) acc=some l/\l.length<=12/\cs.length<=l.length/\VG cs l
 | 0,_,_,_,_,_,h,_=>absurd h (qav _)
 | n+1,v,acc,h1,h0,h2,h3,h4=>by
  unfold zaH;rw[zas,zb7];by_cases hv:v<cs.length
  .have hx:=hb _ (qat hv);have hg:cs.getD v 0=cs[v]:=zah hv;obtain⟨l,q1,q2,q3⟩:=zvQ hv (by omega) (cs.getD v 0+2) 0 acc (by omega) (qaB _) (by omega) h4;rw[show((0:Nat):Int)=0 from rfl]at q1;rw[qcT hv,qcR,zaT hv,qbq,<- hg,zbN,q1,qab,zap (by omega)];exact zuK hl hb n (v+1) l (by omega) (by omega) hv (by omega) q3
  rw[qcU hv,qcS];exact⟨acc,rfl,by omega,by omega,h4⟩
theorem zuH{cs:List Nat}{d:S_haruspexref15_Draft}(hd:DOk d){u:Nat}(hu:u<=100000000000):∀(n k:Nat) (acc:List S_api_Gate),acc.length<=12+k->1<=acc.length->k<=30->30 - k<n->VG cs acc ->
  ∃ l,zay d (u:Int) n (k:Int) acc=some l/\l.length<=42/\1<=l.length/\VG cs l
 | 0,_,_,_,_,_,h,_=>absurd h (qav _)
 | n+1,k,acc,h1,h0,h2,h3,h4=>by
  unfold zay;rw[zb7];by_cases hk:k<d.gates.length
  .by_cases h5:k<30
   .rw[qcT hk,qcR,qcT (show(k:Int)<30 by omega),qab,qcR,zau hk,qab];have hs:∀ g:S_api_Gate,GOk cs acc.length g->∃ l,zay d (u:Int) n ((k+1:Nat):Int) (acc ++ [g])=some l/\l.length<=42/\1<=l.length/\VG cs l:=λg hg=>
     zuH hd hu n (k+1) (acc ++ [g]) (by rw[qas,qa3]; omega) (by rw[qas]; omega) h5 (by omega) (h4.snoc hg)
    obtain⟨g0,g1,g2⟩:=hd.gates _ (qat hk);obtain⟨a0,e0⟩:=zhp g0;obtain⟨a1,e1⟩:=zhp g1.1;obtain⟨a2,e2⟩:=zhp g2.1;have m8:((d.gates[k].a1.tmod 8):Int)=((a1 % 8:Nat):Int):=by rw[e1]; rfl
    have m2:((d.gates[k].a0.tmod 2):Int)=((a0 % 2:Nat):Int):=by rw[e0]; rfl
    have w1:w64 d.gates[k].a1=(a1:Int):=by rw[e1]; exact zc3 (by omega)
    have w2:w64 d.gates[k].a2=(a2:Int):=by rw[e2]; exact zc3 (by omega)
    cases(d.gates[k].a0.tmod 5 == 0)with
    | true=>
     have hb:a1 % 8 * u<=7 * 100000000000:=qb7 (by omega) hu;rw[qcR,zeQ (by rw[qa3]; omega),qab,qab,zap (by omega),m8,zc3 (by omega),<- qbo,zc3 (by omega)];exact hs _ (.num _ (by omega))
    | false=>
     have hne:(((acc.length:Nat):Int)== 0)=false:=beq_eq_false_iff_ne.2 (by omega);have p1:(w64 d.gates[k].a1).tmod ((acc.length:Nat):Int)=((a1 % acc.length:Nat):Int):=by rw[w1]; rfl
     have p2:(w64 d.gates[k].a2).tmod ((acc.length:Nat):Int)=((a2 % acc.length:Nat):Int):=by rw[w2]; rfl
     have l1:=qbv a1 (show 0<acc.length by omega);have l2:=qbv a2 (show 0<acc.length by omega);have hkd:w64 (3+w64 (d.gates[k].a0.tmod 2))=3\/w64 (3+w64 (d.gates[k].a0.tmod 2))=4:=by
      rw[m2,zc3 (by omega),zd5 (by omega) (by omega)];omega
     rw[qcS];unfold znK;rw[hne,qcS,qcS,qab,qab,p1,p2,zue];generalize a1 % acc.length=p at *;generalize a2 % acc.length=q at *;cases hpq:(p == q)with
     | true=>
      rw[qcR,qab,zeQ (by rw[qa3]; omega),qab,qab,zap (by omega)];exact hs _ (.op _ hkd [p] (by simp) (by simp) λt ht=>by rw[qck.1 ht]; exact l1)
     | false=>
      have hne2:=beq_eq_false_iff_ne.1 hpq;rw[qcS,qab,zeQ (by rw[qa3]; omega),qab,qab,zap (by omega)];have hmm:[zuZ (p:Int) (q:Int),zsO (p:Int) (q:Int)]=iL [min p q,max p q]:=by
       simp only[iL,qaS,qcO,qcN,and_true];constructor
       .unfold zuZ; split<;>omega
       unfold zsO; split<;>omega
      rw[hmm]
      exact hs _ (.op _ hkd [min p q,max p q] (by simp) (by simp; omega) λt ht=>by
       simp only[qa2,qcL,or_false]at ht
       rcases ht with rfl | rfl<;>omega)
   rw[qcT hk,qcR,qcU (show ¬ (k:Int)<30 by omega),qab,qcS];exact⟨acc,rfl,by omega,h0,h4⟩
  rw[qcU hk,qcS,qab,qcS];exact⟨acc,rfl,by omega,h0,h4⟩
structure Dr (cs:List Nat) (c:S_api_Circuit):Prop where
 cards:c.cards=iL cs
 one:1<=cs.length
 len:cs.length<=4
 card:∀ k∈cs,1<=k/\k<=3
 gone:1<=c.gates.length
 glen:c.gates.length<=42
 gate:VG cs c.gates
variable{d:S_haruspexref15_Draft}
theorem zrv(hd:DOk d):∃ cs c,zaW 5000 d=some c/\Dr cs c:=by
 obtain⟨l,q1,q2,q3⟩:=zvF hd.cards 5000 0 [] (qaB _) (qaB _) (by decide) (λx h=>nomatch h);rw[show((0:Nat):Int)=0 from rfl]at q1;unfold zaW;rw[q1,qab];have hb:∃ cs:List Nat,((bif (((l.length:Nat):Int)== 0)then some [2]else some l):Option (List Int))=some (iL cs)/\1<=cs.length/\cs.length<=4/\∀ x∈cs,1<=x/\x<=3:=by
  cases h:(((l.length:Nat):Int)== 0)with
  | true=>exact⟨[2],rfl,by decide,by decide,by decide⟩
  | false=>
   have:=beq_eq_false_iff_ne.1 h;obtain⟨cs,rfl,h3⟩:=zvi q3;rw[zas]at *;exact⟨cs,rfl,by omega,q2,h3⟩
 obtain⟨cs,e,b1,b2,b3⟩:=hb;obtain⟨g,p1,p2,p3,p4⟩:=zuK b2 b3 (cs.length+2) 0 [] (qaB _) (qaB _) (qaB _) (by omega) (λi h=>absurd h (qav _));rw[show((0:Nat):Int)=0 from rfl]at p1;have h4:=λ(u:Nat) hu=>zuH (cs:=cs) hd (u:=u) hu 5000 0 g (by omega) (by omega) (qaB _) (by decide) p4
 rw[e,qab,zas,zbN,p1,qab];refine⟨cs,?_⟩;cases d.big with
 | true=>
  obtain⟨r,r1,r2,r3,r4⟩:=h4 100000000000 (qan _);rw[show((0:Nat):Int)=0 from rfl]at r1;rw[qcR,qab];simp only;rw[show(100000000000:Int)=((100000000000:Nat):Int)from rfl,r1];exact⟨_,rfl,rfl,b1,b2,b3,r3,r2,r4⟩
 | false=>
  obtain⟨r,r1,r2,r3,r4⟩:=h4 1 (by decide);rw[show((0:Nat):Int)=0 from rfl]at r1;rw[qcS,qab];simp only;rw[show(1:Int)=((1:Nat):Int)from rfl,r1];exact⟨_,rfl,rfl,b1,b2,b3,r3,r2,r4⟩
variable{c:S_api_Circuit}
theorem Dr.ok{cs:List Nat}(h:Dr cs c):COk cs c:=by
 have h1:=h.len;have hp:zaw cs<=1024:=qaD (zuI h.card) (qaD (Nat.pow_le_pow_right (by decide) h1) (by decide));exact⟨h.cards,h.one,by omega,λk hk=>by have:=h.card k hk; omega,hp,h.gone,by have:=h.glen; omega,h.gate⟩
theorem zoN{i:Nat}:∀ {ar:List Nat} {b:Int},ar.Pairwise (· < ·)->(∀ a∈ar,a<i/\b<(a:Int))->zp0 (i:Int) b (iL ar)=true
 | [],_,_,_=>rfl
 | a :: ar,b,h1,h2=>by
  obtain⟨p1,p2⟩:=qbm.1 h1;have h3:=h2 a qar;show(decide (b<(a:Int)) && decide ((a:Int)<(i:Int)) && zp0 (i:Int) (a:Int) (iL ar))=true;rw[zoN p2 λt ht=>⟨(h2 t (qam _ ht)).1,by have:=p1 t ht; omega⟩,qcT h3.2,qcT (by omega)]; rfl
theorem zrz{cs:List Nat}{i:Nat}(h:GOk cs i g):zkP (iL cs) (i:Int) g=true:=by
 cases h with
 | num n hn=>
  show(decide (0<=(n:Int)) && (decide ((n:Int)<=4611686018427387903) && true))=true;rw[qcT (qaA n),qcT (by omega)]; rfl
 | is v x hv hx=>
  have e:(iL cs).getD v 0=((cs.getD v 0:Nat):Int):=by rw[zah (by rw[zas]; exact hv),zpU hv,zah hv]
  show(decide (0<=(v:Int)) && (decide ((v:Int)<((iL cs).length:Int)) && (decide (0<=(x:Int)) && (decide ((x:Int)<(iL cs).getD ((v:Nat):Int).toNat 0) && true))))=true;rw[qaq,e,zas,qcT (qaA v),qcT (by omega),qcT (qaA x),qcT (by omega)]; rfl
 | op q hq ar ne inc lt=>
  have hl:((((iL ar).length:Nat):Int)== 0)=false:=beq_eq_false_iff_ne.2 (by
   rw[zas];have:ar.length≠0:=λh=>ne (qbf.1 h)
   omega)
  have hi:=zoN (i:=i) (b:=-1) inc λt ht=>⟨lt t ht,by omega⟩
  rcases hq with rfl | rfl
  .show(true && (true && (true && (!((((iL ar).length:Nat):Int)== 0) && zp0 (i:Int) (-1) (iL ar)))))=true;rw[hl,hi]; rfl
  show(true && (true && (true && (!((((iL ar).length:Nat):Int)== 0) && zp0 (i:Int) (-1) (iL ar)))))=true;rw[hl,hi]; rfl
theorem zjv{cs:List Nat}:∀ {gs:List S_api_Gate} {i:Nat},(∀ k (h:k<gs.length),GOk cs (i+k) gs[k])->zew (iL cs) (i:Int) gs=true
 | [],_,_=>rfl
 | g :: gs,i,h=>by
  have h0:=h 0 (qcP _);simp only[zew,qaf];refine⟨zrz h0,?_⟩;have:=zjv (gs:=gs) (i:=i+1) λk hk=>by
   have:=h (k+1) (by simpa using hk);rw[show i+1+k=i+(k+1) by omega];exact this
  rw[show((i+1:Nat):Int)=(i:Int)+1 by omega]at this;exact this
theorem zts(ns:List Nat):prZ (iL ns)=(zaw ns:Nat):=by
 induction ns with
 | nil=>rfl
 | cons n ns ih=>
  show(n:Int)* prZ (iL ns)=((n * zaw ns:Nat):Int);rw[ih,qbo]
theorem Dr.zxO{cs:List Nat}(h:Dr cs c):ziw c=true:=by
 have ho:=h.ok;have hg:=h.glen;have hcr:zso (iL cs)=true:=by
  unfold zso;rw[qaY];intro x hx;obtain⟨n,hn,rfl⟩:=qa4.1 hx;have:=h.card n hn;rw[qcT (by omega),qcT (by omega)]; rfl
 have hgs:=zjv (cs:=cs) (gs:=c.gates) (i:=0) λk hk=>by rw[qaN]; exact h.gate k hk
 rw[show((0:Nat):Int)=0 from rfl]at hgs;have hp:=ho.prod;unfold ziw zrX;rw[h.cards,zas,qcT ho.one,qcT ho.len,hcr,zts,qcT (by omega),qcT h.gone,qcT (by omega),hgs]; rfl
theorem zsw:∀ {cs:List Nat} {input:List Int},(∀ k (h1:k<cs.length) (h2:k<input.length),-1<=input[k]/\input[k]<(cs[k]:Int))->inB (iL cs) input=true
 | [],_,_=>rfl
 | _ :: _,[],_=>rfl
 | c :: cs,x :: s,h=>by
  have h0:-1<=x/\x<(c:Int):=h 0 (qcP _) (qcP _);show(decide (-1<=x) && decide (x<(c:Int)) && inB (iL cs) s)=true;rw[qcT h0.1,qcT h0.2,zsw λk h1 h2=>h (k+1) (qcK h1) (qcK h2)]; rfl
theorem Dr.run{cs:List Nat}(h:Dr cs c){input:List Int}(hl:input.length=cs.length)(hi:∀ k (h1:k<cs.length) (h2:k<input.length),-1<=input[k]/\input[k]<(cs[k]:Int)):zqX c input=true:=by
 unfold zqX;rw[h.zxO,h.cards,zas,qcT hl,zsw hi]; rfl
theorem ztr{cs:List Nat}(hc:COk cs c)(hb:ziw c=true){V:List Nat}(hV:VOk c.gates V):∃ b,zbD c=some (c.gates.all (smG V),c.gates.all (dcG V),b,0):=by
 have hck:=zqV c hc.small;rw[hb]at hck;obtain⟨sets,b,b1,_⟩:=zpP hc.cards hc.card hc.one hc.len hc.prod hc.gate hc.glen;have hl:=zmb hc hV (c.gates.length+2) 0 true true (qaB _) (by omega);rw[show((0:Nat):Int)=0 from rfl,qbi,qbr,qbr]at hl;refine⟨b,?_⟩;unfold zbD;rw[hck,qcR,qab,show((0:Int)== 0)=true from rfl,qcR,zuf hc hV,qab,zbN,hl,qab];simp only;rw[b1]; rfl
structure LOk8 (l:A8_Intu8):Prop where
 h:∀ x∈[l.a0,l.a1,l.a2,l.a3,l.a4,l.a5,l.a6,l.a7],0<=x/\x<=255
theorem zmh{cs:List Nat}(hl:cs.length<=4)(hc:∀ c∈cs,1<=c/\c<=3){l:A8_Intu8}(h8:LOk8 l):∀(n v:Nat) (acc:List Int),acc.length=v->v<=cs.length->cs.length - v<n->(∀ k (h1:k<cs.length) (h2:k<acc.length),-1<=acc[k]/\acc[k]<(cs[k]:Int))->
  ∃ r,zbR (iL cs) l n (v:Int) acc=some r/\r.length=cs.length/\∀ k (h1:k<cs.length) (h2:k<r.length),-1<=r[k]/\r[k]<(cs[k]:Int)
 | 0,_,_,_,_,h,_=>absurd h (qav _)
 | n+1,v,acc,h1,h2,h3,h4=>by
  unfold zbR;rw[zas,zb7];by_cases hv:v<cs.length
  .have hx:=hc _ (qat hv);have hm:v % 8 < [l.a0,l.a1,l.a2,l.a3,l.a4,l.a5,l.a6,l.a7].length:=qbv v (by show 0<8; decide);have hy:=h8.h _ (qat hm);have hg:zaS [l.a0,l.a1,l.a2,l.a3,l.a4,l.a5,l.a6,l.a7] ((v:Int).tmod 8)=some ([l.a0,l.a1,l.a2,l.a3,l.a4,l.a5,l.a6,l.a7][v % 8]'hm):=zau hm;rw[qcT hv,qcR,zaT hv,qab,hg,qab];generalize [l.a0,l.a1,l.a2,l.a3,l.a4,l.a5,l.a6,l.a7][v % 8]'hm=y at *;obtain⟨m,rfl⟩:=zhp hy.1;have hmx:w64 (zsO ((cs[v]:Nat):Int) 0+1)=((cs[v]+1:Nat):Int):=by
    rw[show zsO ((cs[v]:Nat):Int) 0=((cs[v]:Nat):Int) by unfold zsO; split<;>omega,zap (by omega)]
   have hrm:znK (w64 (m:Int)) (w64 (zsO ((cs[v]:Nat):Int) 0+1))=some ((m % (cs[v]+1):Nat):Int):=by
    rw[hmx,zc3 (by omega)];unfold znK;rw[show(((cs[v]+1:Nat):Int)== 0)=false from beq_eq_false_iff_ne.2 (by omega),qcS]; rfl
   have hlt:=qbv m (show 0<cs[v]+1 by omega);rw[hrm,qab,zeQ (by rw[qa3]; omega),qab,zap (by omega),zd5 (by omega) (by omega)];refine zmh hl hc h8 n (v+1) _ (by simp[h1]) hv (by omega) λk k1 k2=>?_
   by_cases hk:k<acc.length
   .rw[qcv hk]; exact h4 k k1 hk
   have:k=v:=by simp at k2; omega
   subst this;rw[List.getElem_append_right (by omega)];simp only[h1,qbK,List.getElem_cons_zero];omega
  rw[qcU hv,qcS];exact⟨acc,rfl,by omega,h4⟩
variable{l:A8_Intu8}
theorem zqU{cs:List Nat}(hl:cs.length<=4)(hc:∀ c∈cs,1<=c/\c<=3)(h8:LOk8 l):
  ∃ r,zcq (iL cs) l=some r/\r.length=cs.length/\∀ k (h1:k<cs.length) (h2:k<r.length),-1<=r[k]/\r[k]<(cs[k]:Int):=by
 obtain⟨r,q1,q2⟩:=zmh hl hc h8 (cs.length+2) 0 [] rfl (qaB _) (by omega) (λk _ h=>absurd h (qav _));rw[show((0:Nat):Int)=0 from rfl]at q1;unfold zcq;rw[zas,zbN,q1];exact⟨r,rfl,q2⟩
theorem zpo(f:Nat->Nat):∀ {n i:Nat},i<=n->zdM f i<=zdM f n
 | 0,i,h=>by rw[show i=0 by omega]; exact qan _
 | n+1,i,h=>by
  by_cases hi:i=n+1
  .rw[hi]; exact qan _
  exact qaD (zpo f (show i<=n by omega)) (qch _ _)
theorem zpr{input:List Int}(hr:zqX c input=true)(h:zcr input [] c.gates=some vals):zaV c input=some (((vals.getD (vals.length - 1) 0:Nat):Int),0):=by
 unfold zaV;rw[hr,qcR,h]
theorem zsv{cs:List Nat}{c:S_api_Circuit}(hd:Dr cs c){V:List Nat}{inp:List Int}{k:Nat}{a:Nat->Nat}{b:Nat->Nat->Nat}(h:SD cs c.gates V inp k a b)(hin:∀ u (h1:u<cs.length) (h2:u<inp.length),-1<=inp[u]/\inp[u]<(cs[u]:Int))
  (ha:∀ t,t<c.gates.length->a t<za2) {rows:List (List Nat)} (hR:DimR cs rows) (hc:∀ x,zhj rows k x=b x (c.gates.length - 1)) (htot:zdM (λx=>b x (c.gates.length - 1)) (cs.getD k 0)<za2):
  ∀(n x:Nat) (L:List Int),(∀ y:Nat,L.set k (y:Int)=inp.set k (y:Int))->L.length=cs.length->x<=cs.getD k 0->cs.getD k 0 - x<n ->
   zaQ ((cs.getD k 0:Nat):Int) (k:Int) c (rows.map iL,0) n ((zdM (λx=>b x (c.gates.length - 1)) x:Nat):Int) (x:Int) L=some (.go ((zdM (λx=>b x (c.gates.length - 1)) (cs.getD k 0):Nat):Int))
 | 0,_,_,_,_,_,h=>absurd h (qav _)
 | n+1,x,L,h1,h2,h3,h4=>by
  have hm:=hd.gone;have hT:=zfC;have hkl:=h.kl;have hcd:cs.getD k 0=cs[k]:=zah hkl;have hc3:=hd.card _ (qat hkl);unfold zaQ;rw[zb7];by_cases hx:x<cs.getD k 0
  .have hkL:k<L.length:=by omega
   have hset:zfp L (k:Int) (x:Int)=some (inp.set k (x:Int)):=by rw[zdA hkL,h1]
   have hlen:(inp.set k (x:Int)).length=cs.length:=by rw[qaI,h.len]
   have hrun:zqX c (inp.set k (x:Int))=true:=hd.run hlen λu u1 u2=>by
    rw[List.getElem_set];split
    .next e=>subst e; omega
    exact hin u u1 (by rw[qaI]at u2; exact u2)
   have hbl:∀ t,t<c.gates.length->b x t<za2:=λt ht=>qcl (h.mono x c.gates.length t ht ht) (ha t ht)
   obtain⟨vals,hv⟩:=zwD h.gate (h.b x) hbl;obtain⟨hv1,hv2⟩:=zop h.gate (h.b x) hv;have hev:=zpr hrun hv;rw[hv1,(hv2 _ (by omega)).1]at hev;have hrk:k<rows.length:=by rw[hR.len]; exact hkl
   have hrl:=hR.row k hkl;have hrg:zaS (rows.map iL) (k:Int)=some (iL (rows.getD k [])):=by rw[zau (by simpa using hrk),zah hrk]; simp
   have hrx:zaS (iL (rows.getD k [])) (x:Int)=some ((b x (c.gates.length - 1):Nat):Int):=by
    have hxl:x<(rows.getD k []).length:=by omega
    rw[zaT hxl,<- hc x];unfold zhj;rw[zah hxl]
   have hle:=zpo (λx=>b x (c.gates.length - 1)) (show x+1<=cs.getD k 0 by omega);have hsu:zdM (λx=>b x (c.gates.length - 1)) (x+1)=zdM (λx=>b x (c.gates.length - 1)) x+b x (c.gates.length - 1):=rfl;rw[qcT hx,qcR,zau hkL,qab,hset,qab,hev,qab];simp only;rw[show((0:Int)== 0)=true from rfl,qcR,hrg,qab,hrx,qab,qcW,qab,qa0,qcS,zap (by omega),<- qcB,zc3 (by omega),<- hsu];exact zsv hd h hin ha hR hc htot n (x+1) _ (λy=>List.set_set ..) hlen hx (by omega)
  rw[qcU hx,qcS,show x=cs.getD k 0 by omega]
theorem znw(hd:DOk d)(h8:LOk8 l){v:Int}(hv:0<=v/\v<=255)(hw:zll=some true):zbS 5000 d l v=some true:=by
 have hT:=zfC;obtain⟨cs,c,e,hD⟩:=zrv hd;have hC:=hD.ok;have hm:=hD.gone;have hm2:=hD.glen;have h4:=hD.len;have h1:=hD.one;obtain⟨V,hV⟩:=hC.vars;obtain⟨bb,hk⟩:=ztr hC hD.zxO hV;unfold zbS;rw[hw,qab,qcR,e,qab,hk,qab];simp only;rw[show((0:Int)== 0)=true from rfl,qcR];cases hs:c.gates.all (smG V)with
 | false=>rfl
 | true=>
 cases hdc:c.gates.all (dcG V)with
 | false=>rfl
 | true=>
 obtain⟨nv,rfl⟩:=zhp hv.1;obtain⟨k,hkk⟩:∃ k,k=nv % cs.length:=⟨_,rfl⟩;have hkl:k<cs.length:=by rw[hkk]; exact qbv _ (by omega)
 have hrem:znK (w64 (nv:Int)) (c.cards.length:Int)=some (k:Int):=by
  rw[zc3 (by omega),hD.cards,zas];unfold znK;rw[show(((cs.length:Nat):Int)== 0)=false from beq_eq_false_iff_ne.2 (by omega),qcS,hkk]; rfl
 have hlast:zaS (iL V) (w64 ((c.gates.length:Int) - 1))=some ((V.getD (c.gates.length - 1) 0:Nat):Int):=by
  rw[show w64 ((c.gates.length:Int) - 1)=((c.gates.length - 1:Nat):Int) by rw[zd5 (by omega) (by omega)]; omega];exact hV.zwn (by omega)
 obtain⟨q,hq1,hq2⟩:=zyg (hV.lt' (c.gates.length - 1)) (v:=k) (by omega);rw[qcR,qab,qa0,qcS,hrem,qab,ztB hC hV,qab,hlast,qab,hq1,qab,hq2];cases hb:(V.getD (c.gates.length - 1) 0).testBit k with
 | false=>rfl
 | true=>
 have hp:zf3 V k (c.gates.length - 1)=true:=hb;obtain⟨inp0,hi1,hi2,hi3⟩:=zqU h4 hD.card h8;have hk0:k<inp0.length:=by omega
 obtain⟨inp,hinp⟩:∃ inp,inp=inp0.set k (-1):=⟨_,rfl⟩;have hset:zfp inp0 (k:Int) (-1)=some inp:=by rw[zdA hk0,hinp]
 have hil:inp.length=cs.length:=by rw[hinp,qaI,hi2]
 have hin:∀ u (h1:u<cs.length) (h2:u<inp.length),-1<=inp[u]/\inp[u]<(cs[u]:Int):=by
  subst hinp;intro u u1 u2;rw[List.getElem_set];split
  .omega
  exact hi3 u u1 (by rw[qaI]at u2; exact u2)
 have hrun:=hD.run hil hin;rw[show(((true.toNat:Nat):Int)== 0)=false from rfl,qcS,hD.cards,hi1,qab,zau hk0,qab,hset,qab];have hE:zaV c inp=some (match zcr inp [] c.gates with | none=>(0,6)| some vals=>(((vals.getD (vals.length - 1) 0:Nat):Int),0)):=by unfold zaV; rw[hrun,qcR]; rfl
 have hcs:c.cards.map Int.toNat=cs:=by rw[hD.cards]; simp[iL,qca]
 have hF:zbu c inp=some (match zqJ cs c inp with | none=>([],6)| some rows=>(rows.map iL,0)):=by unfold zbu; rw[hrun,qcR,hcs]; rfl
 rw[hE,qab,hF,qab];cases hev:zcr inp [] c.gates with
 | none=>
  have:zqJ cs c inp=none:=by unfold zqJ; rw[hev]; rfl
  rw[this]; rfl
 | some vals=>
 have hdo:zqJ cs c inp=zfh vals c.gates c.gates.length (zcw cs) (zcP c.gates.length):=by unfold zqJ; rw[hev]; rfl
 rw[hdo];cases hder:zfh vals c.gates c.gates.length (zcw cs) (zcP c.gates.length)with
 | none=>rfl
 | some rows=>
 obtain⟨a,ha⟩:=zv6 hC.gate inp;have hbx:∀ x:Nat,∃ bx,EvP (inp.set k (x:Int)) c.gates bx:=λx=>zv6 hC.gate _
 have hS:SD cs c.gates V inp k a (λx=>Classical.choose (hbx x)):=
  ⟨hC.gate,hV,qaY.1 hs,qaY.1 hdc,hkl,hil,by rw[hinp,zbp _ _ _ _ _ hk0,if_pos rfl],ha,λx=>Classical.choose_spec (hbx x)⟩
 generalize (λx=>Classical.choose (hbx x))=b at hS;obtain⟨v1,v2⟩:=zop hC.gate ha hev;obtain⟨hR,hcell⟩:=ztY hS (λt ht=>(v2 t ht).1) hm hder hp;have hadd:=hS.add c.gates.length (c.gates.length - 1) (by omega) (by omega) hp;have hroot:=v2 (c.gates.length - 1) (by omega);have htot:zdM (λx=>b x (c.gates.length - 1)) (cs.getD k 0)<za2:=by rw[<- hadd]; exact hroot.2
 have hrk:k<rows.length:=by rw[hR.len]; exact hkl
 have hrg:zaS (rows.map iL) (k:Int)=some (iL (rows.getD k [])):=by rw[zau (by simpa using hrk),zah hrk]; simp
 have hcg:zaS (iL cs) (k:Int)=some ((cs.getD k 0:Nat):Int):=by rw[zaT hkl,zah hkl]
 have hloop:=zsv hD hS hin (λt ht=>(v2 t ht).2) hR hcell htot (cs.getD k 0+2) 0 inp (λy=>rfl) hil (qaB _) (by omega);rw[show zdM (λx=>b x (c.gates.length - 1)) 0=0 from rfl,show((0:Nat):Int)=0 from rfl]at hloop;simp only;rw[show((0:Int)== 0)=true from rfl,qcR,qa0,qab,qcS,qbS,hR.len,zas,qcW,qcR,hrg,qab,hcg,qab,zas,hR.row k hkl,qcW,qa0,qab,qcS,qab,zbN,hloop,qab];simp only;rw[v1,hroot.1,<- hadd,qcW]
end Go.Dc
namespace Go.Proofs.Ytbjogdohfhdaiaa.S
open Go Go.Mx Go.Lx Go.Dc Go.ChangeShapes Go.WideShapes Go.ChangeAt Go.RowKit
theorem zv2:Dec zkA [.int .u8,.int .u8,.int .u8,.int .u8,.int .u8,.int .u8,.int .u8,.int .u8] (λx=>okI .u8 x.a0/\okI .u8 x.a1/\okI .u8 x.a2/\okI .u8 x.a3/\okI .u8 x.a4/\okI .u8 x.a5/\okI .u8 x.a6/\okI .u8 x.a7):=
 Dec.iso (Dec.pair (Dec.int .u8) (Dec.pair (Dec.int .u8) (Dec.pair (Dec.int .u8) (Dec.pair (Dec.int .u8) (Dec.pair (Dec.int .u8) (Dec.pair (Dec.int .u8) (Dec.pair (Dec.int .u8) (Dec.int .u8))))))))
  (λx:A8_Intu8=>(x.a0,x.a1,x.a2,x.a3,x.a4,x.a5,x.a6,x.a7)) (λa=>⟨a.1,a.2.1,a.2.2.1,a.2.2.2.1,a.2.2.2.2.1,a.2.2.2.2.2.1,a.2.2.2.2.2.2.1,a.2.2.2.2.2.2.2⟩) (λ_=>rfl)
theorem zsJ:zcN Try.prog 8 46=some [.int .u8,.int .u8,.int .u8,.int .u8,.int .u8,.int .u8,.int .u8,.int .u8]:=by kernel_rfl
theorem zwK:zoY Try.prog 46=true:=by kernel_rfl
theorem zvU:Try.prog.readableRec 46=true:=by kernel_rfl
theorem zs0:zcN Try.prog 8 5=some [.int .u8]:=by kernel_rfl
theorem zwF:zoY Try.prog 5=false:=by kernel_rfl
theorem zuQ:Try.prog.readableRec 5=true:=by kernel_rfl
theorem zxc{d:D}(h:ShA Try.prog 8 25 d):∃ x:S_haruspexref15_Draft,DOk x/\d=.agg (zcf.c false x):=by
 obtain⟨x,⟨h1,h3,_⟩,h2⟩:=zu1.agg zw2 zsL h;exact⟨x,⟨λy hy=>(zhM (h1.2 y hy)).1,λg hg=>⟨(zhM (h3.2 g hg).1).1,zhM (h3.2 g hg).2.1,zhM (h3.2 g hg).2.2.1⟩⟩,h2⟩
theorem zwS{d:D}(h:ShA Try.prog 8 46 d):∃ x:A8_Intu8,LOk8 x/\d=.agg (zkA.c false x):=by
 obtain⟨x,⟨k0,k1,k2,k3,k4,k5,k6,k7⟩,h2⟩:=zv2.agg zwK zsJ h;refine⟨x,⟨λy hy=>?_⟩,h2⟩;simp only[qa2,qcL,or_false]at hy;rcases hy with rfl | rfl | rfl | rfl | rfl | rfl | rfl | rfl<;>exact zhM (by assumption)
theorem zw9{d:D}(h:ShA Try.prog 8 5 d):∃ n:Int,(0<=n/\n<=255)/\d=dU8 n:=by
 obtain⟨x,h1,h2⟩:=(Dec.int .u8).one zwF zs0 h;exact⟨x,zhM h1,by injection h2⟩
theorem zvj:∀ t∈[25,46,5],(zcN Try.prog 8 t).isSome=true:=by
 intro t ht;simp only[qa2,qcL,or_false]at ht;rcases ht with rfl | rfl | rfl
 .rw[zsL]; rfl
 .rw[zsJ]; rfl
 rw[zs0]; rfl
theorem zu0:∀ t∈[25,46,5],Try.prog.readableRec t=true/\t<Try.prog.types.size:=by
 intro t ht;simp only[qa2,qcL,or_false]at ht;rcases ht with rfl | rfl | rfl
 .exact⟨zvD,zoI (by decide)⟩
 .exact⟨zvU,zoI (by decide)⟩
 exact⟨zuQ,zoI (by decide)⟩
theorem znN{H:Type}{enc:TypeId×Value->H}{w:World}{b0:Nat}{args:Array Value}{ds:List (DataW H)}{ps:List MemPlace}
  (hv:∀(j:Nat) t v,[25,46,5][j]? = some t->args[j]? = some v->Value.okWide Try.prog w .any b0 t v) (hd:DataW.TrodAll enc Try.prog w 0 (λ_=>true) true [25,46,5] args.toList ds ps):
  Calls Try.prog 4 args w λe w'=>e=.returned (.bool true)/\Below w.heap.size w w':=by
 refine zyu (g:=8) hv hd zvj λes hes=>?_
 obtain⟨x0,r,rfl,h0,hes⟩:=Dc.ShAs.inv hes;obtain⟨x1,r,rfl,h1,hes⟩:=Dc.ShAs.inv hes;obtain⟨x2,r,rfl,h2,hes⟩:=Dc.ShAs.inv hes;obtain rfl:=Dc.ShAs.none hes;obtain⟨a0,k0,rfl⟩:=zxc h0;obtain⟨a1,k1,rfl⟩:=zwS h1;obtain⟨a2,k2,rfl⟩:=zw9 h2;exact ze2 (znw k0 k1 k2 rfl)
theorem zlc(os:Os)(started:os.Started)(H:Type)(enc:TypeId×Value->H):
  ReturnsInHanded {} Try.checked os 4 .any (Rows.circuitAddsSpec.pre6 enc Try.prog Try.f4 Rows.circuitAddsRow.domain false) (Rows.circuitAddsSpec.post enc Try.prog Try.f4 false true false false):=by
 refine returnsInHanded_of_change (C:=Try.checked) own started (by kernel_rfl) Try.func4
  (ChangeSpec.witness6 (enc:=enc) (C:=Try.checked) false ⟨#[],#[.agg #[.slice none 0 0,.slice none 0 0,.bool false],.agg #[.int .u8 0,.int .u8 0,.int .u8 0,.int .u8 0,.int .u8 0,.int .u8 0,.int .u8 0,.int .u8 0],.int .u8 0],[]⟩ 8 (by kernel_rfl) (by kernel_rfl) (by kernel_rfl) (by kernel_rfl)) ?_
 intro W base args ds gs before hval0 hW hcnd _;have hval:∀(j:Nat) t v,Try.f4.params[j]? = some t->args[j]? = some v->Value.okWide Try.prog W .any base t v:=hval0;have hlt:∀ x∈before,x.block<W.heap.size:=λx hx=>hW.lt x hx
 have hW':=hW;obtain⟨p,q,hA0,hV,rfl,hfz,hnd⟩:=hW;have hA:DataW.TrodAll enc Try.prog W 0 (λ_=>true) true Try.f4.params.toList args.toList ds p:=hA0;rw[Try.params4]at hA hval;have hcalls:=znN (λj t v h1 h2=>hval j t v (by simpa using h1) h2) hA;obtain⟨rfl,rfl⟩:=trodVars_none hV;have hA1:DataW.TrodAll enc Try.prog W 0 (λ_=>true) true [25,46,5] args.toList ds p:=hA;have hds:∃ d0 d1 d2:DataW H,ds=[d0,d1,d2]:=by
  obtain⟨_,_,d0,ds0,_,_,_,e0,_,_,r0⟩:=trodAll_cons hA1;obtain⟨_,_,d1,ds1,_,_,_,e1,_,_,r1⟩:=trodAll_cons r0;obtain⟨_,_,d2,ds2,_,_,_,e2,_,_,r2⟩:=trodAll_cons r1;obtain⟨_,e3,_⟩:=trodAll_nil r2;exact⟨d0,d1,d2,by rw[e0,e1,e2,e3]⟩
 obtain⟨d0,d1,d2,rfl⟩:=hds;clear hA0 hval0;simp only[qbc]at hW' hlt;refine hcalls.mono λe W' ⟨he,hb⟩=>?_
 subst he
 exact⟨_,rfl,_,_,_,[],_,[],hW',trodAll_mk1 (shut_bool Try.underlying4 true),
  (by rw[Try.params4]; exact zfs hb hA1 zu0 hlt),
  rfl,hb.frame _,λh=>by cases h⟩
theorem adds_said:Rows.CircuitAddsSaid:=
 OpenClaim.holds_of_wide 4 Try.f4 rfl rfl rfl rfl rfl rfl rfl ⟨rfl,rfl,rfl,rfl,rfl⟩ rfl rfl rfl rfl rfl zxq Try.func4 ztM
  zxf (by unfold Func.isWrapper; first | (rw[if_pos (by decide +kernel)]; kernel_rfl)| (rw[if_neg (by decide +kernel)]; exact⟨rfl,rfl⟩))
  (λos started H enc _=>zlc os started H enc)
end Go.Proofs.Ytbjogdohfhdaiaa.S
namespace Go.Proofs.Ytbjogdohfhdaiaa
theorem adds_said:Rows.CircuitAddsSaid:=S.adds_said
end Go.Proofs.Ytbjogdohfhdaiaa
