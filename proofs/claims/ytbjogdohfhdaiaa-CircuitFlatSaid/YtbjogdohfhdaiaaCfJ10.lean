/-
 Plain laws: exact values of gates, and what evaluate finds. Conditions: none.
-/
import Derived.Test.YtbjogdohfhdaiaaCfJ9
set_option linter.unusedSimpArgs false
set_option linter.unusedVariables false
namespace Go.Dc
open Go Go.Mx Go.Lx
def zeW(a:Nat->Nat):List Nat->Nat
 | []=>0
 | x :: l=>a x+zeW a l
def za0(a:Nat->Nat):List Nat->Nat
 | []=>1
 | x :: l=>a x * za0 a l
theorem zet{a b:Nat->Nat}:∀ {l:List Nat},(∀ x∈l,a x=b x)->zeW a l=zeW b l
 | [],_=>rfl
 | x :: l,h=>by simp only[zeW,h x qao,zet λy hy=>h y (qai _ hy)]
theorem zdR{a b:Nat->Nat}:∀ {l:List Nat},(∀ x∈l,a x=b x)->za0 a l=za0 b l
 | [],_=>rfl
 | x :: l,h=>by simp only[za0,h x qao,zdR λy hy=>h y (qai _ hy)]
theorem zgR(a:Nat->Nat):∀ l r:List Nat,za0 a (l ++ r)=za0 a l * za0 a r
 | [],r=>by simp[za0]
 | x :: l,r=>by simp only[qaL,za0,zgR a l r,qbj]
theorem zmA(a:Nat->Nat):∀ l:List Nat,za0 a l.reverse=za0 a l
 | []=>rfl
 | x :: l=>by rw[List.reverse_cons,zgR,zmA a l]; simp only[za0,qbI]; exact qbx _ _
def ex(inp:List Int)(a:Nat->Nat)(g:S_api_Gate):Nat:=
 bif g.kind == 1 then g.n.toNat else bif g.kind == 2 then isV (inp.getD g.var.toNat 0) g.val else bif g.kind == 3 then zeW a (ga g)else za0 a (ga g)
def EvP(inp:List Int)(gs:List S_api_Gate)(a:Nat->Nat):Prop:=∀ i (h:i<gs.length),a i=ex inp a gs[i]
variable{i:Nat}{g:S_api_Gate}
theorem zwc{inp:List Int}{cs:List Nat}(hg:GtOk cs i g){a b:Nat->Nat}(h:∀ t,t<i->a t=b t):ex inp a g=ex inp b g:=by
 cases hg with
 | num n hn=>rfl
 | is v x hv hx=>rfl
 | op k hk ar ne inc lt=>
  have e:ga ⟨k,0,0,0,iL ar⟩=ar:=zew rfl;unfold ex;rw[e,zet λx hx=>h x (lt x hx),zdR λx hx=>h x (lt x hx)]
def exL(inp:List Int):List S_api_Gate->List Nat->List Nat
 | [],acc=>acc
 | g :: gs,acc=>exL inp gs (acc ++ [ex inp (λi=>acc.getD i 0) g])
theorem zxa{cs:List Nat}(inp:List Int):∀(gs:List S_api_Gate) (acc:List Nat),(∀ k (h:k<gs.length),GtOk cs (acc.length+k) gs[k])->
  (∀ t,t<acc.length->(exL inp gs acc).getD t 0=acc.getD t 0)/\∀ k (h:k<gs.length),(exL inp gs acc).getD (acc.length+k) 0=ex inp (λi=>(exL inp gs acc).getD i 0) gs[k]
 | [],acc,_=>⟨λ_ _=>rfl,λk h=>absurd h (qan _)⟩
 | g :: gs,acc,hg=>by
  have h0:GtOk cs acc.length g:=hg 0 (qdc _);have hl:(acc ++ [ex inp (λi=>acc.getD i 0) g]).length=acc.length+1:=by simp
  obtain⟨a2,a4⟩:=zxa inp gs (acc ++ [ex inp (λi=>acc.getD i 0) g]) λk h=>by
   have:=hg (k+1) (by simpa using h);rw[hl,show acc.length+1+k=acc.length+(k+1) by omega];exact this
  refine⟨λt ht=>?_,λk hk=>?_⟩
  .show(exL inp gs (acc ++ [ex inp (λi=>acc.getD i 0) g])).getD t 0=_;rw[a2 t (by omega),zjU ht]
  show(exL inp gs (acc ++ [ex inp (λi=>acc.getD i 0) g])).getD _ 0=ex inp (λi=>(exL inp gs (acc ++ [ex inp (λi=>acc.getD i 0) g])).getD i 0) _;cases k with
  | zero=>
   rw[qbo,a2 acc.length (by omega),qaj,qak (qap _),qbw];show ex inp _ g=ex inp _ g;refine zwc h0 λt ht=>?_
   rw[a2 t (by omega),zjU ht]
  | succ k=>
   have:=a4 k (by simpa using hk);rw[hl,show acc.length+1+k=acc.length+(k+1) by omega]at this;exact this
theorem zzs{cs:List Nat}{gs:List S_api_Gate}(hg:∀ k (h:k<gs.length),GtOk cs k gs[k])(inp:List Int):∃ a,EvP inp gs a:=by
 obtain⟨_,a4⟩:=zxa (cs:=cs) inp gs [] λk hk=>by rw[qaN,qaK]; exact hg k hk
 refine⟨λi=>(exL inp gs []).getD i 0,λk hk=>?_⟩;have:=a4 k hk;rw[qaN,qaK]at this;exact this
theorem zud{vals:List Nat}{a:Nat->Nat}:∀(ar:List Nat) (s:Nat),s<=zbc->(∀ x∈ar,vals.getD x 0=a x)->zvV vals ar s=min (s+zeW a ar) zbc
 | [],s,hs,_=>by show s=min (s+0) zbc; omega
 | x :: ar,s,hs,h=>by
  show zvV vals ar (zfA s (vals.getD x 0))=_;rw[zud ar _ (zhv _ _) λy hy=>h y (qai _ hy),h x qao];simp only[zeW,zfA];omega
theorem zn9(x y:Nat):min (min x zbc * y) zbc=min (x * y) zbc:=by
 rcases Nat.le_total x zbc with h | h
 .rw[qbd h]
 rw[qcB h];cases y with
 | zero=>rfl
 | succ y=>
  have h1:zbc * 1<=zbc * (y+1):=qcy _ (by omega);have h2:zbc * (y+1)<=x * (y+1):=qaE _ h;rw[qbI]at h1;rw[qcB h1,qcB (qax h1 h2)]
theorem zpj(x y:Nat):zlC (min x zbc) (min y zbc)=min (x * y) zbc:=by
 unfold zlC;rw[zn9,qbx,zn9,qbx]
theorem zh1{vals:List Nat}{a:Nat->Nat}:∀(ar:List Nat) (s:Nat),s<=zbc->(∀ x∈ar,vals.getD x 0=a x)->zfQ vals ar s=min (s * za0 a ar) zbc
 | [],s,hs,_=>by show s=min (s * 1) zbc; omega
 | x :: ar,s,hs,h=>by
  show zfQ vals ar (zlC s (vals.getD x 0))=_;rw[zh1 ar _ (zg9 _ _) λy hy=>h y (qai _ hy),h x qao];simp only[za0,zlC];rw[zn9,qbj]
theorem zpV(x v:Int):isV x v<=1:=by
 unfold isV;cases decide (0<=x)<;> cases(x == v)<;> decide
variable{vals:List Nat}
theorem zB5{inp:List Int}{cs:List Nat}(hg:GtOk cs i g){a:Nat->Nat}(h:∀ t,t<i->vals.getD t 0=a t):gv inp vals g=min (ex inp a g) zbc:=by
 cases hg with
 | num n hn=>
  show((n:Nat):Int).toNat=min ((n:Nat):Int).toNat zbc;rw[qaq,qbd (by have:=zfh; omega)]
 | is v x hv hx=>
  show isV _ _=min (isV _ _) zbc;rw[qbd (qax (zpV _ _) (by decide))]
 | op k hk ar ne inc lt=>
  have e:ga ⟨k,0,0,0,iL ar⟩=ar:=zew rfl;rcases hk with rfl | rfl
  .show zvV vals (ga ⟨3,0,0,0,iL ar⟩) 0=min (zeW a (ga ⟨3,0,0,0,iL ar⟩)) zbc;rw[e,zud ar 0 (qaw _) λx hx=>h x (lt x hx),qaK]
  show zfQ vals (ga ⟨4,0,0,0,iL ar⟩) 1=min (za0 a (ga ⟨4,0,0,0,iL ar⟩)) zbc;rw[e,zh1 ar 1 (by decide) λx hx=>h x (lt x hx),qbS]
theorem zyK{inp:List Int}{cs:List Nat}{gs:List S_api_Gate}(hg:∀ k (h:k<gs.length),GtOk cs k gs[k]){a:Nat->Nat}(ha:EvP inp gs a):∀(m i:Nat) (vals:List Nat),i+m=gs.length->vals.length=i->(∀ t,t<i->vals.getD t 0=a t/\a t<zbc)->
  (∀ vals',zdI inp vals (gs.drop i)=some vals'->vals'.length=gs.length/\∀ t,t<gs.length->vals'.getD t 0=a t/\a t<zbc)/\((∀ t,t<gs.length->a t<zbc)->∃ vals',zdI inp vals (gs.drop i)=some vals')
 | 0,i,vals,hi,hl,hv=>by
  rw[qaD (by omega)];refine⟨λvals' h=>?_,λ_=>⟨vals,rfl⟩⟩;cases h;exact⟨by omega,λt ht=>hv t (by omega)⟩
 | m+1,i,vals,hi,hl,hv=>by
  have hlt:i<gs.length:=by omega
  have hgv:gv inp vals gs[i]=min (a i) zbc:=by rw[zB5 (hg i hlt) λt ht=>(hv t ht).1,<- ha i hlt]
  rw[qat hlt];simp only[zdI];rw[hgv];by_cases hb:a i<zbc
  .have hn:(min (a i) zbc == zbc)=false:=beq_eq_false_iff_ne.2 (by omega);rw[hn,qdm,qbd (by omega)];refine zyK hg ha m (i+1) (vals ++ [a i]) (by omega) (by simp[hl]) λt ht=>?_
   by_cases ht':t<i
   .rw[zjU (by omega)]; exact hv t ht'
   obtain rfl:t=i:=by omega
   rw[qaj,qak (by omega),hl,qbw];exact⟨rfl,hb⟩
  have hn:(min (a i) zbc == zbc)=true:=beq_iff_eq.2 (by omega);rw[hn,qdl];exact⟨(λvals' h=>nomatch h),λh=>absurd (h i hlt) hb⟩
theorem zuo{inp:List Int}{cs:List Nat}{gs:List S_api_Gate}(hg:∀ k (h:k<gs.length),GtOk cs k gs[k]){a:Nat->Nat}(ha:EvP inp gs a)(h:zdI inp [] gs=some vals):vals.length=gs.length/\∀ t,t<gs.length->vals.getD t 0=a t/\a t<zbc:=
 (zyK hg ha gs.length 0 [] (by omega) rfl λt ht=>absurd ht (qan _)).1 vals (by rw[qa8]; exact h)
theorem zAT{inp:List Int}{cs:List Nat}{gs:List S_api_Gate}(hg:∀ k (h:k<gs.length),GtOk cs k gs[k]){a:Nat->Nat}(ha:EvP inp gs a)(h:∀ t,t<gs.length->a t<zbc):∃ vals,zdI inp [] gs=some vals:=by
 have:=(zyK hg ha gs.length 0 [] (by omega) rfl λt ht=>absurd ht (qan _)).2 h
 rwa [qa8]at this
def zhx(V:List Nat)(k i:Nat):Bool:=(V.getD i 0).testBit k
theorem zum{V:List Nat}{k:Nat}:∀(ar:List Nat) (s:Nat),((iL ar).foldl (λs a=>s ||| V.getD a.toNat 0) s).testBit k=(s.testBit k || ar.any λa=>zhx V k a)
 | [],s=>by show s.testBit k=_; simp
 | a :: ar,s=>by
  show((iL ar).foldl _ (s ||| V.getD a 0)).testBit k=_;rw[zum ar,Nat.testBit_or,qcO,Bool.or_assoc]; rfl
theorem znD{V:List Nat}{k n:Nat}(h:V.getD i 0=vw V ⟨1,0,0,(n:Int),[]⟩):zhx V k i=false:=by
 unfold zhx; rw[h]; exact qck k
theorem znf{V:List Nat}{k v x:Nat}(h:V.getD i 0=vw V ⟨2,(v:Int),(x:Int),0,[]⟩):zhx V k i=(v == k):=by
 unfold zhx;rw[h];show(2 ^ ((v:Nat):Int).toNat).testBit k=_;rw[qaq,qcx,qbE];simp
theorem znh{V:List Nat}{k:Nat}{q:Int}{ar:List Nat}(hq:q=3\/q=4)(h:V.getD i 0=vw V ⟨q,0,0,0,iL ar⟩):zhx V k i=ar.any λa=>zhx V k a:=by
 have e:vw V ⟨q,0,0,0,iL ar⟩=(iL ar).foldl (λs a=>s ||| V.getD a.toNat 0) 0:=by rcases hq with rfl | rfl<;>rfl
 have hb:=zum (V:=V) (k:=k) ar 0;rw[<- e,<- h,qck,qb4]at hb;exact hb
theorem zuX{V:List Nat}{k:Nat}{ar:List Nat}(ne:ar≠[])(h:V.getD i 0=vw V ⟨3,0,0,0,iL ar⟩)(hs:smG V ⟨3,0,0,0,iL ar⟩=true):∀ a∈ar,zhx V k a=zhx V k i:=by
 have e:ga ⟨3,0,0,0,iL ar⟩=ar:=zew rfl;have h1:ar.all (λa=>V.getD a 0 == V.getD (ar.headD 0) 0)=true:=by
  have:smG V ⟨3,0,0,0,iL ar⟩=ar.all (λa=>V.getD a 0 == V.getD (ar.headD 0) 0):=by
   unfold smG; rw[e]; rfl
  rw[<- this]; exact hs
 rw[<- zrF (gs:=[]) (g:=⟨3,0,0,0,iL ar⟩) rfl rfl ne h,qa2]at h1;intro a ha;unfold zhx;rw[beq_iff_eq.1 (h1 a ha)]
abbrev zr2(p:Nat->Bool)(l:List Nat):Prop:=l.Pairwise λa b=>¬(p a=true/\p b=true)
theorem zpP{V:List Nat}{k:Nat}:∀(l pre:List Nat),zkr V pre l=true->zr2 (zhx V k) l/\∀ a∈l,∀ b∈pre,¬(zhx V k b=true/\zhx V k a=true)
 | [],pre,_=>⟨List.Pairwise.nil,λa h=>nomatch h⟩
 | a :: l,pre,h=>by
  simp only[zkr,qae,qa2,qdp]at h;obtain⟨h1,h2⟩:=h;obtain⟨g1,g2⟩:=zpP (k:=k) l (pre ++ [a]) h2;refine⟨qbp.2 ⟨λb hb=>g2 b hb a (by simp),g1⟩,λc hc b hb=>?_⟩;rcases qbc.1 hc with rfl | hc
  .rintro⟨q1,q2⟩;have:=congrArg (λn=>n.testBit k) (h1 b hb);simp only[Nat.testBit_and,qck]at this;unfold zhx at q1 q2;rw[q1,q2]at this;cases this
  exact g2 c hc b (by simp[hb])
theorem ztw{V:List Nat}{k:Nat}{ar:List Nat}(hs:dcG V ⟨4,0,0,0,iL ar⟩=true):zr2 (zhx V k) ar:=by
 have e:ga ⟨4,0,0,0,iL ar⟩=ar:=zew rfl;have:dcG V ⟨4,0,0,0,iL ar⟩=zfX 0 (ar.map λa=>V.getD a 0):=by unfold dcG; rw[e]; rfl
 rw[this]at hs;have q:zfX 0 (ar.map λa=>V.getD a 0)=zkr V [] ar:=zkt ar [];rw[q]at hs;exact(zpP ar [] hs).1
def zcw(f:Nat->Nat):Nat->Nat
 | 0=>0
 | n+1=>zcw f n+f n
theorem zbz{f g:Nat->Nat}:∀ {n:Nat},(∀ x,x<n->f x=g x)->zcw f n=zcw g n
 | 0,_=>rfl
 | n+1,h=>by simp only[zcw,h n (qaW n),zbz λx hx=>h x (qcN hx)]
theorem zkC(c:Nat)(f:Nat->Nat):∀ n:Nat,zcw f n * c=zcw (λx=>f x * c) n
 | 0=>qbZ c
 | n+1=>by simp only[zcw,qaT,zkC c f n]
theorem zvI(c:Nat)(f:Nat->Nat)(n:Nat):c * zcw f n=zcw (λx=>c * f x) n:=by
 rw[qbx,zkC];exact zbz λx _=>qbx _ _
theorem zp2(f g:Nat->Nat):∀ n:Nat,zcw (λx=>f x+g x) n=zcw f n+zcw g n
 | 0=>rfl
 | n+1=>by simp only[zcw,zp2 f g n]; omega
theorem ziL:∀ n:Nat,zcw (λ_=>0) n=0
 | 0=>rfl
 | n+1=>by simp only[zcw,ziL n]
theorem zpx{x':Nat}:∀ {n:Nat},zcw (λx=>bif x == x' then 1 else 0) n=bif decide (x'<n)then 1 else 0
 | 0=>by rw[qdo (qan _)]; rfl
 | n+1=>by
  simp only[zcw];rw[zpx];by_cases h:x'<n
  .rw[qdn h,qdn (show x'<n+1 by omega),show(n == x')=false from beq_eq_false_iff_ne.2 (by omega)]; rfl
  rw[qdo h];by_cases h2:n=x'
  .rw[h2,qdq,qdn (qaW _)]; rfl
  rw[show(n == x')=false from beq_eq_false_iff_ne.2 h2,qdo (show ¬ x'<n+1 by omega)]; rfl
theorem zmO(b:Nat->Nat->Nat)(n:Nat):∀ l:List Nat,zeW (λt=>zcw (λx=>b x t) n) l=zcw (λx=>zeW (b x) l) n
 | []=>(ziL n).symm
 | a :: l=>by simp only[zeW]; rw[zmO b n l,zp2]
theorem zoX{p:Nat->Bool}{a:Nat->Nat}{b:Nat->Nat->Nat}{n:Nat}:∀ {l:List Nat},zr2 p l->(∀ t∈l,p t=true->a t=zcw (λx=>b x t) n)->(∀ t∈l,p t=false->∀ x,b x t=a t)->(l.any p)=true->za0 a l=zcw (λx=>za0 (b x) l) n
 | [],_,_,_,h=>by cases h
 | t :: l,ap,h1,h2,h=>by
  obtain⟨p1,p2⟩:=qbp.1 ap;simp only[za0];cases hp:p t with
  | true=>
   have hl:∀ x,za0 (b x) l=za0 a l:=λx=>zdR λu hu=>h2 u (qai _ hu) (by
    cases hpu:p u with
    | false=>rfl
    | true=>exact absurd ⟨hp,hpu⟩ (p1 u hu)) x
   rw[h1 t qao hp,zkC];exact zbz λx _=>by rw[hl]
  | false=>
   rw[qcO,hp,qb4]at h;rw[zoX p2 (λu hu=>h1 u (qai _ hu)) (λu hu=>h2 u (qai _ hu)) h,zvI];exact zbz λx _=>by rw[h2 t qao hp]
def dP(a ρ:Nat->Nat):Nat->List Nat->Nat
 | _,[]=>0
 | pre,t :: l=>ρ t * (pre * za0 a l)+dP a ρ (pre * a t) l
theorem zsW{p:Nat->Bool}{a b:Nat->Nat}:∀ {l:List Nat} (pre:Nat),(∀ t∈l,p t=false)->dP a (λt=>bif p t then b t else 0) pre l=0
 | [],_,_=>rfl
 | t :: l,pre,h=>by
  simp only[dP];rw[h t qao,qdm,qbZ,zsW _ λu hu=>h u (qai _ hu)]
theorem zBo{p:Nat->Bool}{a b:Nat->Nat}:∀ {l:List Nat} (pre:Nat),zr2 p l->(∀ t∈l,p t=false->b t=a t)->dP a (λt=>bif p t then b t else 0) pre l=pre * (bif l.any p then za0 b l else 0)
 | [],pre,_,_=>(qcJ pre).symm
 | t :: l,pre,ap,h=>by
  obtain⟨p1,p2⟩:=qbp.1 ap;simp only[dP];cases hp:p t with
  | true=>
   have hn:∀ u∈l,p u=false:=λu hu=>by
    cases hpu:p u with
    | false=>rfl
    | true=>exact absurd ⟨hp,hpu⟩ (p1 u hu)
   rw[zsW _ hn,qcO,hp,Bool.true_or,qdl,qdl,qbo];simp only[za0];rw[zdR (b:=a) λu hu=>h u (qai _ hu) (hn u hu),Nat.mul_left_comm]
  | false=>
   rw[zBo _ p2 λu hu=>h u (qai _ hu),qcO,hp,qb4,qdm,qbZ,qaK];cases l.any p with
   | false=>simp
   | true=>
    rw[qdl,qdl];simp only[za0];rw[h t qao hp,qbj]
structure SD (cs:List Nat) (gs:List S_api_Gate) (V:List Nat) (inp:List Int) (k:Nat) (a:Nat->Nat) (b:Nat->Nat->Nat):Prop where
 gate:∀ i (h:i<gs.length),GtOk cs i gs[i]
 v:VsOk gs V
 sm:∀ g∈gs,smG V g=true
 dc:∀ g∈gs,dcG V g=true
 kl:k<cs.length
 len:inp.length=cs.length
 a:EvP inp gs a
 b:∀ x,EvP (inp.set k (x:Nat)) gs (b x)
section
variable {cs:List Nat} {gs:List S_api_Gate} {V:List Nat} {inp:List Int} {k:Nat} {a:Nat->Nat} {b:Nat->Nat->Nat}
theorem SD.zDb(h:SD cs gs V inp k a b)(x:Nat):(inp.set k (x:Int)).getD k 0=(x:Int):=by
 rw[zdX _ _ _ _ _ (by rw[h.len]; exact h.kl),if_pos rfl]
theorem SD.zC4(h:SD cs gs V inp k a b)(x:Nat){v:Nat}(hv:v≠k):(inp.set k (x:Int)).getD v 0=inp.getD v 0:=by
 rw[zdX _ _ _ _ _ (by rw[h.len]; exact h.kl),if_neg hv]
theorem SD.un(h:SD cs gs V inp k a b)(x:Nat):∀ n i,i<n->i<gs.length->zhx V k i=false->b x i=a i
 | 0,_,h,_,_=>absurd h (qan _)
 | n+1,i,hi,hl,hp=>by
  rw[h.b x i hl,h.a i hl];have hv:=h.v.get i hl;have hg:=h.gate i hl;generalize gs[i]=g at *;cases hg with
  | num m hm=>rfl
  | is v y hv1 hv2=>
   rw[znf hv]at hp;show isV _ _=isV _ _;rw[show((⟨2,(v:Int),(y:Int),0,[]⟩:S_api_Gate).var).toNat=v from qaq v,h.zC4 x (beq_eq_false_iff_ne.1 hp)]
  | op q hq ar ne inc lt=>
   rw[znh hq hv,List.any_eq_false]at hp;have e:ga ⟨q,0,0,0,iL ar⟩=ar:=zew rfl;have hc:∀ t∈ar,b x t=a t:=λt ht=>h.un x n t (by have:=lt t ht; omega) (by have:=lt t ht; omega) (by simpa using hp t ht)
   rcases hq with rfl | rfl
   .show zeW (b x) (ga _)=zeW a (ga _);rw[e]; exact zet hc
   show za0 (b x) (ga _)=za0 a (ga _);rw[e]; exact zdR hc
theorem zt2{a b:Nat->Nat}:∀ {l:List Nat},(∀ t∈l,b t<=a t)->zeW b l<=zeW a l
 | [],_=>qap _
 | t :: l,h=>Nat.add_le_add (h t qao) (zt2 λu hu=>h u (qai _ hu))
theorem zp0{a b:Nat->Nat}:∀ {l:List Nat},(∀ t∈l,b t<=a t)->za0 b l<=za0 a l
 | [],_=>qap _
 | t :: l,h=>qa9 (h t qao) (zp0 λu hu=>h u (qai _ hu))
theorem zxy(v:Int):isV (-1) v=1:=rfl
theorem SD.mono(h:SD cs gs V inp k a b)(hno:inp.getD k 0 = -1)(x:Nat):∀ n i,i<n->i<gs.length->b x i<=a i
 | 0,_,h,_=>absurd h (qan _)
 | n+1,i,hi,hl=>by
  rw[h.b x i hl,h.a i hl];have hg:=h.gate i hl;generalize gs[i]=g at *;cases hg with
  | num m hm=>exact qap _
  | is v y hv1 hv2=>
   show isV ((inp.set k (x:Int)).getD ((v:Nat):Int).toNat 0) _<=isV (inp.getD ((v:Nat):Int).toNat 0) _;rw[qaq];by_cases hv:v=k
   .subst hv; rw[hno,zxy]; exact zpV _ _
   .rw[h.zC4 x hv]; exact qap _
  | op q hq ar ne inc lt=>
   have e:ga ⟨q,0,0,0,iL ar⟩=ar:=zew rfl;have hc:∀ t∈ar,b x t<=a t:=λt ht=>h.mono hno x n t (by have:=lt t ht; omega) (by have:=lt t ht; omega)
   rcases hq with rfl | rfl
   .show zeW (b x) (ga _)<=zeW a (ga _);rw[e]; exact zt2 hc
   show za0 (b x) (ga _)<=za0 a (ga _);rw[e]; exact zp0 hc
theorem zls(x y:Nat):isV (x:Int) (y:Int)=bif x == y then 1 else 0:=by
 unfold isV;rw[qdn (qaF x),qdl,zxn]
theorem SD.add(h:SD cs gs V inp k a b)(hno:inp.getD k 0 = -1):∀ n i,i<n->i<gs.length->zhx V k i=true->a i=zcw (λx=>b x i) (cs.getD k 0)
 | 0,_,h,_,_=>absurd h (qan _)
 | n+1,i,hi,hl,hp=>by
  have hb:zcw (λx=>b x i) (cs.getD k 0)=zcw (λx=>ex (inp.set k (x:Nat)) (b x) gs[i]) (cs.getD k 0):=zbz λx _=>h.b x i hl
  rw[hb,h.a i hl];have hv:=h.v.get i hl;have hg:=h.gate i hl;have hsm:=h.sm gs[i] (qas hl);have hdc:=h.dc gs[i] (qas hl);clear hb;generalize gs[i]=g at *;cases hg with
  | num m hm=>rw[znD hv]at hp; cases hp
  | is v y hv1 hv2=>
   rw[znf hv]at hp;have hvk:v=k:=beq_iff_eq.1 hp;subst hvk;show isV (inp.getD ((v:Nat):Int).toNat 0) (y:Int)=zcw (λx=>isV ((inp.set v (x:Nat)).getD ((v:Nat):Int).toNat 0) (y:Int)) _;rw[qaq,hno,zxy,zbz (g:=λx=>bif x == y then 1 else 0) λx _=>by rw[h.zDb,zls],zpx,qdn hv2]; rfl
  | op q hq ar ne inc lt=>
   have e:ga ⟨q,0,0,0,iL ar⟩=ar:=zew rfl;have hlt:∀ t∈ar,t<n/\t<gs.length:=λt ht=>by have:=lt t ht; exact⟨by omega,by omega⟩
   rcases hq with rfl | rfl
   .have hs:=zuX (k:=k) ne hv hsm;show zeW a (ga _)=zcw (λx=>zeW (b x) (ga _)) _;rw[e,<- zmO];exact zet λt ht=>h.add hno n t (hlt t ht).1 (hlt t ht).2 ((hs t ht).trans hp)
   have hd:=ztw (k:=k) hdc;rw[znh (.inr rfl) hv]at hp;show za0 a (ga _)=zcw (λx=>za0 (b x) (ga _)) _;rw[e];exact zoX hd (λt ht hpt=>h.add hno n t (hlt t ht).1 (hlt t ht).2 hpt) (λt ht hpt x=>h.un x n t (hlt t ht).1 (hlt t ht).2 hpt) hp
def rho(V:List Nat)(k:Nat)(b:Nat->Nat->Nat)(x i:Nat):Nat:=bif zhx V k i then b x i else 0
variable{x i:Nat}
theorem SD.zza(h:SD cs gs V inp k a b){n:Nat}(hl:i<gs.length)(e:gs[i]=⟨1,0,0,(n:Int),[]⟩):rho V k b x i=0:=by
 have hv:=h.v.get i hl;rw[e]at hv;unfold rho; rw[znD hv]; rfl
theorem SD.zBf(h:SD cs gs V inp k a b){v y:Nat}(hl:i<gs.length)(e:gs[i]=⟨2,(v:Int),(y:Int),0,[]⟩):rho V k b x i=bif v == k then(bif x == y then 1 else 0)else 0:=by
 have hv:=h.v.get i hl;have hb:=h.b x i hl;rw[e]at hv hb;unfold rho;rw[znf hv];cases hk:(v == k)with
 | false=>rfl
 | true=>
  have hvk:v=k:=beq_iff_eq.1 hk;subst hvk;rw[qdl,qdl,hb];show isV ((inp.set v (x:Nat)).getD ((v:Nat):Int).toNat 0) (y:Int)=_;rw[qaq,h.zDb,zls]
theorem znt:∀ {f:Nat->Nat} {l:List Nat},(∀ t∈l,f t=0)->zeW f l=0
 | _,[],_=>rfl
 | f,t :: l,h=>by simp only[zeW,h t qao,znt λu hu=>h u (qai _ hu)]
theorem SD.zzn(h:SD cs gs V inp k a b){ar:List Nat}(ne:ar≠[])(hl:i<gs.length)(e:gs[i]=⟨3,0,0,0,iL ar⟩):rho V k b x i=zeW (rho V k b x) ar:=by
 have hv:=h.v.get i hl;have hb:=h.b x i hl;have hsm:=h.sm gs[i] (qas hl);rw[e]at hv hb hsm;have hs:=zuX (k:=k) ne hv hsm;unfold rho;cases hp:zhx V k i with
 | true=>
  rw[qdl,hb];show zeW (b x) (ga _)=_;rw[zew rfl];exact zet λt ht=>by rw[hs t ht,hp]; rfl
 | false=>
  rw[qdm,znt λt ht=>by rw[hs t ht,hp]; rfl]
theorem SD.zv2(h:SD cs gs V inp k a b){ar:List Nat}(hl:i<gs.length)(lt:∀ t∈ar,t<i)(e:gs[i]=⟨4,0,0,0,iL ar⟩):rho V k b x i=dP a (rho V k b x) 1 ar:=by
 have hv:=h.v.get i hl;have hb:=h.b x i hl;have hdc:=h.dc gs[i] (qas hl);rw[e]at hv hb hdc;have hd:=ztw (k:=k) hdc;have:=zBo (p:=zhx V k) (a:=a) (b:=b x) 1 hd λt ht hpt=>h.un x gs.length t (by have:=lt t ht; omega) (by have:=lt t ht; omega) hpt
 rw[qbS,<- znh (.inr rfl) hv]at this;show(bif zhx V k i then b x i else 0)=dP a (λt=>bif zhx V k t then b x t else 0) 1 ar;rw[this,hb];show(bif zhx V k i then za0 (b x) (ga _)else 0)=_;rw[zew rfl]
end
def zjn(S:List Nat)(ρ:Nat->Nat):Nat->Nat
 | 0=>0
 | j+1=>zjn S ρ j+S.getD j 0 * ρ j
theorem ziA{S:List Nat}{ρ:Nat->Nat}{a d:Nat}(ha:a<S.length):∀ j:Nat,zjn (S.set a (S.getD a 0+d)) ρ j=zjn S ρ j+if a<j then d * ρ a else 0
 | 0=>rfl
 | j+1=>by
  simp only[zjn];rw[ziA ha j,zdX _ _ _ _ _ ha];by_cases h:j=a
  .subst h;rw[if_pos rfl,if_neg (qce _),if_pos (qaW _),qaT];omega
  rw[if_neg h];by_cases h2:a<j
  .rw[if_pos h2,if_pos (by omega)]; omega
  rw[if_neg h2,if_neg (by omega)]; omega
theorem ziW(ρ:Nat->Nat)(m:Nat):∀ j:Nat,zjn (List.replicate m 0) ρ j=0
 | 0=>rfl
 | j+1=>by
  simp only[zjn];rw[ziW ρ m j,qaj,qbX];split<;>simp
structure SatL (ss S:List Nat):Prop where
 len:ss.length=S.length
 get:∀ i,ss.getD i 0=min (S.getD i 0) zbc
variable{S:List Nat}
theorem SatL.set{ss:List Nat}(h:SatL ss S){a x y:Nat}(ha:a<ss.length)(e:x=min y zbc):SatL (ss.set a x) (S.set a y):=by
 refine⟨by simp[h.len],λi=>?_⟩;rw[zdX _ _ _ _ _ ha,zdX _ _ _ _ _ (h.len ▸ ha)];split
 .exact e
 exact h.get i
def zly(slope:Nat):List Nat->List Nat->List Nat
 | S,[]=>S
 | S,a :: r=>zly slope (S.set a (S.getD a 0+slope)) r
theorem zhd{slope j:Nat}(ρ:Nat->Nat):∀(ar ss S:List Nat),SatL ss S->(∀ a∈ar,a<j/\a<ss.length)->
  SatL (zdK slope ss ar) (zly slope S ar)/\(zdK slope ss ar).length=ss.length/\zjn (zly slope S ar) ρ j=zjn S ρ j+slope * zeW ρ ar
 | [],ss,S,h,_=>⟨h,rfl,rfl⟩
 | a :: ar,ss,S,h,hl=>by
  obtain⟨h1,h2⟩:=hl a qao;have hs:=h.set (x:=zfA (ss.getD a 0) slope) (y:=S.getD a 0+slope) h2 (by rw[h.get a]; unfold zfA; omega);obtain⟨q1,q2,q3⟩:=zhd (slope:=slope) (j:=j) ρ ar _ _ hs λb hb=>by rw[qaG]; exact hl b (qai _ hb)
  refine⟨q1,by show(zdK slope (ss.set a _) ar).length=_; rw[q2,qaG],?_⟩;show zjn (zly slope (S.set a _) ar) ρ j=_;rw[q3,ziA (h.len ▸ h2),if_pos h1];simp only[zeW];rw[qc9]; omega
def zkQ(slope:Nat):List Nat->List Nat->List Nat->List Nat
 | S,a :: r,q :: s=>zkQ slope (S.set a (S.getD a 0+slope * q)) r s
 | S,_,_=>S
def znG(a:Nat->Nat):Nat->List Nat->List Nat
 | _,[]=>[]
 | pre,t :: l=>pre * za0 a l :: znG a (pre * a t) l
theorem zhf{slope j:Nat}(hs0:slope<=zbc)(ρ a:Nat->Nat):∀(ar:List Nat) (pre:Nat) (ss S:List Nat),SatL ss S->(∀ t∈ar,t<j/\t<ss.length)->
  SatL (zdJ slope ss ar ((znG a pre ar).map λq=>min q zbc)) (zkQ slope S ar (znG a pre ar))/\(zdJ slope ss ar ((znG a pre ar).map λq=>min q zbc)).length=ss.length/\zjn (zkQ slope S ar (znG a pre ar)) ρ j=zjn S ρ j+slope * dP a ρ pre ar
 | [],pre,ss,S,h,_=>⟨h,rfl,rfl⟩
 | t :: ar,pre,ss,S,h,hl=>by
  obtain⟨h1,h2⟩:=hl t qao;have e1:zlC slope (min (pre * za0 a ar) zbc)=min (slope * (pre * za0 a ar)) zbc:=by
   have:=zpj slope (pre * za0 a ar);rw[qbd hs0]at this;exact this
  have hs:=h.set (x:=zfA (ss.getD t 0) (zlC slope (min (pre * za0 a ar) zbc))) (y:=S.getD t 0+slope * (pre * za0 a ar)) h2 (by rw[h.get t,e1]; unfold zfA; omega);obtain⟨q1,q2,q3⟩:=zhf (j:=j) hs0 ρ a ar (pre * a t) _ _ hs λb hb=>by rw[qaG]; exact hl b (qai _ hb)
  refine⟨q1,?_,?_⟩
  .show(zdJ slope (ss.set t _) ar _).length=_;rw[q2,qaG]
  show zjn (zkQ slope (S.set t _) ar (znG a (pre * a t) ar)) ρ j=_;rw[q3,ziA (h.len ▸ h2),if_pos h1];simp only[dP];rw[qc9,qbx (ρ t),qbj]; omega
theorem zpo(a:Nat->Nat):∀(ar:List Nat) (pre:Nat),(znG a pre ar).length=ar.length
 | [],_=>rfl
 | t :: l,pre=>by simp[znG,zpo a l]
theorem zpF(a:Nat->Nat):∀(ar:List Nat) (pre i:Nat) (h:i<(znG a pre ar).length),(znG a pre ar)[i]=pre * za0 a (ar.take i)* za0 a (ar.drop (i+1))
 | [],_,i,h=>absurd h (qan _)
 | t :: l,pre,0,_=>by simp[znG,za0]
 | t :: l,pre,i+1,h=>by
  simp only[znG,qci,qb2,qc0,za0];rw[zpF a l,qbj pre]
variable{vals:List Nat}
theorem zsV{a:Nat->Nat}{ar:List Nat}(h:∀ t∈ar,vals.getD t 0=a t):zmf vals ar=(znG a 1 ar).map λq=>min q zbc:=by
 refine qcX (by simp[zmf,zpo]) λi h1 h2=>?_
 have hi:i<ar.length:=by simpa [zmf]using h1
 simp only[zmf,List.getElem_map,List.getElem_range];rw[zpF,qbS];unfold zn4 zul;rw[zh1 (a:=a) _ 1 (by decide) λx hx=>h x (List.mem_of_mem_take hx),zh1 (a:=a) _ 1 (by decide) λx hx=>h x (qcc (List.mem_reverse.1 hx)),qbS,qbS,zmA,zpj]
structure DimR (cs:List Nat) (rows:List (List Nat)):Prop where
 len:rows.length=cs.length
 row:∀ v,v<cs.length->(rows.getD v []).length=cs.getD v 0
def zeX(rows:List (List Nat))(k x:Nat):Nat:=(rows.getD k []).getD x 0
theorem zl3{cs:List Nat}{gs:List S_api_Gate}{V:List Nat}{inp:List Int}{k:Nat}{a:Nat->Nat}{b:Nat->Nat->Nat}(h:SD cs gs V inp k a b){vals:List Nat}(hv:∀ t,t<gs.length->vals.getD t 0=a t):
  ∀(j:Nat) (rows:List (List Nat)) (ss S:List Nat) (rows':List (List Nat)),j<=gs.length->ss.length=gs.length->DimR cs rows->SatL ss S->zgd vals gs j rows ss=some rows' ->
   DimR cs rows'/\∀ x,zeX rows' k x=zeX rows k x+zjn S (rho V k b x) j
 | 0,rows,ss,S,rows',_,_,hd,_,e=>by
  cases e;exact⟨hd,λx=>rfl⟩
 | j+1,rows,ss,S,rows',hj,hl,hd,hs,e=>by
  have hjl:j<gs.length:=by omega
  have hgd:gs.getD j ⟨0,0,0,0,[]⟩=gs[j]:=zap hjl;simp only[zgd]at e;rw[hgd]at e;have hslope:=hs.get j;have hg:=h.gate j hjl;obtain⟨g,hgg⟩:∃ g,gs[j]=g:=⟨_,rfl⟩;rw[hgg]at hg e;cases hb:(ss.getD j 0 == zbc)with
  | true=>
   have:zcU vals g (ss.getD j 0) rows ss=none:=by unfold zcU; rw[hb]; rfl
   rw[this]at e;cases e
  | false=>
  have hSj:ss.getD j 0=S.getD j 0:=by have:=beq_eq_false_iff_ne.1 hb; omega
  have hsT:ss.getD j 0<=zbc:=by omega
  simp only[zjn];cases hg with
  | num n hn=>
   have hst:zcU vals ⟨1,0,0,(n:Int),[]⟩ (ss.getD j 0) rows ss=some (rows,ss):=by unfold zcU; rw[hb]; rfl
   rw[hst]at e;obtain⟨q1,q2⟩:=zl3 h hv j rows ss S rows' (by omega) hl hd hs e;exact⟨q1,λx=>by rw[q2,h.zza hjl hgg,qcJ,qbo]⟩
  | is v y hv1 hv2=>
   have hst:zcU vals ⟨2,(v:Int),(y:Int),0,[]⟩ (ss.getD j 0) rows ss=(bif zfA ((rowAt rows v).getD y 0) (ss.getD j 0)== zbc then none else some (rows.set v ((rowAt rows v).set y (zfA ((rowAt rows v).getD y 0) (ss.getD j 0))),ss)):=by
    unfold zcU;rw[hb,qdm];show(bif zfA ((rowAt rows ((v:Nat):Int).toNat).getD ((y:Nat):Int).toNat 0) (ss.getD j 0)== zbc then none else some (rows.set ((v:Nat):Int).toNat ((rowAt rows ((v:Nat):Int).toNat).set ((y:Nat):Int).toNat (zfA ((rowAt rows ((v:Nat):Int).toNat).getD ((y:Nat):Int).toNat 0) (ss.getD j 0))),ss))=_;rw[qaq,qaq]
   rw[hst]at e;cases hb2:(zfA ((rowAt rows v).getD y 0) (ss.getD j 0)== zbc)with
   | true=>rw[hb2]at e; cases e
   | false=>
   rw[hb2,qdm]at e;have hvr:v<rows.length:=by rw[hd.len]; exact hv1
   have hrl:(rowAt rows v).length=cs.getD v 0:=hd.row v hv1;have hyr:y<(rowAt rows v).length:=by rw[hrl]; exact hv2
   have hval:zfA ((rowAt rows v).getD y 0) (ss.getD j 0)=(rowAt rows v).getD y 0+S.getD j 0:=by
    have:=beq_eq_false_iff_ne.1 hb2;unfold zfA at this ⊢;omega
   rw[hval]at e;have hd1:DimR cs (rows.set v ((rowAt rows v).set y ((rowAt rows v).getD y 0+S.getD j 0))):=by
    refine⟨by simp[hd.len],λu hu=>?_⟩;rw[zdX _ _ _ _ _ hvr];split
    .next e=>subst e; rw[qaG]; exact hrl
    exact hd.row u hu
   obtain⟨q1,q2⟩:=zl3 h hv j _ ss S rows' (by omega) hl hd1 hs e;refine⟨q1,λx=>?_⟩;rw[q2,h.zBf hjl hgg];have hc:zeX (rows.set v ((rowAt rows v).set y ((rowAt rows v).getD y 0+S.getD j 0))) k x=zeX rows k x+S.getD j 0 * (bif v == k then(bif x == y then 1 else 0)else 0):=by
    unfold zeX;rw[zdX _ _ _ _ _ hvr];by_cases hvk:k=v
    .subst hvk;rw[if_pos rfl,qdq,qdl,zdX _ _ _ _ _ hyr];by_cases hxy:x=y
     .subst hxy;rw[if_pos rfl,qdq,qdl,qbI]; rfl
     rw[if_neg hxy,show(x == y)=false from beq_eq_false_iff_ne.2 hxy,qdm,qcJ]; rfl
    rw[if_neg hvk,show(v == k)=false from beq_eq_false_iff_ne.2 (Ne.symm hvk),qdm,qcJ]; rfl
   rw[hc]; omega
  | op q hq ar ne inc lt=>
   have eg:ga ⟨q,0,0,0,iL ar⟩=ar:=zew rfl;have hlt:∀ t∈ar,t<j/\t<ss.length:=λt ht=>by have:=lt t ht; exact⟨this,by omega⟩
   rcases hq with rfl | rfl
   .have hst:zcU vals ⟨3,0,0,0,iL ar⟩ (ss.getD j 0) rows ss=some (rows,zdK (ss.getD j 0) ss ar):=by
     unfold zcU;rw[hb,qdm];show some (rows,zdK (ss.getD j 0) ss (ga ⟨3,0,0,0,iL ar⟩))=_;rw[eg]
    rw[hst]at e;have hr:=λx=>zhd (slope:=ss.getD j 0) (rho V k b x) ar ss S hs hlt
    obtain⟨r1,r2,_⟩:=hr 0;obtain⟨q1,q2⟩:=zl3 h hv j rows _ _ rows' (by omega) (r2.trans hl) hd r1 e;exact⟨q1,λx=>by rw[q2,(hr x).2.2,h.zzn ne hjl hgg,hSj]⟩
   have hst:zcU vals ⟨4,0,0,0,iL ar⟩ (ss.getD j 0) rows ss=some (rows,zdJ (ss.getD j 0) ss ar ((znG a 1 ar).map λq=>min q zbc)):=by
    unfold zcU;rw[hb,qdm];show some (rows,zdJ (ss.getD j 0) ss (ga ⟨4,0,0,0,iL ar⟩) (zmf vals (ga ⟨4,0,0,0,iL ar⟩)))=_;rw[eg,zsV λt ht=>hv t (by have:=lt t ht; omega)]
   rw[hst]at e;have hr:=λx=>zhf hsT (rho V k b x) a ar 1 ss S hs hlt
   obtain⟨r1,r2,_⟩:=hr 0;obtain⟨q1,q2⟩:=zl3 h hv j rows _ _ rows' (by omega) (r2.trans hl) hd r1 e;exact⟨q1,λx=>by rw[q2,(hr x).2.2,h.zv2 hjl lt hgg,hSj]⟩
theorem zzo{cs:List Nat}{gs:List S_api_Gate}{V:List Nat}{inp:List Int}{k:Nat}{a:Nat->Nat}{b:Nat->Nat->Nat}(h:SD cs gs V inp k a b)(hv:∀ t,t<gs.length->vals.getD t 0=a t)(hm:1<=gs.length){rows:List (List Nat)}(e:zgd vals gs gs.length (zcz cs) (zcY gs.length)=some rows)(hp:zhx V k (gs.length - 1)=true):DimR cs rows/\∀ x,zeX rows k x=b x (gs.length - 1):=by
 have hd:DimR cs (zcz cs):=by
  refine⟨by simp[zcz],λv hv=>?_⟩;rw[zap (by simpa [zcz]using hv),zap hv];simp[zcz]
 have hsl:zcY gs.length=(List.replicate gs.length 0).set (gs.length - 1) ((List.replicate gs.length 0).getD (gs.length - 1) 0+1):=by
  unfold zcY;rw[zap (by simp; omega)];simp
 have hs:SatL (zcY gs.length) (zcY gs.length):=by
  refine⟨rfl,λi=>?_⟩;have:=(zfo gs.length).le i;omega
 obtain⟨q1,q2⟩:=zl3 h hv gs.length _ _ _ rows (qap _) (zfo gs.length).len hd hs e;refine⟨q1,λx=>?_⟩;have hz:zeX (zcz cs) k x=0:=by
  have hkl:=h.kl;have hr:(zcz cs).getD k []=List.replicate cs[k] 0:=by
   rw[zap (by simpa [zcz]using h.kl)]; simp[zcz]
  unfold zeX;rw[hr,qaj,qbX];split<;>rfl
 rw[q2,hz,qaK,hsl,ziA (by simp; omega),ziW,if_pos (by omega),qaK,qbS];unfold rho;rw[hp]; rfl
def VG(cs:List Nat)(gs:List S_api_Gate):Prop:=∀ i (h:i<gs.length),GtOk cs i gs[i]
theorem zxu{x:Int}(h:0<=x):∃ n:Nat,x=(n:Int):=Int.eq_ofNat_of_zero_le h
theorem zzN:∀ {cs:List Nat},(∀ c∈cs,1<=c/\c<=3)->zae cs<=3 ^ cs.length
 | [],_=>qap 1
 | c :: cs,h=>by
  have h1:=zzN λd hd=>h d (qai _ hd)
  have h2:=(h c qao).2;show c * zae cs<=3 ^ (cs.length+1);rw[Nat.pow_succ,qbx];exact qa9 h1 h2
structure Dr (cs:List Nat) (c:S_api_Circuit):Prop where
 cards:c.cards=iL cs
 one:1<=cs.length
 len:cs.length<=4
 card:∀ k∈cs,1<=k/\k<=3
 gone:1<=c.gates.length
 glen:c.gates.length<=42
 gate:VG cs c.gates
variable{c:S_api_Circuit}
theorem Dr.ok{cs:List Nat}(h:Dr cs c):COk cs c:=by
 have h1:=h.len;have hp:zae cs<=1024:=qax (zzN h.card) (qax (qbu (by decide) h1) (by decide));exact⟨h.cards,h.one,by omega,λk hk=>by have:=h.card k hk; omega,hp,h.gone,by have:=h.glen; omega,h.gate⟩
theorem zr8{i:Nat}:∀ {ar:List Nat} {b:Int},ar.Pairwise (· < ·)->(∀ a∈ar,a<i/\b<(a:Int))->zrv (i:Int) b (iL ar)=true
 | [],_,_,_=>rfl
 | a :: ar,b,h1,h2=>by
  obtain⟨p1,p2⟩:=qbp.1 h1;have h3:=h2 a qao;show(decide (b<(a:Int)) && decide ((a:Int)<(i:Int)) && zrv (i:Int) (a:Int) (iL ar))=true;rw[zr8 p2 λt ht=>⟨(h2 t (qai _ ht)).1,by have:=p1 t ht; omega⟩,qdn h3.2,qdn (by omega)]; rfl
theorem zvT{cs:List Nat}{i:Nat}{g:S_api_Gate}(h:GtOk cs i g):znM (iL cs) (i:Int) g=true:=by
 cases h with
 | num n hn=>
  show(decide (0<=(n:Int)) && (decide ((n:Int)<=4611686018427387903) && true))=true;rw[qdn (qaF n),qdn (by omega)]; rfl
 | is v x hv hx=>
  have e:(iL cs).getD v 0=((cs.getD v 0:Nat):Int):=by rw[zap (by rw[zam]; exact hv),zm1 hv,zap hv]
  show(decide (0<=(v:Int)) && (decide ((v:Int)<((iL cs).length:Int)) && (decide (0<=(x:Int)) && (decide ((x:Int)<(iL cs).getD ((v:Nat):Int).toNat 0) && true))))=true;rw[qaq,e,zam,qdn (qaF v),qdn (by omega),qdn (qaF x),qdn (by omega)]; rfl
 | op q hq ar ne inc lt=>
  have hl:((((iL ar).length:Nat):Int)== 0)=false:=beq_eq_false_iff_ne.2 (by
   rw[zam];have:ar.length≠0:=λh=>ne (qa5.1 h)
   omega)
  have hi:=zr8 (i:=i) (b:=-1) inc λt ht=>⟨lt t ht,by omega⟩
  rcases hq with rfl | rfl
  .show(true && (true && (true && (!((((iL ar).length:Nat):Int)== 0) && zrv (i:Int) (-1) (iL ar)))))=true;rw[hl,hi]; rfl
  show(true && (true && (true && (!((((iL ar).length:Nat):Int)== 0) && zrv (i:Int) (-1) (iL ar)))))=true;rw[hl,hi]; rfl
theorem zmN{cs:List Nat}:∀ {gs:List S_api_Gate} {i:Nat},(∀ k (h:k<gs.length),GtOk cs (i+k) gs[k])->zf0 (iL cs) (i:Int) gs=true
 | [],_,_=>rfl
 | g :: gs,i,h=>by
  have h0:=h 0 (qdc _);simp only[zf0,qae];refine⟨zvT h0,?_⟩;have:=zmN (gs:=gs) (i:=i+1) λk hk=>by
   have:=h (k+1) (by simpa using hk);rw[show i+1+k=i+(k+1) by omega];exact this
  rw[show((i+1:Nat):Int)=(i:Int)+1 by omega]at this;exact this
theorem zy2(ns:List Nat):prZ (iL ns)=(zae ns:Nat):=by
 induction ns with
 | nil=>rfl
 | cons n ns ih=>
  show(n:Int)* prZ (iL ns)=((n * zae ns:Nat):Int);rw[ih,qa4]
theorem COk.zBV{cs:List Nat}(ho:COk cs c)(h4:∀ k∈cs,k<=4):ziN c=true:=by
 have hg:=ho.glen;have hcr:zxq (iL cs)=true:=by
  unfold zxq;rw[qa2];intro x hx;obtain⟨n,hn,rfl⟩:=qaJ.1 hx;have:=ho.card n hn;have:=h4 n hn;rw[qdn (by omega),qdn (by omega)]; rfl
 have hgs:=zmN (cs:=cs) (gs:=c.gates) (i:=0) λk hk=>by rw[qaK]; exact ho.gate k hk
 rw[show((0:Nat):Int)=0 from rfl]at hgs;have hp:=ho.prod;unfold ziN zwd;rw[ho.cards,zam,qdn ho.one,qdn ho.len,hcr,zy2,qdn (by omega),qdn ho.gone,qdn hg,hgs]; rfl
theorem Dr.zBV{cs:List Nat}{c:S_api_Circuit}(h:Dr cs c):ziN c=true:=h.ok.zBV λk hk=>by have:=h.card k hk; omega
theorem zxR:∀ {cs:List Nat} {input:List Int},(∀ k (h1:k<cs.length) (h2:k<input.length),-1<=input[k]/\input[k]<(cs[k]:Int))->zyj (iL cs) input=true
 | [],_,_=>rfl
 | _ :: _,[],_=>rfl
 | c :: cs,x :: s,h=>by
  have h0:-1<=x/\x<(c:Int):=h 0 (qdc _) (qdc _);show(decide (-1<=x) && decide (x<(c:Int)) && zyj (iL cs) s)=true;rw[qdn h0.1,qdn h0.2,zxR λk h1 h2=>h (k+1) (qdg h1) (qdg h2)]; rfl
theorem COk.run{cs:List Nat}(h:COk cs c)(hb:ziN c=true){input:List Int}(hl:input.length=cs.length)(hi:∀ k (h1:k<cs.length) (h2:k<input.length),-1<=input[k]/\input[k]<(cs[k]:Int)):ztE c input=true:=by
 unfold ztE;rw[hb,h.cards,zam,qdn hl,zxR hi]; rfl
theorem Dr.run{cs:List Nat}{c:S_api_Circuit}(h:Dr cs c){input:List Int}(hl:input.length=cs.length)(hi:∀ k (h1:k<cs.length) (h2:k<input.length),-1<=input[k]/\input[k]<(cs[k]:Int)):ztE c input=true:=h.ok.run h.zBV hl hi
theorem zxY{cs:List Nat}(hc:COk cs c)(hb:ziN c=true){V:List Nat}(hV:VsOk c.gates V):∃ b,zbK c=some (c.gates.all (smG V),c.gates.all (dcG V),b,0)/\(b=true↔∀ j,j<zae cs->okD (dig cs j) c.gates []=true):=by
 have hck:=zpz c hc.small;rw[hb]at hck;obtain⟨sets,b,b1,b2⟩:=zto hc.cards hc.card hc.one hc.len hc.prod hc.gate hc.glen;have hl:=zoN hc hV (c.gates.length+2) 0 true true (qaw _) (by omega);rw[show((0:Nat):Int)=0 from rfl,qa8,qbB,qbB]at hl;refine⟨b,?_,b2⟩;unfold zbK;rw[hck,qdl,qaa,show((0:Int)== 0)=true from rfl,qdl,zy3 hc hV,qaa,zaJ,hl,qaa];simp only;rw[b1]; rfl
def zmB:List Nat->Nat
 | []=>0
 | x :: l=>x+zmB l
def zqD:List (List Nat)->Nat
 | []=>0
 | r :: l=>zmB r+zqD l
theorem zp7:∀(r:List Nat) (y:Nat),r.getD y 0<=zmB r
 | [],y=>qaw _
 | x :: l,0=>qbQ _ _
 | x :: l,y+1=>qax (zp7 l y) (qcK _ _)
theorem zpw:∀(r:List Nat) (y d:Nat),y<r.length->zmB (r.set y (r.getD y 0+d))=zmB r+d
 | [],_,_,h=>absurd h (qan _)
 | x :: l,0,d,_=>by show x+d+zmB l=x+zmB l+d; omega
 | x :: l,y+1,d,h=>by
  have:=zpw l y d (by simpa using h);show x+zmB (l.set y (l.getD y 0+d))=x+zmB l+d;omega
theorem zpT:∀(t:List (List Nat)) (v:Nat),zmB (t.getD v [])<=zqD t
 | [],v=>qaw _
 | r :: l,0=>qbQ _ _
 | r :: l,v+1=>qax (zpT l v) (qcK _ _)
theorem zo0:∀(t:List (List Nat)) (v y d:Nat),v<t.length->y<(t.getD v []).length->zqD (t.set v ((t.getD v []).set y ((t.getD v []).getD y 0+d)))=zqD t+d
 | [],_,_,_,h,_=>absurd h (qan _)
 | r :: l,0,y,d,_,hy=>by
  have:=zpw r y d hy;show zmB (r.set y (r.getD y 0+d))+zqD l=zmB r+zqD l+d;omega
 | r :: l,v+1,y,d,h,hy=>by
  have:=zo0 l v y d (by simpa using h) hy;show zmB r+zqD (l.set v ((l.getD v []).set y ((l.getD v []).getD y 0+d)))=zmB r+zqD l+d;omega
theorem zjW:∀ cs:List Nat,zqD (zcz cs)=0
 | []=>rfl
 | c :: cs=>by
  have h:∀ n:Nat,zmB (List.replicate n 0)=0:=λn=>by
   induction n with
   | zero=>rfl
   | succ n ih=>simp only[qaU,zmB,ih]
  show zmB (List.replicate c 0)+zqD (zcz cs)=0;rw[h,zjW cs]
structure Sg (gs:List S_api_Gate) (a σ:Nat->Nat):Prop where
 one:∀ i,i<gs.length->1<=σ i
 sum:∀ i (h:i<gs.length) (ar:List Nat),gs[i]=⟨3,0,0,0,iL ar⟩->zeW σ ar<=σ i
 prod:∀ i (h:i<gs.length) (ar:List Nat),gs[i]=⟨4,0,0,0,iL ar⟩->dP a σ 1 ar<=σ i
variable{σ:Nat->Nat}
theorem zAO{j:Nat}(h:1<=σ j):S.getD j 0+zjn S σ j<=zjn S σ (j+1):=by
 have:S.getD j 0 * 1<=S.getD j 0 * σ j:=qcy _ h;simp only[zjn];omega
theorem ziE{cs:List Nat}{gs:List S_api_Gate}(hg:∀ i (h:i<gs.length),GtOk cs i gs[i]){vals:List Nat}{a σ:Nat->Nat}(hv:∀ t,t<gs.length->vals.getD t 0=a t)(hσ:Sg gs a σ){M:Nat}(hM:M<zbc):
  ∀(j:Nat) (rows:List (List Nat)) (ss S:List Nat),j<=gs.length->ss.length=gs.length->DimR cs rows->SatL ss S->zjn S σ j+zqD rows<=M->∃ rows',zgd vals gs j rows ss=some rows'
 | 0,rows,ss,S,_,_,_,_,_=>⟨rows,rfl⟩
 | j+1,rows,ss,S,hj,hl,hd,hs,hm=>by
  have hjl:j<gs.length:=by omega
  have hgd:gs.getD j ⟨0,0,0,0,[]⟩=gs[j]:=zap hjl;simp only[zgd];rw[hgd];have hslope:=hs.get j;have hge:=zAO (S:=S) (hσ.one j hjl);have hSj:ss.getD j 0=S.getD j 0:=by omega
  have hb:(ss.getD j 0 == zbc)=false:=beq_eq_false_iff_ne.2 (by omega);have hsT:ss.getD j 0<=zbc:=by omega
  have hdm:zjn S σ (j+1)=zjn S σ j+S.getD j 0 * σ j:=rfl;have hgj:=hg j hjl;have hsum:=hσ.sum j hjl;have hprod:=hσ.prod j hjl;generalize gs[j]=g at *;cases hgj with
  | num n hn=>
   have hst:zcU vals ⟨1,0,0,(n:Int),[]⟩ (ss.getD j 0) rows ss=some (rows,ss):=by unfold zcU; rw[hb]; rfl
   rw[hst];exact ziE hg hv hσ hM j rows ss S (by omega) hl hd hs (by omega)
  | is v y hv1 hv2=>
   have hvr:v<rows.length:=by rw[hd.len]; exact hv1
   have hrl:(rowAt rows v).length=cs.getD v 0:=hd.row v hv1;have hyr:y<(rowAt rows v).length:=by rw[hrl]; exact hv2
   have hcell:(rowAt rows v).getD y 0<=zqD rows:=qax (zp7 _ _) (zpT rows v);have hval:zfA ((rowAt rows v).getD y 0) (ss.getD j 0)=(rowAt rows v).getD y 0+S.getD j 0:=by unfold zfA; omega
   have hb2:(zfA ((rowAt rows v).getD y 0) (ss.getD j 0)== zbc)=false:=beq_eq_false_iff_ne.2 (by rw[hval]; omega);have hst:zcU vals ⟨2,(v:Int),(y:Int),0,[]⟩ (ss.getD j 0) rows ss=some (rows.set v ((rowAt rows v).set y ((rowAt rows v).getD y 0+S.getD j 0)),ss):=by
    unfold zcU;rw[hb,qdm];show(bif zfA ((rowAt rows ((v:Nat):Int).toNat).getD ((y:Nat):Int).toNat 0) (ss.getD j 0)== zbc then none else some (rows.set ((v:Nat):Int).toNat ((rowAt rows ((v:Nat):Int).toNat).set ((y:Nat):Int).toNat (zfA ((rowAt rows ((v:Nat):Int).toNat).getD ((y:Nat):Int).toNat 0) (ss.getD j 0))),ss))=_;rw[qaq,qaq,hb2,qdm,hval]
   rw[hst];have hd1:DimR cs (rows.set v ((rowAt rows v).set y ((rowAt rows v).getD y 0+S.getD j 0))):=by
    refine⟨by simp[hd.len],λu hu=>?_⟩;rw[zdX _ _ _ _ _ hvr];split
    .next e=>subst e; rw[qaG]; exact hrl
    exact hd.row u hu
   have ht:=zo0 rows v y (S.getD j 0) hvr hyr;refine ziE hg hv hσ hM j _ ss S (by omega) hl hd1 hs ?_;show zjn S σ j+zqD (rows.set v ((rows.getD v []).set y ((rows.getD v []).getD y 0+S.getD j 0)))<=M;omega
  | op q hq ar ne inc lt=>
   have eg:ga ⟨q,0,0,0,iL ar⟩=ar:=zew rfl;have hlt:∀ t∈ar,t<j/\t<ss.length:=λt ht=>by have:=lt t ht; exact⟨this,by omega⟩
   rcases hq with rfl | rfl
   .have hst:zcU vals ⟨3,0,0,0,iL ar⟩ (ss.getD j 0) rows ss=some (rows,zdK (ss.getD j 0) ss ar):=by
     unfold zcU;rw[hb,qdm];show some (rows,zdK (ss.getD j 0) ss (ga ⟨3,0,0,0,iL ar⟩))=_;rw[eg]
    rw[hst];obtain⟨r1,r2,r3⟩:=zhd (slope:=ss.getD j 0) σ ar ss S hs hlt;have:=qcy (S.getD j 0) (hsum ar rfl);exact ziE hg hv hσ hM j rows _ _ (by omega) (r2.trans hl) hd r1 (by rw[r3,hSj]; omega)
   have hst:zcU vals ⟨4,0,0,0,iL ar⟩ (ss.getD j 0) rows ss=some (rows,zdJ (ss.getD j 0) ss ar ((znG a 1 ar).map λq=>min q zbc)):=by
    unfold zcU;rw[hb,qdm];show some (rows,zdJ (ss.getD j 0) ss (ga ⟨4,0,0,0,iL ar⟩) (zmf vals (ga ⟨4,0,0,0,iL ar⟩)))=_;rw[eg,zsV λt ht=>hv t (by have:=lt t ht; omega)]
   rw[hst];obtain⟨r1,r2,r3⟩:=zhf hsT σ a ar 1 ss S hs hlt;have:=qcy (S.getD j 0) (hprod ar rfl);exact ziE hg hv hσ hM j rows _ _ (by omega) (r2.trans hl) hd r1 (by rw[r3,hSj]; omega)
theorem zvN{cs:List Nat}{gs:List S_api_Gate}(hg:∀ i (h:i<gs.length),GtOk cs i gs[i]){a:Nat->Nat}(hv:∀ t,t<gs.length->vals.getD t 0=a t)(hσ:Sg gs a σ)(hm:1<=gs.length)(hM:σ (gs.length - 1)<zbc):∃ rows,zgd vals gs gs.length (zcz cs) (zcY gs.length)=some rows:=by
 have hd:DimR cs (zcz cs):=by
  refine⟨by simp[zcz],λv hv=>?_⟩;rw[zap (by simpa [zcz]using hv),zap hv];simp[zcz]
 have hsl:zcY gs.length=(List.replicate gs.length 0).set (gs.length - 1) ((List.replicate gs.length 0).getD (gs.length - 1) 0+1):=by
  unfold zcY;rw[zap (by simp; omega)];simp
 have hs:SatL (zcY gs.length) (zcY gs.length):=by
  refine⟨rfl,λi=>?_⟩;have:=(zfo gs.length).le i;omega
 refine ziE hg hv hσ hM gs.length _ _ _ (qap _) (zfo gs.length).len hd hs ?_;rw[zjW,hsl,ziA (by simp; omega),ziW,if_pos (by omega)];omega
def zbi(cs:List Nat):Nat->Nat
 | 0=>0
 | v+1=>zbi cs v+cs.getD v 0
theorem zhg(cs:List Nat):∀ {u v:Nat},u<=v->zbi cs u<=zbi cs v
 | u,0,h=>by rw[show u=0 by omega]; exact qap _
 | u,v+1,h=>by
  by_cases hu:u=v+1
  .rw[hu]; exact qap _
  exact qax (zhg cs (show u<=v by omega)) (qbQ _ _)
theorem zuj(cs:List Nat):∀ {n i:Nat},i<zbi cs n->∃ v x,v<n/\x<cs.getD v 0/\i=zbi cs v+x
 | 0,i,h=>absurd h (qan _)
 | n+1,i,h=>by
  have h':i<zbi cs n+cs.getD n 0:=h;by_cases hi:i<zbi cs n
  .obtain⟨v,x,h1,h2,h3⟩:=zuj cs hi;exact⟨v,x,by omega,h2,h3⟩
  exact⟨n,i - zbi cs n,qaW n,by omega,by omega⟩
theorem zfF{cs:List Nat}(hc:∀ v,cs.getD v 0<=4):∀ n,zbi cs n<=4 * n
 | 0=>qap _
 | n+1=>by have:=zfF hc n; have:=hc n; simp only[zbi]; omega
def zhn(cs:List Nat)(w:Nat):List Nat:=(List.range cs.length).map (λv=>zbi cs v+(dig cs w).getD v 0)++ [zbi cs cs.length+2 * w]
def zlN(cs:List Nat):List Nat:=(List.range (zae cs)).map λw=>zbi cs cs.length+2 * w+1
structure FlatC (cs:List Nat) (wt:Nat->Nat) (gs:List S_api_Gate):Prop where
 len:gs.length=zbi cs cs.length+2 * zae cs+1
 is:∀ v x,v<cs.length->x<cs.getD v 0->gs[zbi cs v+x]? = some ⟨2,(v:Int),(x:Int),0,[]⟩
 num:∀ w,w<zae cs->gs[zbi cs cs.length+2 * w]? = some ⟨1,0,0,(wt w:Int),[]⟩
 pro:∀ w,w<zae cs->gs[zbi cs cs.length+2 * w+1]? = some ⟨4,0,0,0,iL (zhn cs w)⟩
 sum:gs[zbi cs cs.length+2 * zae cs]? = some ⟨3,0,0,0,iL (zlN cs)⟩
structure Fcs (cs:List Nat):Prop where
 one:1<=cs.length
 len:cs.length<=8
 card:∀ k∈cs,1<=k/\k<=4
 prod:zae cs<=1024
theorem Fcs.c8{cs:List Nat}(h:Fcs cs):∀ k∈cs,1<=k/\k<=8:=λk hk=>by have:=h.card k hk; omega
theorem Fcs.pos{cs:List Nat}(h:Fcs cs):0<zae cs:=zfB h.c8
theorem Fcs.c4{cs:List Nat}(h:Fcs cs)(v:Nat):cs.getD v 0<=4:=by
 rw[qaj];by_cases hv:v<cs.length
 .rw[qac hv]; exact(h.card _ (qas hv)).2
 rw[qaP (by omega)]; exact qaw _
theorem Fcs.dig{cs:List Nat}(h:Fcs cs){w v:Nat}(hw:w<zae cs)(hv:v<cs.length):(dig cs w).getD v 0<cs.getD v 0:=by
 have hd:v<(Go.Dc.dig cs w).length:=by rw[zcT]; exact hv
 rw[zap hd,zap hv];exact zeM.get (zfe h.c8 hw) v hd hv
section
variable {cs:List Nat} {wt:Nat->Nat} {gs:List S_api_Gate}
theorem FlatC.cases(hc:Fcs cs)(h:FlatC cs wt gs){i:Nat}(hi:i<gs.length):
  (∃ v x,v<cs.length/\x<cs.getD v 0/\i=zbi cs v+x/\gs[i]=⟨2,(v:Int),(x:Int),0,[]⟩)\/(∃ w,w<zae cs/\i=zbi cs cs.length+2 * w/\gs[i]=⟨1,0,0,(wt w:Int),[]⟩)\/
  (∃ w,w<zae cs/\i=zbi cs cs.length+2 * w+1/\gs[i]=⟨4,0,0,0,iL (zhn cs w)⟩)\/(i=zbi cs cs.length+2 * zae cs/\gs[i]=⟨3,0,0,0,iL (zlN cs)⟩):=by
 have hg:∀ {g:S_api_Gate},gs[i]? = some g->gs[i]=g:=λe=>by rw[qac hi]at e; exact qal e
 have hl:=h.len;by_cases h1:i<zbi cs cs.length
 .obtain⟨v,x,g1,g2,g3⟩:=zuj cs h1;exact .inl ⟨v,x,g1,g2,g3,hg (by rw[g3]; exact h.is v x g1 g2)⟩
 by_cases h2:i=zbi cs cs.length+2 * zae cs
 .exact .inr (.inr (.inr ⟨h2,hg (by rw[h2]; exact h.sum)⟩))
 obtain⟨d,hd⟩:∃ d,i=zbi cs cs.length+d:=⟨i - zbi cs cs.length,by omega⟩;rcases Nat.mod_two_eq_zero_or_one d with hm | hm
 .have e:i=zbi cs cs.length+2 * (d / 2):=by omega
  exact .inr (.inl ⟨d / 2,by omega,e,hg (by rw[e]; exact h.num _ (by omega))⟩)
 have e:i=zbi cs cs.length+2 * (d / 2)+1:=by omega
 exact .inr (.inr (.inl ⟨d / 2,by omega,e,hg (by rw[e]; exact h.pro _ (by omega))⟩))
theorem zoQ{f:Nat->Nat}{n:Nat}(h:∀ u v,u<v->v<n->f u<f v):((List.range n).map f).Pairwise (· < ·):=by
 rw[List.pairwise_map];exact(List.pairwise_lt_range (n:=n)).imp_of_mem λ{u v} hu hv huv=>h u v huv (qbq.1 hv)
theorem zwK(hc:Fcs cs){w:Nat}(hw:w<zae cs):(zhn cs w).Pairwise (· < ·)/\∀ a∈zhn cs w,a<zbi cs cs.length+2 * w+1:=by
 have hb:∀ v,v<cs.length->zbi cs v+(dig cs w).getD v 0<zbi cs (v+1):=λv hv=>by have:=hc.dig hw hv; simp only[zbi]; omega
 have hlt:∀ a∈(List.range cs.length).map (λv=>zbi cs v+(dig cs w).getD v 0),a<zbi cs cs.length:=λa ha=>by
  obtain⟨v,hv,rfl⟩:=qaJ.1 ha;have hv:=qbq.1 hv;exact qbb (hb v hv) (zhg cs (by omega))
 unfold zhn;refine⟨qcP.2 ⟨zoQ λu v huv hv=>?_,by simp,λa ha b hb=>by rw[qbf.1 hb]; have:=hlt a ha; omega⟩,λa ha=>?_⟩
 .have h1:=hb u (by omega);have h2:=zhg cs (show u+1<=v by omega);omega
 rcases qbv.1 ha with ha | ha
 .have:=hlt a ha; omega
 rw[qbf.1 ha]; omega
theorem FlatC.ok(hc:Fcs cs)(hw:∀ w,w<zae cs->wt w<=4611686018427387903)(h:FlatC cs wt gs):VG cs gs:=λi hi=>by
 rcases h.cases hc hi with⟨v,x,g1,g2,g3,e⟩| ⟨w,g1,g2,e⟩| ⟨w,g1,g2,e⟩| ⟨g1,e⟩
 .rw[e]; exact .is v x g1 g2
 .rw[e]; exact .num _ (hw w g1)
 .obtain⟨p1,p2⟩:=zwK hc g1;rw[e];exact .op 4 (.inr rfl) _ (by simp[zhn]) p1 λa ha=>by have:=p2 a ha; omega
 have hp:=hc.pos;rw[e];refine .op 3 (.inl rfl) _ ?_ (zoQ λu v huv hv=>by omega) λa ha=>?_
 .intro h0;have:=congrArg List.length h0;simp[zlN]at this;omega
 obtain⟨w,hw,rfl⟩:=qaJ.1 ha;have:=qbq.1 hw;omega
end
theorem zsi:∀ {cs:List Nat} {i j:Nat},i<zae cs->j<zae cs->dig cs i=dig cs j->i=j
 | [],i,j,h1,h2,_=>by
  have e:zae []=1:=rfl;omega
 | c :: cs,i,j,h1,h2,h=>by
  have h1':i<c * zae cs:=h1;have hp:0<zae cs:=by
   rcases qc2 (zae cs)with h0 | h0
   .rw[h0,qcJ]at h1'; exact absurd h1' (qan _)
   exact h0
  simp only[dig,qdi]at h;have:=zsi (qbM i hp) (qbM j hp) h.2;rw[<- qcs i (zae cs),<- qcs j (zae cs),h.1,this]
theorem zqa(f:Nat->Nat):∀ l r:List Nat,zeW f (l ++ r)=zeW f l+zeW f r
 | [],r=>by simp[zeW]
 | x :: l,r=>by simp only[qaL,zeW,zqa f l r,qbi]
theorem zhp(f g:Nat->Nat):∀ n:Nat,zeW f ((List.range n).map g)=zcw (λw=>f (g w)) n
 | 0=>rfl
 | n+1=>by rw[qcL,qb8,zqa,zhp f g n]; simp[zeW,zcw]
theorem zjc{a:Nat->Nat}:∀ {l:List Nat},(∀ t∈l,a t<=1)->za0 a l<=1
 | [],_=>qap 1
 | t :: l,h=>by
  have h1:=h t qao;have h2:=zjc λu hu=>h u (qai _ hu)
  exact qa9 h1 h2
theorem zjR{a:Nat->Nat}:∀ {l:List Nat} {t:Nat},t∈l->a t=0->za0 a l=0
 | x :: l,t,h,h0=>by
  simp only[za0];rcases qbc.1 h with rfl | h
  .rw[h0,qbZ]
  rw[zjR h h0,qcJ]
theorem zBt{a σ:Nat->Nat}{m:Nat}(hm:σ m<=1):∀ {l:List Nat} {pre:Nat},pre<=1->(∀ t∈l,a t<=1/\σ t<=1)->dP a σ pre (l ++ [m])<=l.length * a m+1
 | [],pre,hp,_=>by
  have:σ m * pre<=1 * 1:=qa9 hm hp;simp only[qbe,dP,za0,qbI,qaN,qbZ,qbo,qaK];exact this
 | t :: l,pre,hp,h=>by
  obtain⟨h1,h2⟩:=h t qao;have hl:=zBt hm (l:=l) (pre:=pre * a t) (qa9 hp h1) λu hu=>h u (qai _ hu)
  have h3:=zjc (a:=a) (l:=l) λu hu=>(h u (qai _ hu)).1
  have h4:za0 a (l ++ [m])<=1 * a m:=by
   rw[zgR];simp only[za0,qbI];exact qa9 h3 (qap _)
  have h5:σ t * (pre * za0 a (l ++ [m]))<=1 * (1 * (1 * a m)):=qa9 h2 (qa9 hp h4);simp only[qaL,dP,qaH,qaT];omega
section
variable {cs:List Nat} {wt:Nat->Nat} {gs:List S_api_Gate} {V:List Nat}
variable{g:S_api_Gate}
theorem zxj{i:Nat}(h:gs[i]? = some g):∃ hi:i<gs.length,gs[i]=g:=qab.1 h
theorem VsOk.at_(hV:VsOk gs V){i:Nat}(h:gs[i]? = some g):V.getD i 0=vw V g:=by
 obtain⟨hi,e⟩:=zxj h;rw[hV.get i hi,e]
theorem FlatC.zy9(hc:Fcs cs)(h:FlatC cs wt gs)(hV:VsOk gs V){w:Nat}(hw:w<zae cs)(k:Nat):zhx V k (zbi cs cs.length+2 * w+1)=decide (k<cs.length):=by
 rw[znh (.inr rfl) (hV.at_ (h.pro w hw)),qbE,qcY,qdr];constructor
 .rintro⟨a,ha,hb⟩;rcases qbv.1 ha with ha | ha
  .obtain⟨v,hv,rfl⟩:=qaJ.1 ha;have hv:=qbq.1 hv;rw[znf (hV.at_ (h.is v _ hv (hc.dig hw hv))),qdp]at hb;omega
  rw[qbf.1 ha,znD (hV.at_ (h.num w hw))]at hb;cases hb
 intro hk;refine⟨zbi cs k+(dig cs w).getD k 0,qcT _ (qaJ.2 ⟨k,qbq.2 hk,rfl⟩),?_⟩;rw[znf (hV.at_ (h.is k _ hk (hc.dig hw hk))),qdq]
theorem FlatC.zxW(hc:Fcs cs)(h:FlatC cs wt gs)(hV:VsOk gs V):∀ g∈gs,smG V g=true:=by
 intro g hg;obtain⟨i,hi,rfl⟩:=qbl.1 hg;rcases h.cases hc hi with⟨v,x,g1,g2,g3,e⟩| ⟨w,g1,g2,e⟩| ⟨w,g1,g2,e⟩| ⟨g1,e⟩
 .rw[e]; rfl
 .rw[e]; rfl
 .rw[e]; rfl
 rw[e];have eg:ga ⟨3,0,0,0,iL (zlN cs)⟩=zlN cs:=zew rfl;have hp:=hc.pos;have hh:(zlN cs).headD 0=zbi cs cs.length+2 * 0+1:=by
  obtain⟨m,hm⟩:∃ m,zae cs=m+1:=⟨zae cs - 1,by omega⟩;unfold zlN;rw[hm,List.range_succ_eq_map];rfl
 unfold smG;rw[eg,hh];show(zlN cs).all _=true;rw[qa2];intro a ha;obtain⟨w,hw,rfl⟩:=qaJ.1 ha;have hw:=qbq.1 hw;rw[qdp];refine qcS λk=>?_
 exact(h.zy9 hc hV hw k).trans (h.zy9 hc hV hp k).symm
theorem zp6:∀(l pre:List Nat),(∀ a∈l,∀ b∈pre,V.getD a 0 &&& V.getD b 0=0)->l.Pairwise (λb a=>V.getD a 0 &&& V.getD b 0=0)->zkr V pre l=true
 | [],_,_,_=>rfl
 | a :: l,pre,h1,h2=>by
  obtain⟨p1,p2⟩:=qbp.1 h2;simp only[zkr,qae,qa2,qdp];refine⟨λb hb=>h1 a qao b hb,zp6 l _ (λc hc b hb=>?_) p2⟩;rcases qbv.1 hb with hb | hb
  .exact h1 c (qai _ hc) b hb
  rw[qbf.1 hb]; exact p1 c hc
theorem zuH{u v:Nat}(h:u≠v):2 ^ v &&& 2 ^ u=0:=by
 refine qcS λk=>?_
 rw[Nat.testBit_and,qcx,qcx,qck];by_cases h1:v=k
 .rw[qdo (show ¬ u=k by omega),qcf]
 rw[qdo h1,Bool.false_and]
theorem FlatC.zBB(hc:Fcs cs)(h:FlatC cs wt gs)(hV:VsOk gs V):∀ g∈gs,dcG V g=true:=by
 intro g hg;obtain⟨i,hi,rfl⟩:=qbl.1 hg;rcases h.cases hc hi with⟨v,x,g1,g2,g3,e⟩| ⟨w,g1,g2,e⟩| ⟨w,g1,g2,e⟩| ⟨g1,e⟩
 .rw[e]; rfl
 .rw[e]; rfl
 .rw[e];have eg:ga ⟨4,0,0,0,iL (zhn cs w)⟩=zhn cs w:=zew rfl;have q:zfX 0 ((zhn cs w).map λa=>V.getD a 0)=zkr V [] (zhn cs w):=zkt (zhn cs w) [];have hv:∀ v,v<cs.length->V.getD (zbi cs v+(dig cs w).getD v 0) 0=2 ^ v:=λv hv=>by
   rw[hV.at_ (h.is v _ hv (hc.dig g1 hv))];show 2 ^ ((v:Nat):Int).toNat=_;rw[qaq]
  have hn:V.getD (zbi cs cs.length+2 * w) 0=0:=hV.at_ (h.num w g1);show zfX 0 ((ga ⟨4,0,0,0,iL (zhn cs w)⟩).map λa=>V.getD a 0)=true;rw[eg,q];refine zp6 _ _ (λa _ b hb=>nomatch hb) ?_;unfold zhn;refine qcP.2 ⟨?_,by simp,λa ha b hb=>by rw[qbf.1 hb,hn,Nat.zero_and]⟩;rw[List.pairwise_map];refine(List.pairwise_lt_range (n:=cs.length)).imp_of_mem λ{u v} hu hv' huv=>?_
  rw[hv u (qbq.1 hu),hv v (qbq.1 hv')];exact zuH (by omega)
 rw[e]; rfl
theorem zrR(a:Nat->Nat)(f:Nat->Bool):∀ l:List Nat,(∀ t∈l,f t=decide (0<a t))->l.any f=decide (0<zeW a l)
 | [],_=>rfl
 | t :: l,h=>by
  show(f t || l.any f)=decide (0<a t+zeW a l);rw[h t qao,zrR a f l λu hu=>h u (qai _ hu),qbE];simp only[qby,decide_eq_true_eq];omega
theorem zuP(a:Nat->Nat)(f:Nat->Bool):∀ l:List Nat,(∀ t∈l,f t=decide (0<a t))->l.all f=decide (0<za0 a l)
 | [],_=>rfl
 | t :: l,h=>by
  show(f t && l.all f)=decide (0<a t * za0 a l);rw[h t qao,zuP a f l λu hu=>h u (qai _ hu),qbE];simp only[qae,decide_eq_true_eq];constructor
  .rintro⟨h1,h2⟩; exact Nat.mul_pos h1 h2
  intro h;refine⟨Nat.pos_of_ne_zero λh0=>?_,Nat.pos_of_ne_zero λh0=>?_⟩
  .rw[h0,qbZ]at h; exact absurd h (qce 0)
  rw[h0,qcJ]at h; exact absurd h (qce 0)
theorem zw0{cs:List Nat}{gs:List S_api_Gate}(hg:∀ i (h:i<gs.length),GtOk cs i gs[i]){d:List Nat}(hd:d.length=cs.length){a:Nat->Nat}(ha:EvP (iL d) gs a)
  (hs:∀ i (h:i<gs.length) (ar:List Nat),gs[i]=⟨3,0,0,0,iL ar⟩->ar.countP (λt=>decide (0<a t))<=1):
  ∀(m i:Nat) (acc:List Bool),i+m=gs.length->acc.length=i->(∀ t,t<i->acc.getD t false=decide (0<a t))->okD d (gs.drop i) acc=true
 | 0,i,acc,hi,_,_=>by rw[qaD (by omega)]; rfl
 | m+1,i,acc,hi,hl,ht=>by
  have hlt:i<gs.length:=by omega
  rw[qat hlt];simp only[okD,qae];have hgi:=hg i hlt;have hai:=ha i hlt;have hsi:=hs i hlt;have key:pg acc gs[i]=true/\vg d acc gs[i]=decide (0<a i):=by
   rw[hai];generalize gs[i]=g at *;cases hgi with
   | num n hn=>
    refine⟨rfl,?_⟩;show decide (0<(n:Int))=decide (0<((n:Nat):Int).toNat);rw[qaq,decide_eq_decide]; omega
   | is v x hv hx=>
    refine⟨rfl,?_⟩;have hv':v<d.length:=by omega
    show(((d.getD ((v:Nat):Int).toNat 0:Nat):Int)==(x:Int))=decide (0<isV ((iL d).getD ((v:Nat):Int).toNat 0) (x:Int));rw[qaq,show(iL d).getD v 0=((d.getD v 0:Nat):Int) by rw[zap (by rw[zam]; exact hv'),zm1 hv',zap hv'],zls,zxn];cases(d.getD v 0 == x)<;> rfl
   | op q hq ar ne inc lt=>
    have e:ga ⟨q,0,0,0,iL ar⟩=ar:=zew rfl;have hm:∀ t∈ar,acc.getD t false=decide (0<a t):=λt htr=>ht t (lt t htr)
    rcases hq with rfl | rfl
    .constructor
     .show decide ((iL ar).countP (λt=>acc.getD t.toNat false)<=1)=true;rw[zi1 ar λt=>acc.getD t false,List.countP_congr (q:=λt=>decide (0<a t)) λt htr=>by rw[hm t htr],qdr];exact hsi ar rfl
     show((iL ar).any λt=>acc.getD t.toNat false)=decide (0<zeW a (ga _));rw[zwZ ar λt=>acc.getD t false,e];exact zrR a _ ar hm
    refine⟨rfl,?_⟩;show((iL ar).all λt=>acc.getD t.toNat false)=decide (0<za0 a (ga _));rw[zw3 ar λt=>acc.getD t false,e];exact zuP a _ ar hm
  refine⟨key.1,?_⟩;refine zw0 hg hd ha hs m (i+1) _ (by omega) (by simp[hl]) λt htl=>?_
  by_cases h2:t<i
  .rw[zjU (by omega)]; exact ht t h2
  obtain rfl:t=i:=by omega
  rw[qaj,qak (by omega),hl,qbw];exact key.2
end
theorem zuy{a b:List Nat}(h:iL a=iL b):a=b:=by
 have:=congrArg (List.map Int.toNat) h;simpa [iL,qbG]using this
theorem zhG(p:Nat->Bool)(j:Nat):∀ n:Nat,(∀ w,w<n->p w=true->w=j)->(List.range n).countP p<=if j<n then 1 else 0
 | 0,_=>qaw _
 | n+1,h=>by
  have ih:=zhG p j n λw hw=>h w (by omega)
  rw[qcL,List.countP_append];have h1:=h n (qaW n);cases hp:p n with
  | false=>
   simp only[List.countP_singleton,hp,qaQ,if_false,qbo];split<;>split at ih<;>omega
  | true=>
   have:=h1 hp;subst this;simp only[List.countP_singleton,hp,if_true];rw[if_pos (qaW _)];rw[if_neg (qce _)]at ih;omega
section
variable {cs:List Nat} {wt:Nat->Nat} {gs:List S_api_Gate} {inp:List Int} {a:Nat->Nat}
theorem EvP.at_(ha:EvP inp gs a){i:Nat}{g:S_api_Gate}(h:gs[i]? = some g):a i=ex inp a g:=by
 obtain⟨hi,e⟩:=zxj h;rw[ha i hi,e]
theorem FlatC.zB7(h:FlatC cs wt gs)(ha:EvP inp gs a){v x:Nat}(hv:v<cs.length)(hx:x<cs.getD v 0):a (zbi cs v+x)=isV (inp.getD v 0) (x:Int):=by
 rw[ha.at_ (h.is v x hv hx)];show isV (inp.getD ((v:Nat):Int).toNat 0) (x:Int)=_;rw[qaq]
variable{w:Nat}
theorem FlatC.zyk(h:FlatC cs wt gs)(ha:EvP inp gs a)(hw:w<zae cs):a (zbi cs cs.length+2 * w)=wt w:=by
 rw[ha.at_ (h.num w hw)];show((wt w:Nat):Int).toNat=_;rw[qaq]
theorem FlatC.zAo(h:FlatC cs wt gs)(ha:EvP inp gs a)(hw:w<zae cs):a (zbi cs cs.length+2 * w+1)=za0 a (zhn cs w):=by
 rw[ha.at_ (h.pro w hw)];show za0 a (ga _)=_;rw[zew rfl]
theorem FlatC.zCx(h:FlatC cs wt gs)(ha:EvP inp gs a):a (zbi cs cs.length+2 * zae cs)=zcw (λw=>a (zbi cs cs.length+2 * w+1)) (zae cs):=by
 rw[ha.at_ h.sum];show zeW a (ga _)=_;rw[zew rfl];exact zhp a _ _
theorem FlatC.zzt(hc:Fcs cs)(h:FlatC cs wt gs)(ha:EvP inp gs a)(hw:w<zae cs):∀ t∈(List.range cs.length).map (λv=>zbi cs v+(dig cs w).getD v 0),a t<=1/\t<zbi cs cs.length:=λt ht=>by
 obtain⟨v,hv,rfl⟩:=qaJ.1 ht;have hv:=qbq.1 hv;have hd:=hc.dig hw hv;rw[h.zB7 ha hv hd];have:=zhg cs (show v+1<=cs.length by omega);simp only[zbi]at this;exact⟨zpV _ _,by omega⟩
theorem FlatC.zxS(hc:Fcs cs)(h:FlatC cs wt gs)(ha:EvP inp gs a)(hw:w<zae cs):a (zbi cs cs.length+2 * w+1)<=wt w:=by
 rw[h.zAo ha hw];unfold zhn;rw[zgR];simp only[za0,qbI];rw[h.zyk ha hw];have:=qa9 (zjc λt ht=>(h.zzt hc ha hw t ht).1) (qap (wt w));rw[qbS]at this;exact this
theorem ziw{f g:Nat->Nat}:∀ {n:Nat},(∀ x,x<n->f x<=g x)->zcw f n<=zcw g n
 | 0,_=>qap _
 | n+1,h=>Nat.add_le_add (ziw λx hx=>h x (qcN hx)) (h n (qaW n))
theorem zh5(f:Nat->Nat):∀ {n w:Nat},w<n->f w<=zcw f n
 | 0,_,h=>absurd h (qan _)
 | n+1,w,h=>by
  simp only[zcw];by_cases hw:w=n
  .rw[hw]; exact qcK _ _
  have:=zh5 f (show w<n by omega); omega
theorem FlatC.lt(hc:Fcs cs)(h:FlatC cs wt gs)(ha:EvP inp gs a)(hW:8 * zcw wt (zae cs)+zae cs+1<zbc):∀ t,t<gs.length->a t<zbc:=λt ht=>by
 have hT:=zfh;rcases h.cases hc ht with⟨v,x,g1,g2,g3,e⟩| ⟨w,g1,g2,e⟩| ⟨w,g1,g2,e⟩| ⟨g1,e⟩
 .rw[g3,h.zB7 ha g1 g2]; have:=zpV (inp.getD v 0) (x:Int); omega
 .rw[g2,h.zyk ha g1]; have:=zh5 wt g1; omega
 .rw[g2]; have:=h.zxS hc ha g1; have:=zh5 wt g1; omega
 rw[g1,h.zCx ha];have:zcw (λw=>a (zbi cs cs.length+2 * w+1)) (zae cs)<=zcw wt (zae cs):=ziw λw hw=>h.zxS hc ha hw
 omega
theorem FlatC.det(hc:Fcs cs)(hw:∀ w,w<zae cs->wt w<=4611686018427387903)(h:FlatC cs wt gs){j:Nat}(hj:j<zae cs):okD (dig cs j) gs []=true:=by
 have hg:=h.ok hc hw;obtain⟨a,ha⟩:=zzs hg (iL (dig cs j));have:=zw0 hg (zcT cs j) ha (λi hi ar e=>?_) gs.length 0 [] (by omega) rfl λt ht=>absurd ht (qan _)
 .rwa [qa8]at this
 rcases h.cases hc hi with⟨v,x,g1,g2,g3,e'⟩| ⟨w,g1,g2,e'⟩| ⟨w,g1,g2,e'⟩| ⟨g1,e'⟩
 .rw[e']at e; exact absurd (congrArg S_api_Gate.kind e) (by decide:¬ ((2:Int)=3))
 .rw[e']at e; exact absurd (congrArg S_api_Gate.kind e) (by decide:¬ ((1:Int)=3))
 .rw[e']at e; exact absurd (congrArg S_api_Gate.kind e) (by decide:¬ ((4:Int)=3))
 rw[e']at e;have har:ar=zlN cs:=(zuy (congrArg S_api_Gate.args e)).symm;subst har;unfold zlN;rw[qdj];have:=zhG ((λt=>decide (0<a t)) ∘ λw=>zbi cs cs.length+2 * w+1) j (zae cs) λw hw hp=>by
  rw[qb3,qdr,h.zAo ha hw]at hp;refine zsi hw hj (qcX (by rw[zcT,zcT]) λv v1 v2=>?_);have hv:v<cs.length:=by rw[zcT]at v1; exact v1
  have hd:=hc.dig hw hv;have hm:zbi cs v+(dig cs w).getD v 0∈zhn cs w:=qcT _ (qaJ.2 ⟨v,qbq.2 hv,rfl⟩);have hne:a (zbi cs v+(dig cs w).getD v 0)≠0:=λh0=>by
   rw[zjR hm h0]at hp;exact absurd hp (qce 0)
  have hil:(iL (dig cs j)).getD v 0=(((dig cs j).getD v 0:Nat):Int):=by rw[zap (by rw[zam]; exact v2),zm1 v2,zap v2]
  rw[h.zB7 ha hv hd,hil,zls]at hne;cases hq:((dig cs j).getD v 0 ==(dig cs w).getD v 0)with
  | false=>rw[hq]at hne; exact absurd rfl hne
  | true=>
   have:=beq_iff_eq.1 hq;rw[zap v2,zap v1]at this;exact this.symm
 rw[if_pos hj]at this;exact this
def zu5(cs:List Nat)(wt:Nat->Nat)(i:Nat):Nat:=
 if i<zbi cs cs.length then 1 else if i=zbi cs cs.length+2 * zae cs then 8 * zcw wt (zae cs)+zae cs+1 else if(i - zbi cs cs.length) % 2=0 then 1 else 8 * wt ((i - zbi cs cs.length) / 2)+1
theorem zya{i:Nat}(h:i<zbi cs cs.length):zu5 cs wt i=1:=if_pos h
theorem zvx(h:w<zae cs):zu5 cs wt (zbi cs cs.length+2 * w)=1:=by
 unfold zu5;rw[if_neg (by omega),if_neg (by omega),if_pos (by omega)]
theorem zpn(h:w<zae cs):zu5 cs wt (zbi cs cs.length+2 * w+1)=8 * wt w+1:=by
 unfold zu5;rw[if_neg (by omega),if_neg (by omega),if_neg (by omega),show(zbi cs cs.length+2 * w+1 - zbi cs cs.length) / 2=w by omega]
theorem zpW:zu5 cs wt (zbi cs cs.length+2 * zae cs)=8 * zcw wt (zae cs)+zae cs+1:=by
 unfold zu5;rw[if_neg (by omega),if_pos rfl]
theorem zpO(wt:Nat->Nat):∀ n:Nat,zcw (λw=>8 * wt w+1) n=8 * zcw wt n+n
 | 0=>rfl
 | n+1=>by simp only[zcw,zpO wt n]; omega
theorem FlatC.sg(hc:Fcs cs)(h:FlatC cs wt gs)(ha:EvP inp gs a):Sg gs a (zu5 cs wt):=by
 refine⟨λi hi=>?_,λi hi ar e=>?_,λi hi ar e=>?_⟩
 .unfold zu5; split
  .exact qap _
  split
  .exact qcK _ _
  split
  .exact qap _
  exact qcK _ _
 .rcases h.cases hc hi with⟨v,x,g1,g2,g3,e'⟩| ⟨w,g1,g2,e'⟩| ⟨w,g1,g2,e'⟩| ⟨g1,e'⟩
  .rw[e']at e; exact absurd (congrArg S_api_Gate.kind e) (by decide:¬ ((2:Int)=3))
  .rw[e']at e; exact absurd (congrArg S_api_Gate.kind e) (by decide:¬ ((1:Int)=3))
  .rw[e']at e; exact absurd (congrArg S_api_Gate.kind e) (by decide:¬ ((4:Int)=3))
  rw[e']at e;have har:ar=zlN cs:=(zuy (congrArg S_api_Gate.args e)).symm;subst har;rw[g1,zpW];unfold zlN;rw[zhp,zbz (g:=λw=>8 * wt w+1) λw hw=>zpn hw,zpO];exact Nat.le_succ _
 rcases h.cases hc hi with⟨v,x,g1,g2,g3,e'⟩| ⟨w,g1,g2,e'⟩| ⟨w,g1,g2,e'⟩| ⟨g1,e'⟩
 .rw[e']at e; exact absurd (congrArg S_api_Gate.kind e) (by decide:¬ ((2:Int)=4))
 .rw[e']at e; exact absurd (congrArg S_api_Gate.kind e) (by decide:¬ ((1:Int)=4))
 .rw[e']at e;have har:ar=zhn cs w:=(zuy (congrArg S_api_Gate.args e)).symm;subst har;rw[g2,zpn g1];unfold zhn;have hl:=hc.len;have hd:=zBt (a:=a) (σ:=zu5 cs wt) (m:=zbi cs cs.length+2 * w) (Nat.le_of_eq (zvx g1)) (l:=(List.range cs.length).map λv=>zbi cs v+(dig cs w).getD v 0) (pre:=1) (qap _)
   λt ht=>⟨(h.zzt hc ha g1 t ht).1,Nat.le_of_eq (zya (h.zzt hc ha g1 t ht).2)⟩
  rw[h.zyk ha g1,qaX,List.length_range]at hd;have:cs.length * wt w<=8 * wt w:=qaE _ hl;omega
 rw[e']at e; exact absurd (congrArg S_api_Gate.kind e) (by decide:¬ ((3:Int)=4))
end
variable{c:S_api_Circuit}
theorem zuq{input:List Int}{vals:List Nat}(hr:ztE c input=true)(h:zdI input [] c.gates=some vals):zaU c input=some (((vals.getD (vals.length - 1) 0:Nat):Int),0):=by
 unfold zaU;rw[hr,qdl,h]
theorem zu6{cs:List Nat}{wt:Nat->Nat}(hc:Fcs cs)(hcd:c.cards=iL cs)(h:FlatC cs wt c.gates)(hW:8 * zcw wt (zae cs)+zae cs+1<zbc){e:List Int}(hel:e.length=cs.length)(hin:∀ u (h1:u<cs.length) (h2:u<e.length),-1<=e[u]/\e[u]<(cs[u]:Int)){k:Nat}(hk:k<cs.length):
  zbK c=some (true,true,true,0)/\∃(rows:List (List Nat)) (root:Nat),zbs c e=some (rows.map iL,0)/\DimR cs rows/\zaU c e=some ((root:Int),0)/\root<zbc /\
   (∀ x:Nat,x<cs.getD k 0->zaU c (e.set k (x:Int))=some (((zeX rows k x:Nat):Int),0))/\(e.getD k 0 = -1->root=zcw (zeX rows k) (cs.getD k 0))/\(∀ y:Nat,y<cs.getD k 0->e.getD k 0=(y:Int)->root=zeX rows k y):=by
 have hT:=zfh;have hwt:∀ w,w<zae cs->wt w<=4611686018427387903:=λw hw=>by have:=zh5 wt hw; omega
 have hVG:=h.ok hc hwt;have hl:=h.len;have hob:=zfF hc.c4 cs.length;have hp:=hc.prod;have hcl:=hc.len;have hC:COk cs c:=⟨hcd,hc.one,hc.len,hc.c8,hc.prod,by omega,by omega,hVG⟩;have hcirc:=hC.zBV λk hk=>(hc.card k hk).2
 obtain⟨V,hV⟩:=hC.vars;have hsm:=h.zxW hc hV;have hdc:=h.zBB hc hV;obtain⟨b,hK,hb⟩:=zxY hC hcirc hV;have hbt:b=true:=hb.2 λj hj=>h.det hc hwt hj
 rw[hbt,qa2.2 hsm,qa2.2 hdc]at hK;refine⟨hK,?_⟩;obtain⟨a,ha⟩:=zzs hC.gate e;have hbx:∀ x:Nat,∃ bx,EvP (e.set k (x:Int)) c.gates bx:=λx=>zzs hC.gate _
 have hS:SD cs c.gates V e k a (λx=>Classical.choose (hbx x)):=⟨hC.gate,hV,hsm,hdc,hk,hel,ha,λx=>Classical.choose_spec (hbx x)⟩;generalize (λx=>Classical.choose (hbx x))=b at hS;have halt:=h.lt hc ha hW;obtain⟨vals,hev⟩:=zAT hC.gate ha halt;obtain⟨v1,v2⟩:=zuo hC.gate ha hev;have hrun:=hC.run hcirc hel hin;have hgl:c.gates.length - 1=zbi cs cs.length+2 * zae cs:=by omega
 have hm:1<=c.gates.length:=by omega
 obtain⟨rows,hder⟩:=zvN hC.gate (λt ht=>(v2 t ht).1) (h.sg hc ha) hm (by rw[hgl,zpW]; exact hW);have hpos:=hc.pos;have hp:zhx V k (c.gates.length - 1)=true:=by
  rw[hgl,znh (.inl rfl) (hV.at_ h.sum),qcY];exact⟨_,qaJ.2 ⟨0,qbq.2 hpos,rfl⟩,(h.zy9 hc hV hpos k).trans (qdn hk)⟩
 obtain⟨hR,hcell⟩:=zzo hS (λt ht=>(v2 t ht).1) hm hder hp;have hE:=zuq hrun hev;rw[v1,(v2 _ (by omega)).1]at hE;have hcs:c.cards.map Int.toNat=cs:=by rw[hcd]; simp[iL,qbG]
 have hD:zbs c e=some (rows.map iL,0):=by
  have:zxJ cs c e=some rows:=by unfold zxJ; rw[hev]; exact hder
  unfold zbs;rw[hrun,qdl,hcs,this]
 have hX:∀ x:Nat,x<cs.getD k 0->zaU c (e.set k (x:Int))=some (((zeX rows k x:Nat):Int),0):=λx hx=>by
  have hlen:(e.set k (x:Int)).length=cs.length:=by rw[qaG,hel]
  have hcd2:cs.getD k 0=cs[k]:=zap hk;have hrx:ztE c (e.set k (x:Int))=true:=hC.run hcirc hlen λu u1 u2=>by
   rw[List.getElem_set];split
   .next q=>subst q; omega
   exact hin u u1 (by rw[qaG]at u2; exact u2)
  obtain⟨vx,hvx⟩:=zAT hC.gate (hS.b x) (h.lt hc (hS.b x) hW);obtain⟨w1,w2⟩:=zuo hC.gate (hS.b x) hvx;have:=zuq hrx hvx;rw[w1,(w2 _ (by omega)).1,<- hcell x]at this;exact this
 refine⟨rows,a (c.gates.length - 1),hD,hR,hE,(v2 _ (by omega)).2,hX,λhno=>?_,λy hy hey=>?_⟩
 .rw[hS.add hno c.gates.length (c.gates.length - 1) (by omega) (by omega) hp];exact zbz λx _=>(hcell x).symm
 have hke:k<e.length:=by omega
 have hset:e.set k (y:Int)=e:=by
  rw[<- hey,zap hke];exact List.set_getElem_self hke
 have:=hX y hy;rw[hset,hE]at this;have:=congrArg Prod.fst (qal this);exact Int.ofNat_inj.1 this
end Go.Dc
