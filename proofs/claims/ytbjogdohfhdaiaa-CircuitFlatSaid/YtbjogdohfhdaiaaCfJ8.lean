/-
 Plain laws: what is reached in a net. Conditions: none.
-/
import Derived.Test.YtbjogdohfhdaiaaCfJ7
set_option linter.unusedSimpArgs false
set_option linter.unusedVariables false
namespace Go.Dc
open Go Go.Mx Go.Lx
inductive Reach (ms:List Nat):Nat->Nat->Prop
 | refl (i:Nat):Reach ms i i
 | step {s p i:Nat}:(ms.getD s 0).testBit p=true->Reach ms p i->Reach ms s i
theorem zs2{xs:List Nat}{i:Nat}(h:i<xs.length):zaC (iL xs) (i:Int)=some ((xs.getD i 0:Nat):Int):=by
 rw[zaz h]; simp[h]
theorem Reach.tr{ms:List Nat}{a b c:Nat}(h1:Reach ms a b)(h2:Reach ms b c):Reach ms a c:=by
 induction h1 with
 | refl=>exact h2
 | step e _ ih=>exact .step e (ih h2)
def cnt(n s:Nat):Nat:=(List.range n).countP (s.testBit ·)
def zz6(m:Int):Int->List Int->Prop
 | _,[]=>True
 | lo,p :: r=>lo<p/\p<m/\zz6 m p r
theorem zz6.of{m:Nat}:∀ {qs:List Nat} {lo:Int},qs.Pairwise (· < ·)->(∀ q∈qs,lo<(q:Int))->(∀ q∈qs,q<m)->zz6 m lo (iL qs)
 | [],lo,_,_,_=>trivial
 | q :: r,lo,h,h1,h2=>by
  obtain⟨h3,h4⟩:=qbp.1 h;show lo<(q:Int)/\(q:Int)<(m:Int)/\zz6 m (q:Int) (iL r);refine⟨h1 q qao,by have:=h2 q qao; omega,zz6.of h4 (λp hp=>by have:=h3 p hp; omega) λp hp=>h2 p (qai _ hp)⟩
theorem zho(cs:List Nat)(c:Nat):zae (cs ++ [c])=zae cs * c:=by
 induction cs with
 | nil=>simp[zae]
 | cons x xs ih=>show x * zae (xs ++ [c])=x * zae xs * c; rw[ih,qbj]
theorem zzf{cs:List Nat}(h:∀ c∈cs,1<=c/\c<=4)(hl:cs.length<=8):zae cs<=65536:=
 qax (zhY (m:=4) (by omega) λx hx=>(h x hx).2) (qax (qbu (by decide) hl) (by decide))
structure BndX (k:Nat) (x:S_api_Node):Prop where
 par:x.parents.length<=k
 rows:x.rows.length<=k
 row:∀ r∈x.rows,r.length<=k
structure BndK (k:Nat) (d:S_api_Net):Prop where
 nodes:d.nodes.length<=k
 node:∀ x∈d.nodes,BndX k x
theorem BndX.mono{k m:Nat}{x:S_api_Node}(h:BndX k x)(hk:k<=m):BndX m x:=⟨qax h.par hk,qax h.rows hk,λr hr=>qax (h.row r hr) hk⟩
theorem BndK.mono{k m:Nat}{d:S_api_Net}(h:BndK k d)(hk:k<=m):BndK m d:=⟨qax h.nodes hk,λx hx=>(h.node x hx).mono hk⟩
theorem Sub.tr{a b c:Nat}(h1:Sub a b)(h2:Sub b c):Sub a c:=λi h=>h2 i (h1 i h)
theorem zCE{v:Nat}(h:v<64):IntKind.u64.wrap (v:Int)=(v:Int):=zbu (by omega)
structure RN where
 c:Nat
 ps:List Nat
 rows:List (List Int)
def rd(x:RN):S_api_Node:=⟨x.c,iL x.ps,x.rows⟩
def ziP:List Nat->Nat->List Nat
 | [],_=>[]
 | c :: cs,w=>(w / zae cs):: ziP cs (w % zae cs)
theorem zh0:∀(cs:List Nat) (w:Nat),(ziP cs w).length=cs.length
 | [],_=>rfl
 | c :: cs,w=>by simp[ziP,zh0 cs]
theorem zhu(c:Nat)(cs:List Nat):zae (c :: cs)=c * zae cs:=rfl
theorem zol:∀ {cs:List Nat} {w:Nat},w<zae cs->∀(i:Nat) (h:i<cs.length),(ziP cs w).getD i 0<cs[i]
 | [],_,_,i,h=>absurd h (qan _)
 | c :: cs,w,hw,i,h=>by
  rw[zhu]at hw;have hp:0<zae cs:=Nat.pos_of_ne_zero λh0=>by rw[h0,qcJ]at hw; omega
  cases i with
  | zero=>
   show w / zae cs<c;exact(qdd hp).2 hw
  | succ i=>
   show(ziP cs (w % zae cs)).getD i 0<cs[i]'(by simpa using h);exact zol (qbM _ hp) i (by simpa using h)
def plc:Nat->List Nat->List (Int×Int)
 | _,[]=>[]
 | p,v :: vs=>((p:Int),(v:Int)):: plc (p+1) vs
theorem zso{a b:Nat}(hb:0<b)(ha:a<9223372036854775808):zqO .i64 (a:Int) (b:Int)=some ((a / b:Nat):Int):=by
 unfold zqO;rw[show((b:Int)== 0)=false by rw[qdt]; omega,qdm,show((a:Int).tdiv (b:Int))=((a / b:Nat):Int)from rfl];congr 1
 have:a / b<=a:=Nat.div_le_self a b;exact zaF (by omega)
theorem zs9:∀ {cs:List Nat} {w p:Nat},(∀ c∈cs,1<=c)->w<zae cs->zae cs<=65536->zuZ (iL cs) ((zae cs:Nat):Int) (w:Int) p=some (plc p (ziP cs w))
 | [],_,_,_,_,_=>rfl
 | c :: cs,w,p,hc,hw,hb=>by
  rw[zhu]at hw hb;have hc1:=hc c qao;have hp:1<=zae cs:=zdH λx hx=>hc x (qai _ hx)
  have hle:zae cs<=c * zae cs:=Nat.le_mul_of_pos_left _ hc1;have e:c * zae cs / c=zae cs:=Nat.mul_div_cancel_left _ hc1;show zuZ ((c:Int):: iL cs) ((c * zae cs:Nat):Int) (w:Int) p=_;unfold zuZ;rw[zso hc1 (by omega),qaa,e,zso hp (by omega),qaa,zoF hp,qaa,zs9 (λx hx=>hc x (qai _ hx)) (qbM _ hp) (by omega)];rfl
theorem znc{n:Nat}:∀(vs pre:List Nat),pre.length+vs.length<=1000->zau n (plc pre.length vs) (iL (pre ++ List.replicate vs.length 0))=some (iL (pre ++ vs))
 | [],pre,_=>by simp[plc,zau]
 | v :: vs,pre,h=>by
  have ih:=znc (n:=n) vs (pre ++ [v]) (by simp at h ⊢; omega);rw[show(pre ++ [v]).length=pre.length+1 by simp,show pre ++ [v]++ List.replicate vs.length 0=pre ++ v :: List.replicate vs.length 0 by simp,show pre ++ [v]++ vs=pre ++ v :: vs by simp]at ih;show zau n (((pre.length:Int),(v:Int)):: plc (pre.length+1) vs) _=_;unfold zau;rw[qaH,qaU,zdw,qaa,zgX,qaa,ih]
structure CsOk (cs:List Nat):Prop where
 len:cs.length<=8
 card:∀ c∈cs,1<=c/\c<=4
 prod:zae cs<=1024
theorem zrP{cs:List Nat}(h:CsOk cs):∀(n:Nat) (xs ys:List Nat),xs ++ ys=cs->ys.length<n->za3 (iL cs) n ((zae xs:Nat):Int) (xs.length:Int)=some (((zae cs:Nat):Int),true)
 | 0,_,_,_,h=>absurd h (qan _)
 | n+1,xs,[],h1,h3=>by
  rw[qaY]at h1;subst h1;unfold za3;rw[zam,zaq,qdo (by omega),qdm]
 | n+1,xs,y :: ys,h1,h3=>by
  have hl:=h.len;have hxn:xs.length<cs.length:=by rw[<- h1]; simp
  have hy:cs[xs.length]=y:=by simp[<- h1]
  have hyc:=h.card y (by rw[<- h1]; simp)
  have hb:zae (xs ++ [y])<=65536:=zzf (λc hc=>h.card c (by
   rw[<- h1];rcases qbv.1 hc with hc | hc
   .exact qcT _ hc
   rw[qbf.1 hc]; simp)) (by rw[<- h1]at hl; simp at hl ⊢; omega)
  have hb2:zae (xs ++ [y])<=zae cs:=by
   have:∀(ys:List Nat),(∀ c∈ys,1<=c)->∀ xs,zae xs<=zae (xs ++ ys):=by
    intro ys;induction ys with
    | nil=>intro _ xs; simp
    | cons z zs ih=>
     intro hz xs;have h6:=ih (λc hc=>hz c (qai _ hc)) (xs ++ [z]);rw[zho]at h6;have h7:=hz z qao;have h8:zae xs<=zae xs * z:=qa7 _ h7;rw[show xs ++ [z]++ zs=xs ++ z :: zs by simp]at h6;omega
   have:=this ys (λc hc=>(h.card c (by rw[<- h1]; simp[hc])).1) (xs ++ [y]);rw[show xs ++ [y]++ ys=cs by rw[<- h1]; simp]at this;exact this
  have hp:=h.prod;have ih:=zrP h n (xs ++ [y]) ys (by rw[<- h1]; simp) (by simp at h3; omega);rw[show(xs ++ [y]).length=xs.length+1 by simp,zho]at ih;rw[zho]at hb hb2;unfold za3
  rw[zam,zaq,qdn hxn,qdl,zaz hxn,hy,qaa,show decide ((y:Int)<1)=false from qdo (by omega),qdm,show decide ((8:Int)<(y:Int))=false from qdo (by omega),qdm,
   <- qa4,zaF (by omega),show decide ((4096:Int)<((zae xs * y:Nat):Int))=false from qdo (by omega),qaa,qdm,zak (by omega),ih]
theorem zvQ{cs:List Nat}(h:CsOk cs):zbW (iL cs)=some (((zae cs:Nat):Int),true):=by
 have hl:=h.len;have e:=zrP h (cs.length+2) [] cs rfl (by omega);rw[qaN,show((0:Nat):Int)=0 from rfl,show((zae []:Nat):Int)=1 from rfl]at e;unfold zbW;rw[zam,show decide ((12:Int)<((cs.length:Nat):Int))=false from qdo (by omega),qdm,zaJ,e,qaa]
theorem zrO{cs:List Nat}(h:CsOk cs){w:Nat}(hw:w<zae cs):zb2 (iL cs) (w:Int)=some (iL (ziP cs w),0):=by
 have hl:=h.len;have hp:=h.prod;have e:=znc (n:=cs.length) (ziP cs w) [] (by rw[zh0]; simp; omega);rw[qbe,qbe,qaN,zh0]at e;have hz:List.replicate cs.length (0:Int)=iL (List.replicate cs.length 0):=by simp[iL]
 unfold zb2;rw[zvQ h,qaa];simp only[];rw[qdl,show decide ((w:Int)<0)=false from qdo (by omega),qdm,show decide (((zae cs:Nat):Int)<=(w:Int))=false from qdo (by omega),qaa,qdm];unfold zee;rw[qaa];unfold zbU;rw[zam,zdT (by omega),qaa];unfold zzg;have hs:zeh (iL cs)=some ():=by
  unfold zeh;rw[if_pos (by rw[zam]; omega)]
 simp only[];rw[hs,qaa,zs9 (λc hc=>(h.card c hc).1) hw (by omega),qaa,hz,e,qaa,qaa]
theorem BndK.set{k t:Nat}{g:Int}{d:S_api_Net}{y:S_api_Node}(h:BndK k d)(hy:BndX k y):BndK k ⟨g,d.nodes.set t y⟩:=
 ⟨by simpa using h.nodes,λx hx=>by
  rcases qbg hx with hx | hx
  .exact h.node x hx
  rw[hx]; exact hy⟩
def zwo:Nat->List (Nat×Nat)->Nat
 | a,[]=>a
 | a,(c,v):: r=>zwo (a * c+v) r
theorem zrw:∀(l:List (Nat×Nat)) (a:Nat),(∀ x∈l,x.2<x.1)->zwo a l<(a+1)* zae (l.map (·.1))/\a<=zwo a l
 | [],a,_=>by simp[zwo,zae]
 |(c,v):: l,a,h=>by
  have h1:v<c:=h (c,v) qao;obtain⟨g1,g2⟩:=zrw l (a * c+v) λx hx=>h x (qai _ hx)
  have h2:a * c+v+1<=(a+1)* c:=by rw[qaT]; omega
  constructor
  .refine qbb g1 ?_;rw[qaS,zhu,<- qbj];exact qaE _ h2
  have:a<=a * c:=qa7 _ (by omega);exact qax (by omega) g2
def cvs(cs ds ps:List Nat):List (Nat×Nat):=ps.map λp=>(cs.getD p 0,ds.getD p 0)
theorem zlR{x:S_api_Node}{r1:S_net_network×Int}{r4:List Int×Int}{cs ds ps:List Nat}(h1:r1.1.cards=iL cs)(h4:r4.1=iL ds)(hx:x.parents=iL ps)(hp:∀ p∈ps,p<cs.length)(hd:ds.length=cs.length)(hl:ps.length<=8)
  (hlt:∀ p∈ps,ds.getD p 0<cs.getD p 0):∀(n i a:Nat),i<=ps.length->(a+1)* zae ((ps.drop i).map λp=>cs.getD p 0)<=65536->ps.length - i<n ->
  zci x r1 r4 n (a:Int) (i:Int)=some ((zwo a (cvs cs ds (ps.drop i)):Nat):Int)
 | 0,_,_,_,_,h=>absurd h (qan _)
 | n+1,i,a,h2,h5,h3=>by
  unfold zci;rw[hx,zam,zaq];by_cases hi:i<ps.length
  .have hdr:ps.drop i=ps[i]:: ps.drop (i+1):=qat hi;have hpi:=qas hi;have h6:=hp _ hpi;have h7:=hlt _ hpi;have h5':(a+1)* (cs.getD ps[i] 0 * zae ((ps.drop (i+1)).map λp=>cs.getD p 0))<=65536:=by rw[hdr]at h5; exact h5
   rw[<- qbj]at h5';have hq:1<=zae ((ps.drop (i+1)).map λp=>cs.getD p 0):=zdH λc hc=>by
    obtain⟨p,hpm,rfl⟩:=qaJ.1 hc;have:=hlt p (qcc hpm);omega
   have hac:(a+1)* cs.getD ps[i] 0<=65536:=qax (qa7 _ hq) h5';have hac2:a * cs.getD ps[i] 0+ds.getD ps[i] 0+1<=(a+1)* cs.getD ps[i] 0:=by rw[qaT]; omega
   have ih:=zlR h1 h4 hx hp hd hl hlt n (i+1) (a * cs.getD ps[i] 0+ds.getD ps[i] 0) hi (qax (qaE _ hac2) h5') (by omega);rw[qdn hi,qdl,zaz hi,qaa,h1,zs2 h6,qaa,h4,zs2 (by omega),qaa,<- qa4,zaF (by omega),<- qbY,zaF (by omega),zak (by omega),ih,hdr];rfl
  rw[qdo hi,qdm,qaD (by omega)];rfl
theorem RightN.cs{g:Nat}{ns:List NN}(h:RightN g ns):CsOk (ns.map (·.c)):=by
 refine⟨by have:=h.n2; simpa using this,λc hc=>?_,h.prod⟩;obtain⟨x,hx,rfl⟩:=qaJ.1 hc;exact h.card x hx
theorem zD6{a:Int}{v:Nat}:∃ q,zkk .u8 a (v:Int)=some q:=zpe .u8 a
structure EvOk (cs:List Nat) (e:List Int):Prop where
 len:e.length=cs.length
 lo:∀ v,v<cs.length -> -1<=e.getD v (-1)
 hi:∀ v,v<cs.length->e.getD v (-1)<(cs.getD v 0:Nat)
structure KnOk (k:S_haruspexref05_Known):Prop where
 v:∀ x∈[k.v.a0,k.v.a1,k.v.a2,k.v.a3,k.v.a4,k.v.a5,k.v.a6,k.v.a7],0<=x/\x<=255
theorem zrz{ns:List NN}{g:Nat}{k:S_haruspexref05_Known}(hk:KnOk k)(hn:ns.length<=8)(hc:∀ x∈ns,1<=x.c):∀(n i:Nat) (acc:List Int),i<=ns.length->acc.length=i->(∀ v,v<i -> -1<=acc.getD v (-1)/\acc.getD v (-1)<((ns.map (·.c)).getD v 0:Nat))->ns.length - i<n ->
  ∃ out,zbF (zcS g ns) k n (i:Int) acc=some out/\EvOk (ns.map (·.c)) out
 | 0,_,_,_,_,_,h=>absurd h (qan _)
 | n+1,i,acc,h1,h2,h4,h3=>by
  unfold zbF;have hnl:(zcS g ns).nodes.length=ns.length:=by simp[zcS]
  rw[hnl,zaq];by_cases hi:i<ns.length
  .obtain⟨q,hq⟩:=zD6 (a:=k.which) (v:=i);rw[qdn hi,qdl,zCE (by omega),hq,qaa];have key:∃ y:Int,((bif ((ziu .u8 q 1)== 1)then((zaC [k.v.a0,k.v.a1,k.v.a2,k.v.a3,k.v.a4,k.v.a5,k.v.a6,k.v.a7] (i:Int)).bind λx5=>(zaC (zcS g ns).nodes (i:Int)).bind λx7=>(znx (w64 x5) x7.card).bind λq9=>some q9)else some (-1)):Option Int)=some y/\-1<=y/\y<((ns.map (·.c)).getD i 0:Nat):=by
    have hcx:=hc _ (qas hi);have hci:(ns.map (·.c)).getD i 0=ns[i].c:=by rw[qaj,qaO,qac hi]; rfl
    rw[hci];cases(ziu .u8 q 1)== 1 with
    | false=>exact⟨-1,rfl,by omega,by omega⟩
    | true=>
     obtain⟨x5,h5,h6⟩:∃ x,zaC [k.v.a0,k.v.a1,k.v.a2,k.v.a3,k.v.a4,k.v.a5,k.v.a6,k.v.a7] (i:Int)=some x/\0<=x/\x<=255:=⟨_,zax (by simp; omega),hk.v _ (qas _)⟩;refine⟨(w64 x5).tmod ((ns[i].c:Nat):Int),?_,?_,?_⟩
     .rw[qdl,h5,qaa,show zaC (zcS g ns).nodes (i:Int)=some (nd ns[i])from zcq hi,qaa,show(nd ns[i]).card=((ns[i].c:Nat):Int)from rfl];unfold znx;rw[show((((ns[i].c:Nat):Int))== 0)=false by rw[qdt]; omega,qdm,qaa]
     .rw[zfV (by omega) (by omega)];have:=Int.tmod_nonneg ((ns[i].c:Nat):Int) h6.1;omega
     rw[zfV (by omega) (by omega)];exact Int.tmod_lt_of_pos _ (by omega)
   obtain⟨y,hy,y1,y2⟩:=key
   obtain⟨out,ho,ho2⟩:=zrz (g:=g) (k:=k) hk hn hc n (i+1) (acc ++ [y]) hi (by simp; omega) (λv hv=>by
    rw[qaj];by_cases hvi:v<i
    .rw[qaf (by omega),<- qaj]; exact h4 v hvi
    have:v=i:=by omega
    subst this;rw[qak (by omega),h2,qbw]
    exact⟨y1,y2⟩) (by omega)
   refine⟨out,?_,ho2⟩;rw[hy,qaa,zcm (by simp; omega),qaa,zak (by omega),ho]
  have:i=ns.length:=by omega
  subst this;exact⟨acc,by rw[qdo hi,qdm],⟨by rw[h2,qaX],λv hv=>(h4 v (by rwa [qaX]at hv)).1,λv hv=>(h4 v (by rwa [qaX]at hv)).2⟩⟩
theorem zv5{ns:List NN}{g:Nat}{k:S_haruspexref05_Known}(hk:KnOk k)(hn:ns.length<=8)(hc:∀ x∈ns,1<=x.c):∃ out,zco k (zcS g ns)=some out/\EvOk (ns.map (·.c)) out:=by
 obtain⟨out,e,e2⟩:=zrz (g:=g) (k:=k) hk hn hc (ns.length+2) 0 [] (qaw _) rfl (λv hv=>absurd hv (qan _)) (by omega);refine⟨out,?_,e2⟩;rw[show((0:Nat):Int)=0 from rfl]at e;unfold zco;rw[show(zcS g ns).nodes.length=ns.length by simp[zcS],zaJ,e,qaa]
end Go.Dc
