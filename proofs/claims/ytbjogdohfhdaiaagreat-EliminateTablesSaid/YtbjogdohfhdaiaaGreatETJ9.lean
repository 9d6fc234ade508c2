/-
 Plain laws: what the reference finds right. Conditions: none.
-/
import Derived.Test.YtbjogdohfhdaiaaGreatETJ7
import Derived.Test.YtbjogdohfhdaiaaGreatETJ4
set_option linter.unusedSimpArgs false
set_option linter.unusedVariables false
namespace Go.Dc
open Go Go.Mx Go.Lx
structure RN where
 c:Nat
 ps:List Nat
 rows:List (List Int)
def rd(x:RN):S_api_Node:=⟨x.c,iL x.ps,x.rows⟩
def P1(m:Int)(y:S_api_Node):Prop:=(1<=y.zaC/\y.zaC<=4)/\zAh m (-1) y.parents
theorem zyO:∀ {zs:List Nat} {z:Nat},z∈zs->z<=zs.sum
 | x :: xs,z,h=>by
  rw[qc7];rcases qax.1 h with rfl | h
  .omega
  have:=zyO h; omega
variable{g:Nat}
theorem RightN.p1{ns:List NN}(h:RightN g ns):∀ y∈ns.map nd,P1 (ns.length:Int) y:=by
 intro y hy;obtain⟨x,hx,rfl⟩:=qaE.1 hy;have hc:=h.zaC x hx;exact⟨⟨by simp only[nd]; omega,by simp only[nd]; omega⟩,zAh.of (h.inc x hx) (λq _=>by omega) (h.lt x hx)⟩
theorem znn{α:Type}{xs:List α}{k:Nat}:∃ ys:List α,zd1 xs 0 (zfT (xs.length:Int) (k:Int))=some ys/\ys.length<=k/\∀ y∈ys,y∈xs:=by
 have hm:zfT (xs.length:Int) (k:Int)=((min xs.length k:Nat):Int):=by unfold zfT; split<;>omega
 refine⟨xs.take (min xs.length k),?_,by simp; omega,λy hy=>List.mem_of_mem_take hy⟩;rw[hm,show(0:Int)=((0:Nat):Int)from rfl];unfold zd1;rw[if_pos (by omega)];simp
def zBP:List Nat->Nat->List Nat
 | [],_=>[]
 | c :: cs,w=>(w / zab cs):: zBP cs (w % zab cs)
theorem zsv(c:Nat)(cs:List Nat):zab (c :: cs)=c * zab cs:=rfl
theorem ztq:∀ {cs:List Nat} {w:Nat},w<zab cs->∀(i:Nat) (h:i<cs.length),(zBP cs w).getD i 0<cs[i]
 | [],_,_,i,h=>absurd h (qat _)
 | c :: cs,w,hw,i,h=>by
  rw[zsv]at hw;have hp:0<zab cs:=Nat.pos_of_ne_zero λh0=>by rw[h0,Nat.mul_zero]at hw; omega
  cases i with
  | zero=>
   show w / zab cs<c;exact(qdh hp).2 hw
  | succ i=>
   show(zBP cs (w % zab cs)).getD i 0<cs[i]'(by simpa using h);exact ztq (qbp _ hp) i (by simpa using h)
theorem zAP{a b:Nat}(hb:0<b)(ha:a<9223372036854775808):zrD .i64 (a:Int) (b:Int)=some ((a / b:Nat):Int):=by
 unfold zrD;rw[show((b:Int)== 0)=false by rw[qdD]; omega,qdx,show((a:Int).tdiv (b:Int))=((a / b:Nat):Int)from rfl];congr 1
 have:a / b<=a:=qdq a b;exact zas (by omega)
structure CsOk (cs:List Nat):Prop where
 len:cs.length<=8
 zaC:∀ c∈cs,1<=c/\c<=4
 prod:zab cs<=1024
variable{ns:List NN}
theorem RightN.cs(h:RightN g ns):CsOk (ns.map (·.c)):=by
 refine⟨by have:=h.n2; simpa using this,λc hc=>?_,h.prod⟩;obtain⟨x,hx,rfl⟩:=qaE.1 hc;exact h.zaC x hx
def lo(ps:List Nat)(v:Nat):List Nat:=ps.filter λp=>decide (p<v)
def hi(ps:List Nat)(v:Nat):List Nat:=ps.filter λp=>decide (v<p)
def fam(ps:List Nat)(v:Nat):List Nat:=lo ps v ++ v :: hi ps v
variable{ps:List Nat}{v:Nat}
theorem zxx{x:Nat}(h:x∈lo ps v):x<v:=of_decide_eq_true (qaJ.1 h).2
theorem zwe{x:Nat}(h:x∈hi ps v):v<x:=of_decide_eq_true (qaJ.1 h).2
theorem zv1(h:ps.Pairwise (· < ·))(hv:v ∉ ps):lo ps v ++ hi ps v=ps:=by
 refine zh8 (qcS.2 ⟨qbl _ h,qbl _ h,λa ha b hb=>Nat.lt_trans (zxx ha) (zwe hb)⟩) h λx=>?_
 unfold lo hi;simp only[qbr,qaJ,decide_eq_true_eq];constructor
 .rintro(⟨h1,_⟩| ⟨h1,_⟩)<;> exact h1
 intro hx;rcases Nat.lt_trichotomy x v with h1 | h1 | h1
 .exact .inl ⟨hx,h1⟩
 .exact absurd (h1 ▸ hx) hv
 exact .inr ⟨hx,h1⟩
theorem zlP(h:ps.Pairwise (· < ·)):(fam ps v).Pairwise (· < ·):=by
 refine qcS.2 ⟨qbl _ h,qbg.2 ⟨λa ha=>zwe ha,qbl _ h⟩,λa ha b hb=>?_⟩;rcases qax.1 hb with rfl | hb
 .exact zxx ha
 exact Nat.lt_trans (zxx ha) (zwe hb)
variable{u:Nat}
theorem zmw:u∈fam ps v↔u=v\/u∈ps:=by
 unfold fam lo hi;simp only[qbr,qax,qaJ,decide_eq_true_eq];constructor
 .rintro(⟨h1,_⟩| h1 | ⟨h1,_⟩)
  .exact .inr h1
  .exact .inl h1
  exact .inr h1
 rintro(h1 | h1)
 .exact .inr (.inl h1)
 rcases Nat.lt_trichotomy u v with h2 | h2 | h2
 .exact .inl ⟨h1,h2⟩
 .exact .inr (.inl h2)
 exact .inr (.inr ⟨h1,h2⟩)
theorem zBV(x y:Int):zc9 x y=some (decide (x<y)):=by
 unfold zc9;rw[show zcR x=some false from rfl,qaa,qdx,qaa]
theorem zEl{xs:List Nat}{v k:Nat}(hl:xs.length<=1000)(h1:∀ i (h:i<xs.length),i<k->xs[i]<v)(h2:∀ i (h:i<xs.length),k<=i->v<=xs[i]):∀(n i j:Nat),i<=k->k<=j->j<=xs.length->j - i<n ->
  zar (iL xs) (v:Int) n (i:Int) (j:Int)=some (k:Int)
 | 0,_,_,_,_,_,h=>absurd h (qat _)
 | n+1,i,j,a,b,c,d=>by
  unfold zar;rw[zaH];by_cases hij:i<j
  .have hm:(i+j) / 2<j:=by omega
   have hm2:i<=(i+j) / 2:=by omega
   have hx:(i+j) / 2<xs.length:=by omega
   rw[qdz hij,qdw,show((i:Int)+(j:Int))=((i+j:Nat):Int) by omega,zas (by omega),zbS (by omega),show((1:Int))=((1:Nat):Int)from rfl,zD8 (by omega),qaa,qb4,Nat.pow_one,zas (by omega),zbf hx,qaa,zBV,qaa,zaH];by_cases hc:xs[(i+j) / 2]<v
   .rw[qdz hc,qdw,show((1:Nat):Int)=1 from rfl,zak (by omega)];refine zEl hl h1 h2 n _ j ?_ b c (by omega);rcases qaY ((i+j) / 2) k with g | g
    .exact g
    exact absurd (h2 _ hx g) (by omega)
   rw[qdy hc,qdx];refine zEl hl h1 h2 n i _ a ?_ (by omega) (by omega);rcases qaY ((i+j) / 2) k with g | g
   .exact absurd (h1 _ hx g) hc
   exact g
  rw[qdy hij,qdx,show i=k by omega]
theorem zFI(h:ps.Pairwise (· < ·))(hv:v ∉ ps)(hl:ps.length<=1000):∃ b,zaP (iL ps) (v:Int)=some ((((lo ps v).length:Nat):Int),b):=by
 have e:=zv1 h hv;have hlen:(lo ps v).length<=ps.length:=qdi _ _;have g1:∀ i (h:i<ps.length),i<(lo ps v).length->ps[i]<v:=by
  intro i hi1 hi2;have:ps[i]=(lo ps v)[i]:=by
   have e2:ps[i]=(lo ps v ++ hi ps v)[i]'(by rw[e]; exact hi1):=by congr 1; exact e.symm
   rw[e2,List.getElem_append_left hi2]
  rw[this];exact zxx (qau hi2)
 have g2:∀ i (h:i<ps.length),(lo ps v).length<=i->v<=ps[i]:=by
  intro i hi1 hi2;have hi3:i<(lo ps v ++ hi ps v).length:=by rw[e]; exact hi1
  have:ps[i]=(hi ps v)[i - (lo ps v).length]'(by rw[qaq]at hi3; omega):=by
   have e2:ps[i]=(lo ps v ++ hi ps v)[i]'hi3:=by congr 1; exact e.symm
   rw[e2,List.getElem_append_right hi2]
  rw[this];exact Nat.le_of_lt (zwe (qau _))
 have k:=zEl hl g1 g2 (ps.length+2) 0 ps.length (qaz _) hlen (qao _) (by omega);rw[show((0:Nat):Int)=0 from rfl]at k;unfold zaP;rw[zal,zaI,k,qaa,zaH];by_cases c:(lo ps v).length<ps.length
 .rw[qdz c,qdw,zbf c,qaa,show zbQ ((ps[(lo ps v).length]:Nat):Int)=some false from rfl,qaa,qdx];cases hb:(((ps[(lo ps v).length]:Nat):Int)==(v:Int))with
  | true=>exact⟨true,by rw[qdw,qaa]⟩
  | false=>exact⟨false,by rw[qdx,qaa]⟩
 rw[qdy c,qdx,qaa];exact⟨false,rfl⟩
theorem zEz(h:ps.Pairwise (· < ·))(hv:v ∉ ps)(hl:ps.length<=1000):zAp 8 (iL ps) (((lo ps v).length:Nat):Int) [(v:Int)]=some (iL (fam ps v)):=by
 have e:=zv1 h hv;have hlen:(lo ps v).length<=ps.length:=qdi _ _;unfold zAp;have hm:70368744177664<=zah:=by decide
 rw[if_pos ⟨⟨by omega,by rw[zal]; omega⟩,by simp,by rw[zal]; simp only[qay,qa3]; omega⟩,qaL];have ep:iL ps=iL (lo ps v)++ iL (hi ps v):=by rw[<- zvI,e]
 have t1:(iL ps).take (lo ps v).length=iL (lo ps v):=by
  rw[ep,qcD (by rw[zal]; exact qao _),qaS (by rw[zal]; exact qao _)]
 have t2:(iL ps).drop (lo ps v).length=iL (hi ps v):=by
  rw[ep,List.drop_append_of_le_length (by rw[zal]; exact qao _),qci (by rw[zal]; exact qao _),qa4]
 rw[t1,t2];unfold fam;rw[zvI,show iL (v :: hi ps v)=(v:Int):: iL (hi ps v)from rfl,qaI];rfl
def cd(cs us:List Nat):List Nat:=us.map λp=>cs.getD p 0
structure FacOk (cs:List Nat) (v:Nat) (x:NN):Prop where
 inc:x.ps.Pairwise (· < ·)
 nv:v ∉ x.ps
 lt:∀ p∈x.ps,p<cs.length
 hv:v<cs.length
 cv:cs.getD v 0=x.c
 len:x.rows.length=zab (cd cs x.ps)
 row:∀ r∈x.rows,r.length=x.c
 num:∀ r∈x.rows,∀ w∈r,w<=60
 zaC:∀ c∈cs,1<=c/\c<=4
 l8:cs.length<=8
 prod:zab cs<=1024
def zss(cs:List Nat)(v:Nat)(x:NN):Nat:=zab (cd cs (lo x.ps v))
def zbm(cs:List Nat)(v:Nat)(x:NN):Nat:=zab (cd cs (hi x.ps v))
def zht(cs:List Nat)(v:Nat)(x:NN):Fc:=⟨fam x.ps v,cd cs (fam x.ps v),(List.range' 0 (zss cs v x * x.c * zbm cs v x)).map (zA3 (zbm cs v x) x.c x.rows)⟩
theorem zgm{cs us:List Nat}(h:∀ c∈cs,1<=c/\c<=4)(hu:∀ u∈us,u<cs.length):∀ c∈cd cs us,1<=c/\c<=4:=by
 intro c hc;obtain⟨u,h1,rfl⟩:=qaE.1 hc;have h2:=hu u h1;have:cs.getD u 0=cs[u]:=by rw[qai,qac h2]; rfl
 rw[this];exact h _ (qau h2)
theorem FacOk.flt{cs:List Nat}{v:Nat}{x:NN}(h:FacOk cs v x):∀ u∈fam x.ps v,u<cs.length:=by
 intro u hu;rcases zmw.1 hu with rfl | hu
 .exact h.hv
 exact h.lt u hu
variable{x:NN}
theorem FacOk.fl8{cs:List Nat}(h:FacOk cs v x):(fam x.ps v).length<=8:=qan (zl2 (zlP h.inc) h.flt) h.l8
theorem zCR(h:u∈hi ps v):u∈ps:=(qaJ.1 h).1
theorem zol(cs a b:List Nat):cd cs (a ++ b)=cd cs a ++ cd cs b:=qbD
theorem FacOk.cdf{cs:List Nat}(h:FacOk cs v x):cd cs (fam x.ps v)=cd cs (lo x.ps v)++ x.c :: cd cs (hi x.ps v):=by
 unfold fam;rw[zol];show _ ++ cs.getD v 0 :: _=_;rw[h.cv];rfl
theorem FacOk.size{cs:List Nat}(h:FacOk cs v x):zab (cd cs (fam x.ps v))=zss cs v x * x.c * zbm cs v x:=by
 rw[h.cdf,zfw,qa6];rfl
theorem FacOk.zDG{cs:List Nat}(h:FacOk cs v x):x.rows.length=zss cs v x * zbm cs v x:=by
 have e:=zv1 h.inc h.nv;have e2:cd cs x.ps=cd cs (lo x.ps v)++ cd cs (hi x.ps v):=by rw[<- zol,e]
 rw[h.len,e2,zfw];rfl
theorem znQ{f:Nat->Nat}(p:Nat->Bool):∀ {us:List Nat},(∀ u∈us,1<=f u)->zab ((us.filter p).map f)<=zab (us.map f)
 | [],_=>qao _
 | u :: us,h=>by
  have h1:=h u qam;have h2:=znQ p λw hw=>h w (qag u hw)
  have h3:zab ((u :: us).map f)=f u * zab (us.map f):=rfl;rw[List.filter_cons,h3];cases p u with
  | true=>
   rw[if_pos rfl];exact qch _ h2
  | false=>
   rw[if_neg (by decide)];exact qan h2 (qcj _ h1)
theorem zlQ(cs:List Nat):(List.range cs.length).map (λp=>cs.getD p 0)=cs:=by
 refine qcm (by simp) λi h1 h2=>?_
 rw[qdl,List.getElem_range,qai,qac h2];rfl
theorem zhB{cs us:List Nat}(hc:∀ c∈cs,1<=c)(h:us.Pairwise (· < ·))(hu:∀ u∈us,u<cs.length):zab (cd cs us)<=zab cs:=by
 have e:us=(List.range cs.length).filter (λu=>decide (u∈us)):=zh8 h (qbl _ qck) λx=>by
  simp only[qaJ,qbn,decide_eq_true_eq];exact⟨λhx=>⟨hu x hx,hx⟩,λhx=>hx.2⟩
 have k:=znQ (f:=λp=>cs.getD p 0) (λu=>decide (u∈us)) (us:=List.range cs.length) λu hx=>by
  have h2:=qbn.1 hx;rw[qai,qac h2];exact hc _ (qau h2)
 rw[<- e,zlQ]at k;exact k
theorem FacOk.le{cs:List Nat}(h:FacOk cs v x):zss cs v x * x.c * zbm cs v x<=1024:=by
 rw[<- h.size];exact qan (zhB (λc hc=>(h.zaC c hc).1) (zlP h.inc) h.flt) h.prod
theorem FacOk.B0{cs:List Nat}(h:FacOk cs v x):0<zbm cs v x:=zcQ λc hc=>(zgm h.zaC (λu hu=>h.lt u (zCR hu)) c hc).1
theorem FacOk.c1{cs:List Nat}(h:FacOk cs v x):1<=x.c/\x.c<=4:=by
 have:=zgm (us:=[v]) h.zaC (λu hu=>by rw[qaP.1 hu]; exact h.hv) (cs.getD v 0) (qaP.2 rfl);rw[h.cv]at this;exact this
def bp(k:Nat):Nat->List Nat->Nat
 | _,[]=>1
 | i,c :: r=>(bif decide (k<i)then c else 1)* bp k (i+1) r
theorem zDh{k:Nat}:∀(b:List Nat) (i:Nat),k<i->bp k i b=zab b
 | [],_,_=>rfl
 | c :: b,i,h=>by
  unfold bp;rw[qdz h,qdw,zDh b (i+1) (by omega)];rfl
theorem zx2{k c:Nat}{b:List Nat}:∀(a:List Nat) (i:Nat),a.length+i=k->bp k i (a ++ c :: b)=zab b
 | [],i,h=>by
  have h:i=k:=by simpa using h
  subst h;rw[qa4];unfold bp;rw[qdy (qb3 i),qdx,qbh,zDh b (i+1) (by omega)]
 | d :: a,i,h=>by
  rw[qbk];unfold bp;rw[qdy (by simp only[qay]at h; omega),qdx,qbh];exact zx2 a (i+1) (by simp only[qay]at h; omega)
theorem zAN{fs cs:List Nat}{k:Nat}{b0:Bool}{p0:S_net_network}(hp:p0.zae=iL cs)(hc:∀ c∈cs,1<=c/\c<=4)(hl:fs.length<=8)(hf:∀ u∈fs,u<cs.length):∀(ws us:List Nat) (n b:Nat),us ++ ws=fs->b<=4 ^ us.length->ws.length<n ->
  zaX (iL fs) p0 ((k:Int),b0) n (us.length:Int) (b:Int) (iL (cd cs us))=some (((b * bp k us.length (cd cs ws):Nat):Int),iL (cd cs fs))
 | _,_,0,_,_,_,h=>absurd h (qat _)
 | [],us,n+1,b,h1,h2,h3=>by
  rw[qaZ]at h1;subst h1;unfold zaX;rw[zal,zaH,qdy (qb3 _),qdx,show cd cs []=[]from rfl,show bp k us.length []=1 from rfl,qb1]
 | w :: ws,us,n+1,b,h1,h2,h3=>by
  have hul:us.length<fs.length:=by rw[<- h1]; simp
  have hw:w<cs.length:=hf w (by rw[<- h1]; simp);have hcw:=zgm (us:=[w]) hc (λu hu=>by rw[qaP.1 hu]; exact hw) (cs.getD w 0) (qaP.2 rfl);have hp8:(4:Nat) ^ us.length<=65536:=qan (qbQ (by decide) (show us.length<=8 by omega)) (by decide);have hnext:(us ++ [w])++ ws=fs:=by rw[qaI]; exact h1
  have hl1:(us ++ [w]).length=us.length+1:=by simp
  unfold zaX;rw[zal,zaH,qdz hul,qdw,<- h1,zcX rfl,h1,qaa,hp,zeB hw,qaa,zcv (by rw[zal]; unfold cd; simp only[qar,qay,qa3]; omega),qaa];have e:iL (cd cs us)++ [((cs.getD w 0:Nat):Int)]=iL (cd cs (us ++ [w])):=by rw[zol,zvI]; rfl
  rw[e,zak (by omega),show((us.length+1:Nat):Int)=(((us ++ [w]).length:Nat):Int) by rw[hl1]];simp only[];rw[zaH];by_cases hk:k<us.length
  .have hb:b * cs.getD w 0<=4 ^ (us.length+1):=by rw[qdu]; exact qbc h2 hcw.2
   have hb2:b * cs.getD w 0<=65536 * 4:=qbc (qan h2 hp8) hcw.2;rw[qdz hk,qdw,<- qaU,zas (by omega),qaa,zAN hp hc hl hf ws (us ++ [w]) n (b * cs.getD w 0) hnext (by rw[hl1]; exact hb) (by simp only[qay]at h3; omega)];rw[show cd cs (w :: ws)=cs.getD w 0 :: cd cs ws from rfl]
   conv=>rhs; unfold bp
   rw[qdz hk,qdw,hl1,qa6]
  rw[qdy hk,qdx,qaa,zAN hp hc hl hf ws (us ++ [w]) n b hnext (by rw[hl1,qdu]; omega) (by simp only[qay]at h3; omega)];rw[show cd cs (w :: ws)=cs.getD w 0 :: cd cs ws from rfl]
  conv=>rhs; unfold bp
  rw[qdy hk,qdx,hl1,qbh]
theorem zwl{w:List Nat}{i y:Nat}(h:i<w.length):ze5 (iL w) (i:Int) (y:Int)=some (iL (w.set i y)):=by
 rw[zfD (by rw[zal]; exact h)];simp[iL,List.map_set]
theorem zC7{A B c i:Nat}{rows:List (List Nat)}{x1:S_api_Node}(hx:x1.zaC=(c:Int)){zs:List Nat}(hz:rows.getD i []=zs)(hzl:zs.length=c)(hB:0<B)(hi:i<A * B)(hA:A * c * B<=1024)(hc4:1<=c/\c<=4):∀(n x:Nat) (w:List Nat),x<=c->Fil A B c rows (i * c+x) w->c - x<n ->
  ∃ w',Fil A B c rows (i * c+c) w'/\zaW ((i:Int),iL zs) (B:Int) x1 n (x:Int) (iL w)=some (iL w')
 | 0,_,_,_,_,h=>absurd h (qat _)
 | n+1,x,w,h1,h2,h3=>by
  unfold zaW;rw[zal,hzl,zaH];by_cases hxc:x<c
  .have hlt:=zCN (c:=c) hi hxc;have hb1:i / B * c+x<=(i / B * c+x)* B:=qaO _ hB;have hAB:A * B<=A * c * B:=qav B (qaO A hc4.1);have idx:w64 ((w64 ((w64 ((w64 (((i / B:Nat):Int)* x1.zaC))+(x:Int)))* (B:Int)))+((i % B:Nat):Int))=(((i / B * c+x)* B+i % B:Nat):Int):=by
    rw[hx,<- qaU,zas (by omega),<- qbM,zas (by omega),<- qaU,zas (by omega),<- qbM,zas (by omega)]
   have hw:(i / B * c+x)* B+i % B<w.length:=by rw[h2.len]; exact hlt
   have hst:=h2.step hB hi hxc;rw[hz]at hst;have hget:zs.getD x 0=zs[x]'(by omega):=by rw[qai,qac (by omega)]; rfl
   rw[hget]at hst;obtain⟨w',k1,k2⟩:=zC7 hx hz hzl hB hi hA hc4 n (x+1) _ hxc hst (by omega);refine⟨w',k1,?_⟩;rw[qdz hxc,qdw,zbf (by omega),qaa];simp only[];rw[zAP hB (by omega),qaa,zjg hB,qaa,idx,zbf hw,qaa,zwl hw,qaa,zak (by omega),k2]
  have:x=c:=by omega
  subst this;exact⟨w,h2,by rw[qdy (qb3 _),qdx]⟩
def zBk:Nat->List (List Nat)->List (Int×List Int)
 | _,[]=>[]
 | i,z :: r=>((i:Int),iL z):: zBk (i+1) r
theorem zCj:∀(zs:List (List Nat)) (i:Nat),((zs.map iL).zipIdx i).map (λp=>((p.2:Int),p.1))=zBk i zs
 | [],_=>rfl
 | z :: zs,i=>by
  rw[qaH,List.zipIdx_cons,qaH,zCj zs (i+1)];rfl
theorem zBI{A B c:Nat}{rows:List (List Nat)}{x1:S_api_Node}(hx:x1.zaC=(c:Int))(hr:∀ r∈rows,r.length=c)(hl:rows.length=A * B)(hB:0<B)(hA:A * c * B<=1024)(hc4:1<=c/\c<=4):∀(ys:List (List Nat)) (i:Nat) (w:List Nat),rows.drop i=ys->i<=rows.length->Fil A B c rows (i * c+0) w ->
  ∃ w',Fil A B c rows (A * B * c+0) w'/\zaV (B:Int) x1 (zBk i ys) (iL w)=some (iL w')
 | [],i,w,h1,h2,h3=>by
  have:i=A * B:=by
   have:=congrArg List.length h1;simp only[qbT,qa3]at this;omega
  subst this;exact⟨w,h3,rfl⟩
 | z :: ys,i,w,h1,h2,h3=>by
  have hi:i<rows.length:=by
   rcases qaY i rows.length with g | g
   .exact g
   rw[qci g]at h1; cases h1
  have e:=qaA hi;rw[h1]at e;obtain⟨e1,e2⟩:=qcC e;have hz:rows.getD i []=z:=by rw[qai,qac hi,e1]; rfl
  have hzl:z.length=c:=by rw[e1]; exact hr _ (qau hi)
  obtain⟨w1,k1,k2⟩:=zC7 hx hz hzl hB (by omega) hA hc4 (c+2) 0 w (qaz _) h3 (by omega);obtain⟨w',g1,g2⟩:=zBI hx hr hl hB hA hc4 ys (i+1) w1 e2.symm hi k1.next;refine⟨w',g1,?_⟩;rw[show((0:Nat):Int)=0 from rfl]at k2;show(zaW ((i:Int),iL z) (B:Int) x1 (((iL z).length:Int) - 0+2:Int).toNat 0 (iL w)).bind _=_;rw[zal,zaI,hzl,k2,qaa];exact g2
theorem zCC{sets os:List Int}(hx:ns[v]? = some x)(h:FacOk (ns.map (·.c)) v x):zbD ⟨zb4 g ns,iL (ns.map (·.c)),sets,os⟩ (v:Int)=some (zht (ns.map (·.c)) v x).D:=by
 obtain⟨hv,ev⟩:=qab.1 hx;have hps:x.ps.length<=8:=qan (zl2 h.inc h.lt) h.l8;obtain⟨b,e1⟩:=zFI h.inc h.nv (show x.ps.length<=1000 by omega);have e2:=zEz h.inc h.nv (show x.ps.length<=1000 by omega);have e3:=zAN (fs:=fam x.ps v) (k:=(lo x.ps v).length) (b0:=b) (p0:=⟨zb4 g ns,iL (ns.map (·.c)),sets,os⟩) rfl h.zaC h.fl8 h.flt (fam x.ps v) [] ((fam x.ps v).length+2) 1 rfl (qao _) (by omega);rw[show(([]:List Nat).length:Int)=0 from rfl,show cd (ns.map (·.c)) []=[]from rfl,show iL []=[]from rfl,show((1:Nat):Int)=1 from rfl,show([]:List Nat).length=0 from rfl,h.cdf,zx2 _ _ (by unfold cd; simp),qbh,<- h.cdf]at e3;have hrl:=h.zDG;have hmul:x.rows.length * x.c<=1024:=by
  have:=h.le;rw[hrl,Nat.mul_right_comm];exact this
 have hrl2:x.rows.length<=1024:=qan (qaO _ h.c1.1) hmul;obtain⟨w',k1,k2⟩:=zBI (x1:=nd x) rfl h.row hrl h.B0 h.le h.c1 x.rows 0 _ rfl (qaz _) (Fil.start _ _ _ _);have k3:=k1.all h.B0 (by have:=h.c1; omega);subst k3;unfold zbD;simp only[];rw[show zaO (zb4 g ns).nodes (v:Int)=some (nd x) by rw[<- ev]; exact zcO hv,qaa,show(nd x).parents=iL x.ps from rfl,e1,qaa,zgv (by rw[zal]; omega),qaa];simp only[];rw[e2,qaa,zal,zaI,e3,qaa];simp only[];rw[show(nd x).rows.length=x.rows.length by simp[nd],show(nd x).zaC=(x.c:Int)from rfl,<- qaU,zas (by omega),zde (by omega),qaa,show ze8 (nd x)=some (nd x)from rfl,qaa];rw[show zeR (nd x).rows=some () by unfold zeR; rw[if_pos (by rw[show(nd x).rows.length=x.rows.length by simp[nd]]; omega)],qaa];have hz:zuk (nd x).rows=zBk 0 x.rows:=zCj x.rows 0;have hrep:List.replicate (x.rows.length * x.c) (0:Int)=iL (List.replicate (zss (ns.map (·.c)) v x * x.c * zbm (ns.map (·.c)) v x) 0):=by
  rw[zfW,hrl,Nat.mul_right_comm]
 rw[hz,hrep];have k2':zaV ((zab (cd (ns.map (·.c)) (hi x.ps v)):Nat):Int) (nd x) (zBk 0 x.rows) (iL (List.replicate (zss (ns.map (·.c)) v x * x.c * zbm (ns.map (·.c)) v x) 0))=_:=k2;rw[k2',qaa];rfl
theorem RightN.fac(h:RightN g ns)(hx:ns[v]? = some x):FacOk (ns.map (·.c)) v x:=by
 obtain⟨hv,ev⟩:=qab.1 hx;have hm:x∈ns:=ev ▸ qau hv;refine⟨h.inc x hm,λhp=>h.ne hx v hp rfl,by simpa using h.lt x hm,by simpa using hv,?_,(h.rows x hm).len,λr hr=>((h.rows x hm).row r hr).1,λr hr w hw=>?_,h.cs.zaC,by simpa using h.n2,h.prod⟩
 .rw[qai,qa5,hx];rfl
 have:=zyO hw;have:=((h.rows x hm).row r hr).2;have:=h.g2;omega
def zfS:List Nat->List Nat->(Nat->Nat)->Nat->Nat
 | u :: us,d :: ds,F=>zfS us ds (upd F u d)
 | _,_,F=>F
theorem zq3:∀ {us ds:List Nat} {F:Nat->Nat} {x:Nat},x ∉ us->zfS us ds F x=F x
 | [],_,_,_,_=>by unfold zfS; rfl
 | u :: us,[],_,_,_=>by unfold zfS; rfl
 | u :: us,d :: ds,F,x,h=>by
  unfold zfS;rw[zq3 λh1=>h (qag u h1),zgI λe=>h (by rw[e]; exact qam)]
theorem zpw:∀ {us ds:List Nat} {F:Nat->Nat} {x:Nat},us.Nodup->us.length=ds.length->x∈us->zfS us ds F x=at_ us ds x
 | [],_,_,_,_,_,h=>by simp at h
 | u :: us,[],_,_,_,h,_=>by simp at h
 | u :: us,d :: ds,F,x,hn,hl,h=>by
  obtain⟨n1,n2⟩:=qa7.1 hn;unfold zfS;rw[zfr];by_cases e:u=x
  .subst e;rw[zq3 n1,zeX,qdB,qdw]
  rw[qdC e,qdx];exact zpw n2 (by simpa using hl) ((qax.1 h).resolve_left λe2=>e e2.symm)
variable{j:Nat}
theorem zAn{cs:List Nat}(h:FacOk cs v x)(hj:j<zss cs v x * x.c * zbm cs v x):dig (cd cs (fam x.ps v)) j=dig (cd cs (lo x.ps v)) (j / (x.c * zbm cs v x))++ j / zbm cs v x % x.c :: dig (cd cs (hi x.ps v)) (j % zbm cs v x):=by
 have hB:=h.B0;have hc:=h.c1;have hp:zab (x.c :: cd cs (hi x.ps v))=x.c * zbm cs v x:=rfl;have hp0:0<x.c * zbm cs v x:=qc0 (by omega) hB;rw[h.cdf,zp1 _ _ _ (by rw[hp]; exact hp0) (by rw[hp,<- qa6]; exact hj),hp];congr 1
 show j % (x.c * zbm cs v x) / zbm cs v x :: dig (cd cs (hi x.ps v)) (j % (x.c * zbm cs v x) % zbm cs v x)=_;rw[show j % (x.c * zbm cs v x) / zbm cs v x=j / zbm cs v x % x.c by rw[qaV,Nat.mod_mul_right_div_self],Nat.mod_mod_of_dvd _ ⟨x.c,qaV _ _⟩]
theorem zFb{a a' b b':List Nat}{x x':Nat}(h:a ++ x :: b=a' ++ x' :: b')(hl:a.length=a'.length):a=a'/\x=x'/\b=b':=by
 obtain⟨h1,h2⟩:=List.append_inj h hl;obtain⟨h3,h4⟩:=qcC h2;exact⟨h1,h3,h4⟩
theorem zuh{cs:List Nat}(h:FacOk cs v x){F:Nat->Nat}(hj:j<zss cs v x * x.c * zbm cs v x)(e:(fam x.ps v).map F=dig (cd cs (fam x.ps v)) j):F v=j / zbm cs v x % x.c/\x.ps.map F=dig (cd cs x.ps) (j / (x.c * zbm cs v x)* zbm cs v x+j % zbm cs v x):=by
 rw[zAn h hj]at e;unfold fam at e;rw[qbD,qaH]at e;obtain⟨h1,h2,h3⟩:=zFb e (by rw[qar,zfC]; simp[cd]);refine⟨h2,?_⟩;have hB:=h.B0;have hmod:=qbp j hB;have ha:j / (x.c * zbm cs v x)<zss cs v x:=qbR (by rw[qaV (x.c * zbm cs v x),<- qa6]; exact hj);have hlt:j / (x.c * zbm cs v x)* zbm cs v x+j % zbm cs v x<zss cs v x * zbm cs v x:=by
  have:=qav (zbm cs v x) (show j / (x.c * zbm cs v x)+1<=zss cs v x from ha);rw[qaM,qbh]at this;omega
 have hps:cd cs x.ps=cd cs (lo x.ps v)++ cd cs (hi x.ps v):=by rw[<- zol,zv1 h.inc h.nv]
 rw[hps,zp1 _ _ _ hB hlt];have d1:(j / (x.c * zbm cs v x)* zbm cs v x+j % zbm cs v x) / zbm cs v x=j / (x.c * zbm cs v x):=by rw[qb0,qcs _ _ hB,qbZ hmod,qaR]
 have d2:(j / (x.c * zbm cs v x)* zbm cs v x+j % zbm cs v x) % zbm cs v x=j % zbm cs v x:=by rw[qb0,qbF,Nat.mod_mod]
 show _=dig _ ((j / (x.c * zbm cs v x)* zbm cs v x+j % zbm cs v x) / zbm cs v x)++ dig _ ((j / (x.c * zbm cs v x)* zbm cs v x+j % zbm cs v x) % zbm cs v x);rw[d1,d2,<- h1,<- h3,<- qbD,zv1 h.inc h.nv]
theorem zB0{A B c:Nat}(hB:0<B)(hj:j<A * c * B):j / (c * B)* B+j % B<A * B:=by
 have hmod:=qbp j hB;have ha:j / (c * B)<A:=qbR (by rw[qaV (c * B),<- qa6]; exact hj);have:=qav B (show j / (c * B)+1<=A from ha);rw[qaM,qbh]at this;omega
theorem zzw{cs us:List Nat}(h:∀ c∈cs,1<=c/\c<=4)(hu:∀ u∈us,u<cs.length):∀ c∈cd cs us,1<=c/\c<=8:=λc hc=>⟨(zgm h hu c hc).1,qan (zgm h hu c hc).2 (by decide)⟩
def zv9(ns:List NN):List S_api_Factor:=(List.range ns.length).map λv=>(zht (ns.map (·.c)) v (ns.getD v ⟨0,[],[]⟩)).D
theorem zim{α:Type}{xs:List α}{i:Nat}{d:α}:xs.getD i d=d\/xs.getD i d∈xs:=by
 rw[qai];rcases qaY i xs.length with h | h
 .rw[qac h];exact .inr (qau h)
 rw[qaW h];exact .inl rfl
theorem zuz{B c:Nat}{rows:List (List Nat)}(h:∀ r∈rows,∀ w∈r,w<=60)(j:Nat):zA3 B c rows j<=60:=by
 unfold zA3;rcases zim (xs:=rows) (i:=j / (c * B)* B+j % B) (d:=[])with e | e
 .rw[e]; simp
 rcases zim (xs:=rows.getD (j / (c * B)* B+j % B) []) (i:=j / B % c) (d:=0)with e2 | e2
 .rw[e2]; omega
 exact h _ e _ e2
theorem zoR{cs:List Nat}(h:FacOk cs v x):FcOk (zht cs v x):=by
 have h8:=h.fl8;have hle:=h.le;have hsz:=h.size;refine⟨by simp[zht,cd],by simp only[zht,cd,qar]; omega,zzw h.zaC h.flt,?_,?_,zlP h.inc,λu hu=>?_,λw hw=>?_⟩
 .show zab (cd cs (fam x.ps v))<=4096;omega
 .show _=zab (cd cs (fam x.ps v));rw[hsz];simp[zht]
 .have:=h.flt u hu;have:=h.l8;omega
 obtain⟨j,_,rfl⟩:=qaE.1 hw;have:=zuz (B:=zbm cs v x) (c:=x.c) h.num j;simp only[zc2];omega
theorem zCK{g:Nat}{ns:List NN}{sets os:List Int}(h:RightN g ns):∀(n i:Nat),i<=ns.length->ns.length - i<n ->
  zcp (⟨zb4 g ns,iL (ns.map (·.c)),sets,os⟩,0) n (i:Int) (((List.range i).map λv=>(zht (ns.map (·.c)) v (ns.getD v ⟨0,[],[]⟩)).D)++ List.replicate (ns.length - i) ⟨[],[],[]⟩)=some (zv9 ns)
 | 0,_,_,h=>absurd h (qat _)
 | n+1,i,h1,h2=>by
  have hn:=h.n2;have hnl:(zb4 g ns).nodes.length=ns.length:=by simp[zb4]
  unfold zcp;simp only[];rw[hnl,qaL,zaH];by_cases hi:i<ns.length
  .have hx:ns[i]? = some (ns.getD i ⟨0,[],[]⟩):=by rw[qai,qac hi]; rfl
   have hf:=h.fac hx;have hlen:(((List.range i).map λv=>(zht (ns.map (·.c)) v (ns.getD v ⟨0,[],[]⟩)).D)++ List.replicate (ns.length - i) (⟨[],[],[]⟩:S_api_Factor)).length=ns.length:=by simp; omega
   have ih:=zCK (sets:=sets) (os:=os) h n (i+1) hi (by omega);have e:(((List.range i).map λv=>(zht (ns.map (·.c)) v (ns.getD v ⟨0,[],[]⟩)).D)++ List.replicate (ns.length - i) (⟨[],[],[]⟩:S_api_Factor)).set i (zht (ns.map (·.c)) i (ns.getD i ⟨0,[],[]⟩)).D=((List.range (i+1)).map λv=>(zht (ns.map (·.c)) v (ns.getD v ⟨0,[],[]⟩)).D)++ List.replicate (ns.length - (i+1)) ⟨[],[],[]⟩:=by
    rw[qcM _ _ (by simp),qar,qcR,qcr,show ns.length - i=(ns.length - (i+1))+1 by omega,qa1,qb9,List.range_succ,qbD,qaI];rfl
   rw[qdz hi,qdw,zCC hx hf,qaa,zbd (by rw[hlen]; exact hi),qaa,zfD (by rw[hlen]; exact hi),qaa,zak (by omega),e,ih]
  have:i=ns.length:=by omega
  subst this;rw[qdy (qb3 _),qdx,qcr,qcg,qaZ];rfl
theorem zso(h:RightN g ns):zdw (zb4 g ns)=some (zv9 ns,0):=by
 obtain⟨os,_,_,e⟩:=zpD h;have hn:=h.n2;have hnl:(zb4 g ns).nodes.length=ns.length:=by simp[zb4]
 have e1:=zCK (sets:=iL (zca ns)) (os:=iL os) h (ns.length+2) 0 (qaz _) (by omega);rw[show((0:Nat):Int)=0 from rfl,List.range_zero,qdt,qa4,qco]at e1;unfold zdw;rw[e,qaa];simp only[];rw[show((0:Int)== 0)=true from rfl,qdw,hnl,zde (by omega),qaa,qaL,zaI,e1,qaa]
def zBd(cs:List Nat)(x:NN)(s:Nat->Nat):Nat:=dot (x.ps.map s) (zaB (cd cs x.ps))
theorem zAU{cs:List Nat}(hu:u∈fam x.ps v):at_ (zht cs v x).vs (zht cs v x).cs u=cs.getD u 0:=zhh (h:=λp=>cs.getD p 0) hu
theorem zw1{cs:List Nat}{v:Nat}{x:NN}(h:FacOk cs v x){s:Nat->Nat}(hs:∀ u∈fam x.ps v,s u<cs.getD u 0):(zht cs v x).val s=(x.rows.getD (zBd cs x s) []).getD (s v) 0/\zBd cs x s<x.rows.length:=by
 have hok:=zoR h;have hb:zcK (cd cs (fam x.ps v)) ((fam x.ps v).map s):=Fit.below hok (f:=zht cs v x) λu hu=>by rw[zAU hu]; exact hs u hu
 have hlt:=zj8 hb;have hdig:=zmx hb;have hj:dot ((fam x.ps v).map s) (zaB (cd cs (fam x.ps v)))<zss cs v x * x.c * zbm cs v x:=by rw[<- h.size]; exact hlt
 obtain⟨k1,k2⟩:=zuh h (F:=s) hj hdig.symm;have hkl:=zB0 h.B0 hj;have hps:zab (cd cs x.ps)=zss cs v x * zbm cs v x:=by rw[<- h.len,h.zDG]
 have hr:zBd cs x s=dot ((fam x.ps v).map s) (zaB (cd cs (fam x.ps v))) / (x.c * zbm cs v x)* zbm cs v x+dot ((fam x.ps v).map s) (zaB (cd cs (fam x.ps v))) % zbm cs v x:=by
  unfold zBd;rw[k2,zih (zzw h.zaC h.lt) (by rw[hps]; exact hkl)]
 refine⟨?_,by rw[hr,h.zDG]; exact hkl⟩;show(zht cs v x).get (dot ((fam x.ps v).map s) (zaB (cd cs (fam x.ps v))))=_;rw[hr,k1];unfold Fc.get zht;simp only[];rw[get_map hj];rfl
theorem zwL{cs:List Nat}(h:FacOk cs v x)(i:Nat):(zht cs v x).get i<=60:=by
 unfold Fc.get;rcases zim (xs:=(zht cs v x).ws) (i:=i) (d:=0)with e | e
 .rw[e]; omega
 obtain⟨j,_,e2⟩:=qaE.1 e;rw[<- e2];exact zuz h.num j
theorem zAe(xs:List Nat):big false xs=xs.sum:=by
 induction xs with
 | nil=>rfl
 | cons x xs ih=>rw[zlS,ih]; rfl
theorem NetOk.right{num:List Nat}(h:NetOk num g ns):RightN g ns:=by
 have at_v:∀ v (hv:v<ns.length),∃ j,num[j]? = some v/\NodeOk num g (ns.map (·.c)) j ns[v]:=by
  intro v hv;obtain⟨j,hj,hjv⟩:=qcV.1 (h.perm.all v hv);exact⟨j,by rw[qac hj,hjv],h.node j v ns[v] (by rw[qac hj,hjv]) (qac hv)⟩
 have at_x:∀ x∈ns,∃ j v,num[j]? = some v/\NodeOk num g (ns.map (·.c)) j x:=by
  intro x hx;obtain⟨v,hv,rfl⟩:=qcV.1 hx;obtain⟨j,h1,h2⟩:=at_v v hv;exact⟨j,v,h1,h2⟩
 refine⟨h.g1,h.g2,h.n1,h.n2,h.zaC,h.prod,λx hx=>?_,λx hx p hp=>?_,λx hx=>?_,?_⟩
 .obtain⟨j,v,_,h2⟩:=at_x x hx;exact h2.par.inc
 .obtain⟨j,v,_,h2⟩:=at_x x hx;have:=h2.par.lt p hp;simpa using this
 .obtain⟨j,v,_,h2⟩:=at_x x hx;exact h2.rows
 refine⟨λv=>min (num.idxOf v) 8,λv=>qcE _ _,λv x hx p hp=>?_⟩;obtain⟨hv,rfl⟩:=qab.1 hx;obtain⟨j,h1,h2⟩:=at_v v hv;have hin:=h2.par.mem p hp;obtain⟨hj,ej⟩:=qab.1 h1;obtain⟨k,hk,ek0⟩:=hin;obtain⟨hk2,ek⟩:=qab.1 ek0;have i1:num.idxOf v=j:=by rw[<- ej]; exact h.perm.nod.idxOf_getElem j hj
 have i2:num.idxOf p=k:=by rw[<- ek]; exact h.perm.nod.idxOf_getElem k hk2
 have hn:=h.perm.len;have hn8:=h.n2;simp only[i1,i2];omega
theorem zqE:∀(cs:List Nat),(∀ c∈cs,1<=c)->dot (cs.map (· - 1)) (zaB cs)+1=zab cs
 | [],_=>rfl
 | c :: cs,h=>by
  have ih:=zqE cs λd hd=>h d (qag c hd)
  have hc:=h c qam;show(c - 1)* zab cs+dot (cs.map (· - 1)) (zaB cs)+1=c * zab cs;have:c * zab cs=(c - 1)* zab cs+zab cs:=by
   conv=>lhs; rw[show c=(c - 1)+1 by omega,qaM,qbh]
  omega
def zmo(cs:List Nat)(us:List Nat)(s:Nat->Nat)(u:Nat):Nat:=bif decide (u∈us)then cs.getD u 0 - 1 else s u
structure Fixd (cs:List Nat) (v:Nat) (x:NN) (i:Nat) (f:Fc):Prop where
 ok:FcOk f
 vs:f.vs=(fam x.ps v).filter λu=>!decide (u∈x.ps.take i)
 cs_:f.cs=cd cs f.vs
 val:∀ s,(∀ u∈f.vs,s u<cs.getD u 0)->f.val s=(zht cs v x).val (zmo cs (x.ps.take i) s)
theorem Fixd.zero{cs:List Nat}(h:FacOk cs v x):Fixd cs v x 0 (zht cs v x):=by
 refine⟨zoR h,?_,rfl,λs _=>?_⟩
 .rw[qb2];exact(List.filter_eq_self.2 λu _=>by simp).symm
 refine val_congr λu _=>?_
 unfold zmo;rw[qb2,qdy (by simp),qdx]
theorem zsn{cs:List Nat}(h:∀ c∈cs,1<=c/\c<=4)(hu:u<cs.length):1<=cs.getD u 0/\cs.getD u 0<=4:=zgm (us:=[u]) h (λw hw=>by rw[qaP.1 hw]; exact hu) _ (qaP.2 rfl)
theorem zn5{xs:List Nat}(h:j<xs.length):xs[j]=xs.getD j 0:=by
 rw[qai,qac h];rfl
theorem Fixd.last{cs:List Nat}(h:FacOk cs v x){f:Fc}(hf:Fixd cs v x x.ps.length f):f.ws=x.rows.getD (x.rows.length - 1) []:=by
 have hvs:f.vs=[v]:=by
  rw[hf.vs,qcF];refine zh8 (qbl _ (zlP h.inc)) (by simp) λu=>?_
  simp only[qaJ,zmw,qbJ,qdE,qaP];constructor
  .rintro⟨h1 | h1,h2⟩
   .exact h1
   exact absurd h1 h2
  rintro rfl;exact⟨.inl rfl,h.nv⟩
 have hcs:f.cs=[x.c]:=by rw[hf.cs_,hvs]; show [cs.getD v 0]=_; rw[h.cv]
 have hc1:=h.c1;have hsz:=hf.ok.size;have hp1:zab f.cs=x.c:=by rw[hcs]; simp[zab]
 have h1:1<=x.rows.length:=by rw[h.len]; exact zcQ λc hc=>(zgm h.zaC h.lt c hc).1
 have hrl:(x.rows.getD (x.rows.length - 1) []).length=x.c:=by
  rw[qai,qac (by omega)];exact h.row _ (qau _)
 refine qcm (by rw[hsz,hp1,hrl]) λj a b=>?_
 have hj:j<zab f.cs:=by rw[<- hsz]; exact a
 have hjc:j<x.c:=by rw[<- hp1]; exact hj
 have e1:=zs6 hf.ok hj;have hat:at_ f.vs (dig f.cs j) v=j:=by
  rw[hvs,hcs];simp[dig,at_,zab]
 rw[hf.val _ λu hu=>?_]at e1
 .have hfit:∀ u∈fam x.ps v,zmo cs (x.ps.take x.ps.length) (at_ f.vs (dig f.cs j)) u<cs.getD u 0:=by
   intro u hu;unfold zmo;rw[qcF];by_cases e:u∈x.ps
   .have:=(zsn h.zaC (h.lt u e)).1;rw[qdz e,qdw]; omega
   have:u=v:=(zmw.1 hu).resolve_right e;subst this;rw[qdy e,qdx,hat,h.cv];exact hjc
  obtain⟨k1,k2⟩:=zw1 h hfit;have k3:zBd cs x (zmo cs (x.ps.take x.ps.length) (at_ f.vs (dig f.cs j)))=x.rows.length - 1:=by
   unfold zBd;have:x.ps.map (zmo cs (x.ps.take x.ps.length) (at_ f.vs (dig f.cs j)))=(cd cs x.ps).map (· - 1):=by
    unfold cd;rw[qde];refine qbs λu hu=>?_
    unfold zmo;rw[qcF,qdz hu,qdw];rfl
   rw[this];have:=zqE (cd cs x.ps) λc hc=>(zgm h.zaC h.lt c hc).1
   rw[h.len];omega
  have k4:zmo cs (x.ps.take x.ps.length) (at_ f.vs (dig f.cs j)) v=j:=by
   unfold zmo;rw[qcF,qdy h.nv,qdx,hat]
  rw[k1,k3,k4]at e1;unfold Fc.get at e1;rw[zn5 a,zn5 b];exact e1.symm
 rw[hvs]at hu;rw[qaP.1 hu,hat,h.cv];exact hjc
end Go.Dc
namespace Go.Dc
open Go Go.Mx Go.Lx
def zgA:Nat->(Nat->Nat)->Nat
 | 0,_=>0
 | n+1,f=>zgA n f+f n
theorem zdS{f g:Nat->Nat}:∀ {n:Nat},(∀ x,x<n->f x=g x)->zgA n f=zgA n g
 | 0,_=>rfl
 | n+1,h=>by
  unfold zgA;rw[zdS (n:=n) λx hx=>h x (by omega),h n (by omega)]
theorem zrr{f g:Nat->Nat}:∀ n:Nat,zgA n (λx=>f x+g x)=zgA n f+zgA n g
 | 0=>rfl
 | n+1=>by
  show zgA n (λx=>f x+g x)+(f n+g n)=zgA n f+f n+(zgA n g+g n);rw[zrr n];omega
theorem zob:∀ n:Nat,zgA n (λ_=>0)=0
 | 0=>rfl
 | n+1=>by
  show zgA n (λ_=>0)+0=0;rw[zob n]
theorem zoA{f:Nat->Nat->Nat}{m:Nat}:∀ n:Nat,zgA n (λx=>zgA m (f x))=zgA m (λy=>zgA n (λx=>f x y))
 | 0=>(zob m).symm
 | n+1=>by
  have:=zoA (f:=f) (m:=m) n;show zgA n (λx=>zgA m (f x))+zgA m (f n)=zgA m (λy=>zgA n (λx=>f x y)+f n y);rw[this,zrr]
theorem zqV{a:Nat}{f:Nat->Nat}:∀ n:Nat,zgA n (λx=>a * f x)=a * zgA n f
 | 0=>rfl
 | n+1=>by
  show zgA n (λx=>a * f x)+a * f n=a * (zgA n f+f n);rw[zqV n,qdd]
theorem zn7(f:Nat->Nat):∀ n:Nat,zgA n f=((List.range' 0 n).map f).sum
 | 0=>rfl
 | n+1=>by
  rw[List.range'_concat];unfold zgA;rw[zn7 f n];simp
def zrQ(k:Nat->Nat):List Nat->(Nat->Nat)->((Nat->Nat)->Nat)->Nat
 | [],s,G=>G s
 | v :: vs,s,G=>zgA (k v) λx=>zrQ k vs (upd s v x) G
variable{s:Nat->Nat}{v:Nat}
theorem zwH{u x y:Nat}(h:u≠v):upd (upd s u x) v y=upd (upd s v y) u x:=by
 funext w
 by_cases e1:w=v
 .subst e1;rw[zeX,zgI λe=>h e.symm,zeX]
 rw[zgI e1];by_cases e2:w=u
 .subst e2; rw[zeX,zeX]
 rw[zgI e2,zgI e2,zgI e1]
variable{a b:List Nat}
theorem zut{k:Nat->Nat}(h:a.Perm b):a.Nodup->∀(s:Nat->Nat) (G:(Nat->Nat)->Nat),zrQ k a s G=zrQ k b s G:=by
 induction h with
 | nil=>intro _ s G; rfl
 | cons x _ ih=>
  intro hn s G;exact zdS λy _=>ih (qa7.1 hn).2 _ G
 | swap x y l=>
  intro hn s G;have hxy:y≠x:=λe=>(qa7.1 hn).1 (e ▸ qam)
  show zgA (k y) (λp=>zgA (k x) λq=>zrQ k l (upd (upd s y p) x q) G)=zgA (k x) (λq=>zgA (k y) λp=>zrQ k l (upd (upd s x q) y p) G);rw[zoA (f:=λp q=>zrQ k l (upd (upd s y p) x q) G)];exact zdS λq _=>zdS λp _=>by rw[zwH hxy]
 | trans h1 _ ih1 ih2=>
  intro hn s G;rw[ih1 hn,ih2 (h1.nodup_iff.1 hn)]
theorem zrI(h:a.Perm b):zab a=zab b:=by
 induction h with
 | nil=>rfl
 | cons x _ ih=>show x * zab _=x * zab _; rw[ih]
 | swap x y l=>
  show y * (x * zab l)=x * (y * zab l);rw[<- qa6,<- qa6,qaV y x]
 | trans _ _ ih1 ih2=>rw[ih1,ih2]
abbrev zsK:NN:=⟨0,[],[]⟩
def wtO(ns:List NN)(L:List Nat)(s:Nat->Nat):Nat:=zab (L.map λv=>(zht (ns.map (·.c)) v (ns.getD v zsK)).val s)
variable{ns:List NN}
theorem zwt(h:v<ns.length):ns[v]? = some (ns.getD v zsK):=by
 rw[qai,qac h];rfl
structure NCs (cs:List Nat):Prop where
 zaC:∀ c∈cs,1<=c/\c<=4
 l8:cs.length<=8
 prod:zab cs<=1024
structure Stc (cs:List Nat) (f:Fc) (M:Nat):Prop where
 ok:FcOk f
 cs_:f.cs=cd cs f.vs
 var:∀ v∈f.vs,v<cs.length
 le:∀ i,f.get i<=M
theorem NCs.vars{cs vs:List Nat}(h:NCs cs)(hi:vs.Pairwise (· < ·))(hv:∀ v∈vs,v<cs.length):zab (cd cs vs)<=1024/\vs.length<=8/\(∀ c∈cd cs vs,1<=c/\c<=8)/\zck (iL (cd cs vs))=true:=by
 have h1:=qan (zhB (λc hc=>(h.zaC c hc).1) hi hv) h.prod;have h2:=qan (zl2 hi hv) h.l8;have h3:=zzw h.zaC hv;refine⟨h1,h2,h3,?_⟩;unfold zck;rw[zal,show(cd cs vs).length=vs.length by simp[cd],qdz (by omega),qbG];exact zhb h3 (by omega)
variable{f:Fc}{M:Nat}
theorem Stc.at{cs:List Nat}(h:Stc cs f M)(hv:v∈f.vs):at_ f.vs f.cs v=cs.getD v 0:=by
 rw[h.cs_];exact zhh (h:=λp=>cs.getD p 0) hv
variable{N:Nat}
theorem Stc.agr{cs:List Nat}{g:Fc}(hf:Stc cs f M)(hg:Stc cs g N):Agr f g:=λv h1 h2=>by rw[hf.at h1,hg.at h2]
theorem Stc.ucs{cs:List Nat}{g:Fc}(hf:Stc cs f M)(hg:Stc cs g N):ucs f g=cd cs (uni f g):=by
 refine qbs λv hv=>?_
 rcases(zel hf.ok hg.ok).1 hv with h | h
 .rw[zD1 h,hf.at h]
 rw[zEH (hf.agr hg) h,hg.at h]
theorem Stc.uv{cs:List Nat}{f g:Fc}(hf:Stc cs f M)(hg:Stc cs g N):∀ v∈uni f g,v<cs.length:=λv hv=>((zel hf.ok hg.ok).1 hv).elim (hf.var v) (hg.var v)
theorem Stc.zae{cs:List Nat}{g:Fc}(hc:NCs cs)(hf:Stc cs f M)(hg:Stc cs g N):zck (iL (Go.Dc.ucs f g))=true:=by
 rw[hf.ucs hg];exact(hc.vars (zik f g) (hf.uv hg)).2.2.2
theorem Stc.zpM{cs:List Nat}{g:Fc}(hf:Stc cs f M)(hg:Stc cs g N)(hB:M * N<=zc2):Go.Dc.zpM f g=true:=
 qbN.2 λj _=>qdz (qan (qbc (hf.le _) (hg.le _)) hB)
theorem Stc.mul{cs:List Nat}{g:Fc}(hc:NCs cs)(hf:Stc cs f M)(hg:Stc cs g N)(hB:M * N<=zc2):Stc cs (zsA f g) (M * N):=by
 refine⟨zAW hf.ok hg.ok (hf.zae hc hg) (hf.zpM hg hB),hf.ucs hg,hf.uv hg,zgs λx hx=>?_⟩;obtain⟨j,_,rfl⟩:=qaE.1 hx;exact qbc (hf.le _) (hg.le _)
theorem Stc.zzW{cs:List Nat}{f g:Fc}{M N:Nat}(hc:NCs cs)(hf:Stc cs f M)(hg:Stc cs g N)(hB:M * N<=zc2):zcz f.D g.D=some ((zsA f g).D,0):=by
 rw[Go.Dc.zzW hf.ok hg.ok,(znj hf.ok hg.ok).2 (hf.agr hg),qdw];unfold mulR;rw[hf.zae hc hg,qdw,hf.zpM hg hB,qdw]
def zrL(cs:List Nat)(s:Nat->Nat):Prop:=∀ v,v<cs.length->s v<cs.getD v 0
theorem Stc.fit{cs:List Nat}(h:Stc cs f M)(hs:zrL cs s):Fit f s:=λv hv=>by rw[h.at hv]; exact hs v (h.var v hv)
theorem Stc.zpq{cs:List Nat}{f g:Fc}{M N:Nat}(hc:NCs cs)(hf:Stc cs f M)(hg:Stc cs g N)(hB:M * N<=zc2){s:Nat->Nat}(hs:zrL cs s):(zsA f g).val s=f.val s * g.val s:=Go.Dc.zpq hf.ok hg.ok (hf.zae hc hg) ((hf.mul hc hg hB).fit hs)
variable{g:Nat}
theorem RightN.ncs(h:RightN g ns):NCs (ns.map (·.c)):=⟨h.cs.zaC,by simpa using h.n2,h.prod⟩
theorem RightN.stc(h:RightN g ns)(hv:v<ns.length):Stc (ns.map (·.c)) (zht (ns.map (·.c)) v (ns.getD v zsK)) 60:=by
 have hf:=h.fac (zwt hv);exact⟨zoR hf,rfl,hf.flt,zwL hf⟩
def zpW:Fc:=⟨[],[],[1]⟩
theorem zmt(cs:List Nat):Stc cs zpW 1:=by
 refine⟨⟨rfl,by simp[zpW],by simp[zpW],by simp[zpW,zab],rfl,List.Pairwise.nil,by simp[zpW],λw hw=>by rw[qaP.1 hw]; decide⟩,rfl,by simp[zpW],zgs (by simp[zpW])⟩
theorem zz5(s:Nat->Nat):zpW.val s=1:=rfl
structure Prf (ns:List NN) (i:Nat) (f:Fc):Prop where
 st:Stc (ns.map (·.c)) f (60 ^ i)
 mem:∀ v,v<i->v∈f.vs
 val:∀ s,zrL (ns.map (·.c)) s->f.val s=wtO ns (List.range i) s
theorem zqv:∀(cs:List Nat) (w:Nat),zBP cs w=dig cs w
 | [],_=>rfl
 | c :: cs,w=>by
  unfold zBP dig;rw[zqv cs]
def wld(ns:List NN)(w:Nat):Nat->Nat:=zfS (List.range ns.length) (dig (ns.map (·.c)) w) λ_=>0
theorem zAE(ns:List NN)(w:Nat):(List.range ns.length).map (wld ns w)=dig (ns.map (·.c)) w:=by
 have hl:(List.range ns.length).length=(dig (ns.map (·.c)) w).length:=by rw[zfC]; simp
 rw[<- zoq qcX hl];exact qbs λu hu=>zpw qcX hl hu
theorem zzX(ns:List NN)(w:Nat){u:Nat}(hu:u<ns.length):wld ns w u=(dig (ns.map (·.c)) w).getD u 0:=by
 rw[<- zAE ns w,qai,qa5,qcY hu];rfl
theorem zzs(h:RightN g ns){w:Nat}(hw:w<zab (ns.map (·.c))):zrL (ns.map (·.c)) (wld ns w):=by
 intro v hv;have hv':v<ns.length:=by simpa using hv
 rw[zzX ns w hv',<- zqv];have:=ztq hw v hv;rw[show(ns.map (·.c)).getD v 0=(ns.map (·.c))[v] by rw[qai,qac hv]; rfl];exact this
def wtW(ns:List NN)(w:Nat):Nat:=wtO ns (List.range ns.length) (wld ns w)
theorem zsX(h:RightN g ns):zd7 (zb4 g ns)=some (((zab (ns.map (·.c)):Nat):Int),0):=by
 obtain⟨os,_,_,e⟩:=zpD h;unfold zd7;rw[e,qaa];simp only[];have hn:=h.ncs;have hcd:cd (ns.map (·.c)) (List.range (ns.map (·.c)).length)=ns.map (·.c):=zlQ _;have hv:=hn.vars (vs:=List.range (ns.map (·.c)).length) qck λv hv=>qbn.1 hv
 rw[hcd]at hv;rw[show((0:Int)== 0)=true from rfl,qdw,zvT,hv.2.2.2,qdw,zhx,qaa]
theorem Prf.get(h:RightN g ns)(hf:Prf ns ns.length f):f.ws.length=zab (ns.map (·.c))/\∀ w,w<zab (ns.map (·.c))->zaO (iL f.ws) (w:Int)=some ((wtW ns w:Nat):Int):=by
 have hvs:f.vs=List.range ns.length:=zh8 hf.st.ok.inc qck λv=>by
  rw[qbn];exact⟨λhv=>by simpa using hf.st.var v hv,hf.mem v⟩
 have hcs:f.cs=ns.map (·.c):=by
  rw[hf.st.cs_,hvs];have:=zlQ (ns.map (·.c));rw[qar]at this;exact this
 have hsz:=hf.st.ok.size;rw[hcs]at hsz;refine⟨hsz,λw hw=>?_⟩;have e:=zs6 hf.st.ok (i:=w) (by rw[hcs]; exact hw);have e2:f.val (at_ f.vs (dig f.cs w))=f.val (wld ns w):=by
  refine val_congr λu hu=>?_
  rw[hvs,hcs];rw[hvs]at hu;exact(zpw qcX (by rw[zfC]; simp) hu).symm
 rw[e2,hf.val _ (zzs h hw)]at e;rw[zeB (by rw[hsz]; exact hw)];congr 2
 exact e.symm
theorem zyv{g:Nat}{ns:List NN}{e:List Int}{r1:S_net_network×Int}(hc:r1.1.zae=iL (ns.map (·.c)))(hl:e.length=ns.length)(hn:ns.length<=8):∀(n m i:Nat),i<=e.length->e.length - i<n->e.length - i<m ->
  (za0 e r1 n (i:Int)=some (.go ())/\zbv e (zb4 g ns) m (i:Int)=some (.go ()))\/
  (za0 e r1 n (i:Int)=some (.ret 2)/\zbv e (zb4 g ns) m (i:Int)=some (.ret false))
 | 0,_,_,_,h,_=>absurd h (qat _)
 | _,0,_,_,_,h=>absurd h (qat _)
 | n+1,m+1,i,h1,h3,h5=>by
  unfold za0 zbv;rw[zaH];by_cases hi:i<e.length
  .obtain⟨x,hx⟩:∃ x,e[i]=x:=⟨_,rfl⟩;have hin:i<ns.length:=by omega
   rw[qdz hi,qdw,qdw,zbd hi,qaa,qaa,hx];by_cases c1:x < -1
   .rw[qdz c1,qdw,qdw,qaa,qaa,qdw,qdw];exact .inr ⟨rfl,rfl⟩
   have hg:zaO (iL (ns.map (·.c))) (i:Int)=some ((ns[i].c:Nat):Int):=by rw[zbf (by simpa using hin)]; simp
   rw[qdy c1,qdx,qdx,hc,hg,show zaO (zb4 g ns).nodes (i:Int)=some (nd ns[i])from zcO hin];simp only[qaa,show(nd ns[i]).zaC=((ns[i].c:Nat):Int)from rfl];by_cases c2:((ns[i].c:Nat):Int)<=x
   .rw[qdz c2,qdw,qdw];exact .inr ⟨rfl,rfl⟩
   rw[qdy c2,qdx,qdx,zak (by omega)];exact zyv hc hl hn n m (i+1) hi (by omega) (by omega)
  rw[qdy hi,qdx,qdx];exact .inl ⟨rfl,rfl⟩
theorem zy9(h:RightN g ns)(e:List Int):∃ b:Bool,zdY (zb4 g ns) e=some b/\zbs (zb4 g ns) e=some (bif b then 0 else 2):=by
 obtain⟨os,_,_,e2⟩:=zpD h;have hn:=h.n2;have hnl:(zb4 g ns).nodes.length=ns.length:=by simp[zb4]
 unfold zdY zbs;rw[e2,qaa];simp only[];rw[show((0:Int)== 0)=true from rfl,qdw,hnl];by_cases hl:e.length=ns.length
 .rw[show(((e.length:Nat):Int)==((ns.length:Nat):Int))=true by rw[hl]; simp,qdw,qdw,zaI];rcases zyv (g:=g) (e:=e) (r1:=(⟨zb4 g ns,iL (ns.map (·.c)),iL (zca ns),iL os⟩,0)) rfl hl hn (e.length+2) (e.length+2) 0 (qaz _) (by omega) (by omega)with⟨g1,g2⟩| ⟨g1,g2⟩
  .rw[show((0:Nat):Int)=0 from rfl]at g1 g2;rw[g1,g2,qaa,qaa];exact⟨true,rfl,rfl⟩
  rw[show((0:Nat):Int)=0 from rfl]at g1 g2;rw[g1,g2,qaa,qaa];exact⟨false,rfl,rfl⟩
 rw[show(((e.length:Nat):Int)==((ns.length:Nat):Int))=false by rw[qdD]; omega,qdx,qdx];exact⟨false,rfl,rfl⟩
theorem zFR{a:Int}:∃ q,zki .u8 a (v:Int)=some q:=zqd .u8 a
end Go.Dc
