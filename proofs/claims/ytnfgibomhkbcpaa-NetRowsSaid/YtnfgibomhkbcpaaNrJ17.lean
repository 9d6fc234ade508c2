/-
 Plain laws: the weight of a world. Conditions: none.
-/
import Derived.Test.YtnfgibomhkbcpaaNrJ16
set_option linter.unusedSimpArgs false
set_option linter.unusedVariables false
namespace Go.Dc
open Go Go.Mx Go.Lx
theorem RightN.cs{g:Nat}{ns:List NN}(h:RightN g ns):CsOk (ns.map (·.c)):=by
 refine⟨by have:=h.n2; simpa using this,fun c hc=>?_,h.prod⟩;obtain⟨x,hx,rfl⟩:=qaJ.1 hc;exact h.card x hx
def lo(ps:List Nat)(v:Nat):List Nat:=ps.filter fun p=>decide (p<v)
def hi(ps:List Nat)(v:Nat):List Nat:=ps.filter fun p=>decide (v<p)
def fam(ps:List Nat)(v:Nat):List Nat:=lo ps v ++ v :: hi ps v
theorem zs7{ps:List Nat}{v x:Nat}(h:x∈lo ps v):x<v:=of_decide_eq_true (qbj.1 h).2
theorem ztf{ps:List Nat}{v x:Nat}(h:x∈hi ps v):v<x:=of_decide_eq_true (qbj.1 h).2
theorem zpI{ps:List Nat}{v:Nat}(h:ps.Pairwise (· < ·))(hv:v ∉ ps):lo ps v ++ hi ps v=ps:=by
 refine zgX (qcz.2 ⟨qbu _ h,qbu _ h,fun a ha b hb=>Nat.lt_trans (zs7 ha) (ztf hb)⟩) h fun x=>?_
 unfold lo hi;simp only[qbT,qbj,decide_eq_true_eq];constructor
 ·rintro(⟨h1,_⟩| ⟨h1,_⟩)<;> exact h1
 intro hx;rcases Nat.lt_trichotomy x v with h1 | h1 | h1
 ·exact .inl ⟨hx,h1⟩
 ·exact absurd (h1 ▸ hx) hv
 exact .inr ⟨hx,h1⟩
theorem zgN{ps:List Nat}{v:Nat}(h:ps.Pairwise (· < ·)):(fam ps v).Pairwise (· < ·):=by
 refine qcz.2 ⟨qbu _ h,qbw.2 ⟨fun a ha=>ztf ha,qbu _ h⟩,fun a ha b hb=>?_⟩;rcases qaP.1 hb with rfl | hb
 ·exact zs7 ha
 exact Nat.lt_trans (zs7 ha) (ztf hb)
theorem zdY{ps:List Nat}{v u:Nat}:u∈fam ps v↔u=v∨u∈ps:=by
 unfold fam lo hi;simp only[qbT,qaP,qbj,decide_eq_true_eq];constructor
 ·rintro(⟨h1,_⟩| h1 | ⟨h1,_⟩)
  ·exact .inr h1
  ·exact .inl h1
  exact .inr h1
 rintro(h1 | h1)
 ·exact .inr (.inl h1)
 rcases Nat.lt_trichotomy u v with h2 | h2 | h2
 ·exact .inl ⟨h1,h2⟩
 ·exact .inr (.inl h2)
 exact .inr (.inr ⟨h1,h2⟩)
theorem zxr(x y:Int):zcr x y=some (decide (x<y)):=by
 unfold zcr;rw[show zca x=some false from rfl,qaa,cond_false,qaa]
theorem zyO{xs:List Nat}{v k:Nat}(hl:xs.length≤1000)(h1:∀ i (h:i<xs.length),i<k→xs[i]<v)(h2:∀ i (h:i<xs.length),k≤i→v≤xs[i]):∀(n i j:Nat),i≤k→k≤j→j≤xs.length→j - i<n →
  zaq (iL xs) (v:Int) n (i:Int) (j:Int)=some (k:Int)
 | 0,_,_,_,_,_,h=>absurd h (qas _)
 | n+1,i,j,a,b,c,d=>by
  unfold zaq;rw[zaH];by_cases hij:i<j
  ·have hm:(i+j) / 2<j:=by omega
   have hm2:i≤(i+j) / 2:=by omega
   have hx:(i+j) / 2<xs.length:=by omega
   rw[decide_eq_true hij,cond_true,show((i:Int)+(j:Int))=((i+j:Nat):Int) by omega,zav (by omega),zez (by omega),show((1:Int))=((1:Nat):Int)from rfl,zzF (by omega),qaa,qbG,Nat.pow_one,zav (by omega),za7 hx,qaa,zxr,qaa,zaH];by_cases hc:xs[(i+j) / 2]<v
   ·rw[decide_eq_true hc,cond_true,show((1:Nat):Int)=1 from rfl,zap (by omega)];refine zyO hl h1 h2 n _ j ?_ b c (by omega);rcases qa0 ((i+j) / 2) k with g | g
    ·exact g
    exact absurd (h2 _ hx g) (by omega)
   rw[decide_eq_false hc,cond_false];refine zyO hl h1 h2 n i _ a ?_ (by omega) (by omega);rcases qa0 ((i+j) / 2) k with g | g
   ·exact absurd (h1 _ hx g) hc
   exact g
  rw[decide_eq_false hij,cond_false,show i=k by omega]
theorem zAA{ps:List Nat}{v:Nat}(h:ps.Pairwise (· < ·))(hv:v ∉ ps)(hl:ps.length≤1000):∃ b,zaI (iL ps) (v:Int)=some ((((lo ps v).length:Nat):Int),b):=by
 have e:=zpI h hv;have hlen:(lo ps v).length≤ps.length:=qcY _ _;have g1:∀ i (h:i<ps.length),i<(lo ps v).length→ps[i]<v:=by
  intro i hi1 hi2;have:ps[i]=(lo ps v)[i]:=by
   have e2:ps[i]=(lo ps v ++ hi ps v)[i]'(by rw[e]; exact hi1):=by congr 1; exact e.symm
   rw[e2,List.getElem_append_left hi2]
  rw[this];exact zs7 (qat hi2)
 have g2:∀ i (h:i<ps.length),(lo ps v).length≤i→v≤ps[i]:=by
  intro i hi1 hi2;have hi3:i<(lo ps v ++ hi ps v).length:=by rw[e]; exact hi1
  have:ps[i]=(hi ps v)[i - (lo ps v).length]'(by rw[qaA]at hi3; omega):=by
   have e2:ps[i]=(lo ps v ++ hi ps v)[i]'hi3:=by congr 1; exact e.symm
   rw[e2,List.getElem_append_right hi2]
  rw[this];exact Nat.le_of_lt (ztf (qat _))
 have k:=zyO hl g1 g2 (ps.length+2) 0 ps.length (qaC _) hlen (qam _) (by omega);rw[show((0:Nat):Int)=0 from rfl]at k;unfold zaI;rw[zan,zaX,k,qaa,zaH];by_cases c:(lo ps v).length<ps.length
 ·rw[decide_eq_true c,cond_true,za7 c,qaa,show zbC ((ps[(lo ps v).length]:Nat):Int)=some false from rfl,qaa,cond_false];cases hb:(((ps[(lo ps v).length]:Nat):Int)==(v:Int))with
  | true=>exact⟨true,by rw[cond_true,qaa]⟩
  | false=>exact⟨false,by rw[cond_false,qaa]⟩
 rw[decide_eq_false c,cond_false,qaa];exact⟨false,rfl⟩
theorem zzm{ps:List Nat}{v:Nat}(h:ps.Pairwise (· < ·))(hv:v ∉ ps)(hl:ps.length≤1000):zwg 8 (iL ps) (((lo ps v).length:Nat):Int) [(v:Int)]=some (iL (fam ps v)):=by
 have e:=zpI h hv;have hlen:(lo ps v).length≤ps.length:=qcY _ _;unfold zwg;have hm:70368744177664≤zag:=by decide
 rw[if_pos ⟨⟨by omega,by rw[zan]; omega⟩,by simp,by rw[zan]; simp only[qaF,qaN]; omega⟩,qaD];have ep:iL ps=iL (lo ps v)++ iL (hi ps v):=by rw[← zoK,e]
 have t1:(iL ps).take (lo ps v).length=iL (lo ps v):=by
  rw[ep,qcm (by rw[zan]; exact qam _),qaK (by rw[zan]; exact qam _)]
 have t2:(iL ps).drop (lo ps v).length=iL (hi ps v):=by
  rw[ep,List.drop_append_of_le_length (by rw[zan]; exact qam _),qb4 (by rw[zan]; exact qam _),qa9]
 rw[t1,t2];unfold fam;rw[zoK,show iL (v :: hi ps v)=(v:Int):: iL (hi ps v)from rfl,qa6];rfl
def cd(cs us:List Nat):List Nat:=us.map fun p=>cs.getD p 0
structure FacOk (cs:List Nat) (v:Nat) (x:NN):Prop where
 inc:x.ps.Pairwise (· < ·)
 nv:v ∉ x.ps
 lt:∀ p∈x.ps,p<cs.length
 hv:v<cs.length
 cv:cs.getD v 0=x.c
 len:x.rows.length=zab (cd cs x.ps)
 row:∀ r∈x.rows,r.length=x.c
 num:∀ r∈x.rows,∀ w∈r,w≤60
 card:∀ c∈cs,1≤c∧c≤4
 l8:cs.length≤8
 prod:zab cs≤1024
def zo8(cs:List Nat)(v:Nat)(x:NN):Nat:=zab (cd cs (lo x.ps v))
def za6(cs:List Nat)(v:Nat)(x:NN):Nat:=zab (cd cs (hi x.ps v))
def zbm(cs:List Nat)(v:Nat)(x:NN):Fc:=⟨fam x.ps v,cd cs (fam x.ps v),(List.range' 0 (zo8 cs v x * x.c * za6 cs v x)).map (zwy (za6 cs v x) x.c x.rows)⟩
theorem zey{cs us:List Nat}(h:∀ c∈cs,1≤c∧c≤4)(hu:∀ u∈us,u<cs.length):∀ c∈cd cs us,1≤c∧c≤4:=by
 intro c hc;obtain⟨u,h1,rfl⟩:=qaJ.1 hc;have h2:=hu u h1;have:cs.getD u 0=cs[u]:=by rw[qai,qad h2]; rfl
 rw[this];exact h _ (qat h2)
theorem FacOk.flt{cs:List Nat}{v:Nat}{x:NN}(h:FacOk cs v x):∀ u∈fam x.ps v,u<cs.length:=by
 intro u hu;rcases zdY.1 hu with rfl | hu
 ·exact h.hv
 exact h.lt u hu
theorem FacOk.fl8{cs:List Nat}{v:Nat}{x:NN}(h:FacOk cs v x):(fam x.ps v).length≤8:=qao (zhI (zgN h.inc) h.flt) h.l8
theorem zxD{ps:List Nat}{v u:Nat}(h:u∈hi ps v):u∈ps:=(qbj.1 h).1
theorem zoB(cs a b:List Nat):cd cs (a ++ b)=cd cs a ++ cd cs b:=qbF
theorem FacOk.cdf{cs:List Nat}{v:Nat}{x:NN}(h:FacOk cs v x):cd cs (fam x.ps v)=cd cs (lo x.ps v)++ x.c :: cd cs (hi x.ps v):=by
 unfold fam;rw[zoB];show _ ++ cs.getD v 0 :: _=_;rw[h.cv];rfl
theorem FacOk.size{cs:List Nat}{v:Nat}{x:NN}(h:FacOk cs v x):zab (cd cs (fam x.ps v))=zo8 cs v x * x.c * za6 cs v x:=by
 rw[h.cdf,zhp,qbi];rfl
theorem FacOk.zy1{cs:List Nat}{v:Nat}{x:NN}(h:FacOk cs v x):x.rows.length=zo8 cs v x * za6 cs v x:=by
 have e:=zpI h.inc h.nv;have e2:cd cs x.ps=cd cs (lo x.ps v)++ cd cs (hi x.ps v):=by rw[← zoB,e]
 rw[h.len,e2,zhp];rfl
theorem zlX{f:Nat→Nat}(p:Nat→Bool):∀ {us:List Nat},(∀ u∈us,1≤f u)→zab ((us.filter p).map f)≤zab (us.map f)
 | [],_=>qam _
 | u :: us,h=>by
  have h1:=h u qar;have h2:=zlX p fun w hw=>h w (qak u hw)
  have h3:zab ((u :: us).map f)=f u * zab (us.map f):=rfl;rw[List.filter_cons,h3];cases p u with
  | true=>
   rw[if_pos rfl];exact Nat.mul_le_mul_left _ h2
  | false=>
   rw[if_neg (by decide)];exact qao h2 (qcs _ h1)
theorem ztP(cs:List Nat):(List.range cs.length).map (fun p=>cs.getD p 0)=cs:=by
 refine qbP (by simp) fun i h1 h2=>?_
 rw[qc1,List.getElem_range,qai,qad h2];rfl
theorem zoR{cs us:List Nat}(hc:∀ c∈cs,1≤c)(h:us.Pairwise (· < ·))(hu:∀ u∈us,u<cs.length):zab (cd cs us)≤zab cs:=by
 have e:us=(List.range cs.length).filter (fun u=>decide (u∈us)):=zgX h (qbu _ List.pairwise_lt_range) fun x=>by
  simp only[qbj,qcr,decide_eq_true_eq];exact⟨fun hx=>⟨hu x hx,hx⟩,fun hx=>hx.2⟩
 have k:=zlX (f:=fun p=>cs.getD p 0) (fun u=>decide (u∈us)) (us:=List.range cs.length) fun u hx=>by
  have h2:=qcr.1 hx;rw[qai,qad h2];exact hc _ (qat h2)
 rw[← e,ztP]at k;exact k
theorem FacOk.le{cs:List Nat}{v:Nat}{x:NN}(h:FacOk cs v x):zo8 cs v x * x.c * za6 cs v x≤1024:=by
 rw[← h.size];exact qao (zoR (fun c hc=>(h.card c hc).1) (zgN h.inc) h.flt) h.prod
theorem FacOk.B0{cs:List Nat}{v:Nat}{x:NN}(h:FacOk cs v x):0<za6 cs v x:=zdl fun c hc=>(zey h.card (fun u hu=>h.lt u (zxD hu)) c hc).1
theorem FacOk.c1{cs:List Nat}{v:Nat}{x:NN}(h:FacOk cs v x):1≤x.c∧x.c≤4:=by
 have:=zey (us:=[v]) h.card (fun u hu=>by rw[qa5.1 hu]; exact h.hv) (cs.getD v 0) (qa5.2 rfl);rw[h.cv]at this;exact this
def bp(k:Nat):Nat→List Nat→Nat
 | _,[]=>1
 | i,c :: r=>(bif decide (k<i)then c else 1)* bp k (i+1) r
theorem zw2{k:Nat}:∀(b:List Nat) (i:Nat),k<i→bp k i b=zab b
 | [],_,_=>rfl
 | c :: b,i,h=>by
  unfold bp;rw[decide_eq_true h,cond_true,zw2 b (i+1) (by omega)];rfl
theorem zua{k c:Nat}{b:List Nat}:∀(a:List Nat) (i:Nat),a.length+i=k→bp k i (a ++ c :: b)=zab b
 | [],i,h=>by
  have h:i=k:=by simpa using h
  subst h;rw[qa9];unfold bp;rw[decide_eq_false (qb9 i),cond_false,qbb,zw2 b (i+1) (by omega)]
 | d :: a,i,h=>by
  rw[qba];unfold bp;rw[decide_eq_false (by simp only[qaF]at h; omega),cond_false,qbb];exact zua a (i+1) (by simp only[qaF]at h; omega)
theorem zu5{fs cs:List Nat}{k:Nat}{b0:Bool}{p0:S_net_network}(hp:p0.cards=iL cs)(hc:∀ c∈cs,1≤c∧c≤4)(hl:fs.length≤8)(hf:∀ u∈fs,u<cs.length):∀(ws us:List Nat) (n b:Nat),us ++ ws=fs→b≤4 ^ us.length→ws.length<n →
  zaR (iL fs) p0 ((k:Int),b0) n (us.length:Int) (b:Int) (iL (cd cs us))=some (((b * bp k us.length (cd cs ws):Nat):Int),iL (cd cs fs))
 | _,_,0,_,_,_,h=>absurd h (qas _)
 | [],us,n+1,b,h1,h2,h3=>by
  rw[qa2]at h1;subst h1;unfold zaR;rw[zan,zaH,decide_eq_false (qb9 _),cond_false,show cd cs []=[]from rfl,show bp k us.length []=1 from rfl,qcU]
 | w :: ws,us,n+1,b,h1,h2,h3=>by
  have hul:us.length<fs.length:=by rw[← h1]; simp
  have hw:w<cs.length:=hf w (by rw[← h1]; simp);have hcw:=zey (us:=[w]) hc (fun u hu=>by rw[qa5.1 hu]; exact hw) (cs.getD w 0) (qa5.2 rfl);have hp8:(4:Nat) ^ us.length≤65536:=qao (qbY (by decide) (show us.length≤8 by omega)) (by decide);have hnext:(us ++ [w])++ ws=fs:=by rw[qa6]; exact h1
  have hl1:(us ++ [w]).length=us.length+1:=by simp
  unfold zaR;rw[zan,zaH,decide_eq_true hul,cond_true,← h1,zds rfl,h1,qaa,hp,zep hw,qaa,zdZ (by rw[zan]; unfold cd; simp only[qaE,qaF,qaN]; omega),qaa];have e:iL (cd cs us)++ [((cs.getD w 0:Nat):Int)]=iL (cd cs (us ++ [w])):=by rw[zoB,zoK]; rfl
  rw[e,zap (by omega),show((us.length+1:Nat):Int)=(((us ++ [w]).length:Nat):Int) by rw[hl1]];simp only[];rw[zaH];by_cases hk:k<us.length
  ·have hb:b * cs.getD w 0≤4 ^ (us.length+1):=by rw[Nat.pow_succ]; exact qbz h2 hcw.2
   have hb2:b * cs.getD w 0≤65536 * 4:=qbz (qao h2 hp8) hcw.2;rw[decide_eq_true hk,cond_true,← qaW,zav (by omega),qaa,zu5 hp hc hl hf ws (us ++ [w]) n (b * cs.getD w 0) hnext (by rw[hl1]; exact hb) (by simp only[qaF]at h3; omega)];rw[show cd cs (w :: ws)=cs.getD w 0 :: cd cs ws from rfl]
   conv=>rhs; unfold bp
   rw[decide_eq_true hk,cond_true,hl1,qbi]
  rw[decide_eq_false hk,cond_false,qaa,zu5 hp hc hl hf ws (us ++ [w]) n b hnext (by rw[hl1,Nat.pow_succ]; omega) (by simp only[qaF]at h3; omega)];rw[show cd cs (w :: ws)=cs.getD w 0 :: cd cs ws from rfl]
  conv=>rhs; unfold bp
  rw[decide_eq_false hk,cond_false,hl1,qbb]
theorem ztm{w:List Nat}{i y:Nat}(h:i<w.length):zeP (iL w) (i:Int) (y:Int)=some (iL (w.set i y)):=by
 rw[zes (by rw[zan]; exact h)];simp[iL,List.map_set]
theorem zxy{A B c i:Nat}{rows:List (List Nat)}{x1:S_api_Node}(hx:x1.card=(c:Int)){zs:List Nat}(hz:rows.getD i []=zs)(hzl:zs.length=c)(hB:0<B)(hi:i<A * B)(hA:A * c * B≤1024)(hc4:1≤c∧c≤4):∀(n x:Nat) (w:List Nat),x≤c→Fil A B c rows (i * c+x) w→c - x<n →
  ∃ w',Fil A B c rows (i * c+c) w'∧zaQ ((i:Int),iL zs) (B:Int) x1 n (x:Int) (iL w)=some (iL w')
 | 0,_,_,_,_,h=>absurd h (qas _)
 | n+1,x,w,h1,h2,h3=>by
  unfold zaQ;rw[zan,hzl,zaH];by_cases hxc:x<c
  ·have hlt:=zxY (c:=c) hi hxc;have hb1:i / B * c+x≤(i / B * c+x)* B:=qaX _ hB;have hAB:A * B≤A * c * B:=qaq B (qaX A hc4.1);have idx:w64 ((w64 ((w64 ((w64 (((i / B:Nat):Int)* x1.card))+(x:Int)))* (B:Int)))+((i % B:Nat):Int))=(((i / B * c+x)* B+i % B:Nat):Int):=by
    rw[hx,← qaW,zav (by omega),← qci,zav (by omega),← qaW,zav (by omega),← qci,zav (by omega)]
   have hw:(i / B * c+x)* B+i % B<w.length:=by rw[h2.len]; exact hlt
   have hst:=h2.step hB hi hxc;rw[hz]at hst;have hget:zs.getD x 0=zs[x]'(by omega):=by rw[qai,qad (by omega)]; rfl
   rw[hget]at hst;obtain⟨w',k1,k2⟩:=zxy hx hz hzl hB hi hA hc4 n (x+1) _ hxc hst (by omega);refine⟨w',k1,?_⟩;rw[decide_eq_true hxc,cond_true,za7 (by omega),qaa];simp only[];rw[zwc hB (by omega),qaa,znA hB,qaa,idx,za7 hw,qaa,ztm hw,qaa,zap (by omega),k2]
  have:x=c:=by omega
  subst this;exact⟨w,h2,by rw[decide_eq_false (qb9 _),cond_false]⟩
def zxd:Nat→List (List Nat)→List (Int×List Int)
 | _,[]=>[]
 | i,z :: r=>((i:Int),iL z):: zxd (i+1) r
theorem zx6:∀(zs:List (List Nat)) (i:Nat),((zs.map iL).zipIdx i).map (fun p=>((p.2:Int),p.1))=zxd i zs
 | [],_=>rfl
 | z :: zs,i=>by
  rw[qaG,List.zipIdx_cons,qaG,zx6 zs (i+1)];rfl
theorem zxO{A B c:Nat}{rows:List (List Nat)}{x1:S_api_Node}(hx:x1.card=(c:Int))(hr:∀ r∈rows,r.length=c)(hl:rows.length=A * B)(hB:0<B)(hA:A * c * B≤1024)(hc4:1≤c∧c≤4):∀(ys:List (List Nat)) (i:Nat) (w:List Nat),rows.drop i=ys→i≤rows.length→Fil A B c rows (i * c+0) w →
  ∃ w',Fil A B c rows (A * B * c+0) w'∧zaP (B:Int) x1 (zxd i ys) (iL w)=some (iL w')
 | [],i,w,h1,h2,h3=>by
  have:i=A * B:=by
   have:=congrArg List.length h1;simp only[qbM,qaN]at this;omega
  subst this;exact⟨w,h3,rfl⟩
 | z :: ys,i,w,h1,h2,h3=>by
  have hi:i<rows.length:=by
   rcases qa0 i rows.length with g | g
   ·exact g
   rw[qb4 g]at h1; cases h1
  have e:=qav hi;rw[h1]at e;obtain⟨e1,e2⟩:=qcK e;have hz:rows.getD i []=z:=by rw[qai,qad hi,e1]; rfl
  have hzl:z.length=c:=by rw[e1]; exact hr _ (qat hi)
  obtain⟨w1,k1,k2⟩:=zxy hx hz hzl hB (by omega) hA hc4 (c+2) 0 w (qaC _) h3 (by omega);obtain⟨w',g1,g2⟩:=zxO hx hr hl hB hA hc4 ys (i+1) w1 e2.symm hi k1.next;refine⟨w',g1,?_⟩;rw[show((0:Nat):Int)=0 from rfl]at k2;show(zaQ ((i:Int),iL z) (B:Int) x1 (((iL z).length:Int) - 0+2:Int).toNat 0 (iL w)).bind _=_;rw[zan,zaX,hzl,k2,qaa];exact g2
theorem zxE{g:Nat}{ns:List NN}{sets os:List Int}{v:Nat}{x:NN}(hx:ns[v]? = some x)(h:FacOk (ns.map (·.c)) v x):zbp ⟨zeA g ns,iL (ns.map (·.c)),sets,os⟩ (v:Int)=some (zbm (ns.map (·.c)) v x).D:=by
 obtain⟨hv,ev⟩:=qab.1 hx;have hps:x.ps.length≤8:=qao (zhI h.inc h.lt) h.l8;obtain⟨b,e1⟩:=zAA h.inc h.nv (show x.ps.length≤1000 by omega);have e2:=zzm h.inc h.nv (show x.ps.length≤1000 by omega);have e3:=zu5 (fs:=fam x.ps v) (k:=(lo x.ps v).length) (b0:=b) (p0:=⟨zeA g ns,iL (ns.map (·.c)),sets,os⟩) rfl h.card h.fl8 h.flt (fam x.ps v) [] ((fam x.ps v).length+2) 1 rfl (qam _) (by omega);rw[show(([]:List Nat).length:Int)=0 from rfl,show cd (ns.map (·.c)) []=[]from rfl,show iL []=[]from rfl,show((1:Nat):Int)=1 from rfl,show([]:List Nat).length=0 from rfl,h.cdf,zua _ _ (by unfold cd; simp),qbb,← h.cdf]at e3;have hrl:=h.zy1;have hmul:x.rows.length * x.c≤1024:=by
  have:=h.le;rw[hrl,Nat.mul_right_comm];exact this
 have hrl2:x.rows.length≤1024:=qao (qaX _ h.c1.1) hmul;obtain⟨w',k1,k2⟩:=zxO (x1:=nd x) rfl h.row hrl h.B0 h.le h.c1 x.rows 0 _ rfl (qaC _) (Fil.start _ _ _ _);have k3:=k1.all h.B0 (by have:=h.c1; omega);subst k3;unfold zbp;simp only[];rw[show za5 (zeA g ns).nodes (v:Int)=some (nd x) by rw[← ev]; exact zcS hv,qaa,show(nd x).parents=iL x.ps from rfl,e1,qaa,zgB (by rw[zan]; omega),qaa];simp only[];rw[e2,qaa,zan,zaX,e3,qaa];simp only[];rw[show(nd x).rows.length=x.rows.length by simp[nd],show(nd x).card=(x.c:Int)from rfl,← qaW,zav (by omega),zc6 (by omega),qaa,show zeb (nd x)=some (nd x)from rfl,qaa];rw[show zfa (nd x).rows=some () by unfold zfa; rw[if_pos (by rw[show(nd x).rows.length=x.rows.length by simp[nd]]; omega)],qaa];have hz:zrr (nd x).rows=zxd 0 x.rows:=zx6 x.rows 0;have hrep:List.replicate (x.rows.length * x.c) (0:Int)=iL (List.replicate (zo8 (ns.map (·.c)) v x * x.c * za6 (ns.map (·.c)) v x) 0):=by
  rw[zgl,hrl,Nat.mul_right_comm]
 rw[hz,hrep];have k2':zaP ((zab (cd (ns.map (·.c)) (hi x.ps v)):Nat):Int) (nd x) (zxd 0 x.rows) (iL (List.replicate (zo8 (ns.map (·.c)) v x * x.c * za6 (ns.map (·.c)) v x) 0))=_:=k2;rw[k2',qaa];rfl
theorem RightN.fac{g:Nat}{ns:List NN}(h:RightN g ns){v:Nat}{x:NN}(hx:ns[v]? = some x):FacOk (ns.map (·.c)) v x:=by
 obtain⟨hv,ev⟩:=qab.1 hx;have hm:x∈ns:=ev ▸ qat hv;refine⟨h.inc x hm,fun hp=>h.ne hx v hp rfl,by simpa using h.lt x hm,by simpa using hv,?_,(h.rows x hm).len,fun r hr=>((h.rows x hm).row r hr).1,fun r hr w hw=>?_,h.cs.card,by simpa using h.n2,h.prod⟩
 ·rw[qai,qa3,hx];rfl
 have:=zuD hw;have:=((h.rows x hm).row r hr).2;have:=h.g2;omega
def zkk:List Nat→List Nat→(Nat→Nat)→Nat→Nat
 | u :: us,d :: ds,F=>zkk us ds (upd F u d)
 | _,_,F=>F
theorem zwr{cs:List Nat}{v:Nat}{x:NN}(h:FacOk cs v x){j:Nat}(hj:j<zo8 cs v x * x.c * za6 cs v x):dig (cd cs (fam x.ps v)) j=dig (cd cs (lo x.ps v)) (j / (x.c * za6 cs v x))++ j / za6 cs v x % x.c :: dig (cd cs (hi x.ps v)) (j % za6 cs v x):=by
 have hB:=h.B0;have hc:=h.c1;have hp:zab (x.c :: cd cs (hi x.ps v))=x.c * za6 cs v x:=rfl;have hp0:0<x.c * za6 cs v x:=qcS (by omega) hB;rw[h.cdf,znv _ _ _ (by rw[hp]; exact hp0) (by rw[hp,← qbi]; exact hj),hp];congr 1
 show j % (x.c * za6 cs v x) / za6 cs v x :: dig (cd cs (hi x.ps v)) (j % (x.c * za6 cs v x) % za6 cs v x)=_;rw[show j % (x.c * za6 cs v x) / za6 cs v x=j / za6 cs v x % x.c by rw[qaQ,Nat.mod_mul_right_div_self],Nat.mod_mod_of_dvd _ ⟨x.c,qaQ _ _⟩]
theorem zz8{a a' b b':List Nat}{x x':Nat}(h:a ++ x :: b=a' ++ x' :: b')(hl:a.length=a'.length):a=a'∧x=x'∧b=b':=by
 obtain⟨h1,h2⟩:=List.append_inj h hl;obtain⟨h3,h4⟩:=qcK h2;exact⟨h1,h3,h4⟩
theorem zrf{cs:List Nat}{v:Nat}{x:NN}(h:FacOk cs v x){F:Nat→Nat}{j:Nat}(hj:j<zo8 cs v x * x.c * za6 cs v x)(e:(fam x.ps v).map F=dig (cd cs (fam x.ps v)) j):F v=j / za6 cs v x % x.c∧x.ps.map F=dig (cd cs x.ps) (j / (x.c * za6 cs v x)* za6 cs v x+j % za6 cs v x):=by
 rw[zwr h hj]at e;unfold fam at e;rw[qbF,qaG]at e;obtain⟨h1,h2,h3⟩:=zz8 e (by rw[qaE,zfO]; simp[cd]);refine⟨h2,?_⟩;have hB:=h.B0;have hmod:=qbf j hB;have ha:j / (x.c * za6 cs v x)<zo8 cs v x:=qbC (by rw[qaQ (x.c * za6 cs v x),← qbi]; exact hj);have hlt:j / (x.c * za6 cs v x)* za6 cs v x+j % za6 cs v x<zo8 cs v x * za6 cs v x:=by
  have:=qaq (za6 cs v x) (show j / (x.c * za6 cs v x)+1≤zo8 cs v x from ha);rw[qaH,qbb]at this;omega
 have hps:cd cs x.ps=cd cs (lo x.ps v)++ cd cs (hi x.ps v):=by rw[← zoB,zpI h.inc h.nv]
 rw[hps,znv _ _ _ hB hlt];have d1:(j / (x.c * za6 cs v x)* za6 cs v x+j % za6 cs v x) / za6 cs v x=j / (x.c * za6 cs v x):=by rw[qbQ,qcb _ _ hB,qbO hmod,qaO]
 have d2:(j / (x.c * za6 cs v x)* za6 cs v x+j % za6 cs v x) % za6 cs v x=j % za6 cs v x:=by rw[qbQ,qbo,Nat.mod_mod]
 show _=dig _ ((j / (x.c * za6 cs v x)* za6 cs v x+j % za6 cs v x) / za6 cs v x)++ dig _ ((j / (x.c * za6 cs v x)* za6 cs v x+j % za6 cs v x) % za6 cs v x);rw[d1,d2,← h1,← h3,← qbF,zpI h.inc h.nv]
theorem zxh{A B c j:Nat}(hB:0<B)(hj:j<A * c * B):j / (c * B)* B+j % B<A * B:=by
 have hmod:=qbf j hB;have ha:j / (c * B)<A:=qbC (by rw[qaQ (c * B),← qbi]; exact hj);have:=qaq B (show j / (c * B)+1≤A from ha);rw[qaH,qbb]at this;omega
theorem zyj{cs us:List Nat}(h:∀ c∈cs,1≤c∧c≤4)(hu:∀ u∈us,u<cs.length):∀ c∈cd cs us,1≤c∧c≤8:=fun c hc=>⟨(zey h hu c hc).1,qao (zey h hu c hc).2 (by decide)⟩
def zuV(ns:List NN):List S_api_Factor:=(List.range ns.length).map fun v=>(zbm (ns.map (·.c)) v (ns.getD v ⟨0,[],[]⟩)).D
theorem zgY{α:Type}{xs:List α}{i:Nat}{d:α}:xs.getD i d=d∨xs.getD i d∈xs:=by
 rw[qai];rcases qa0 i xs.length with h | h
 ·rw[qad h];exact .inr (qat h)
 rw[qa4 h];exact .inl rfl
theorem zsJ{B c:Nat}{rows:List (List Nat)}(h:∀ r∈rows,∀ w∈r,w≤60)(j:Nat):zwy B c rows j≤60:=by
 unfold zwy;rcases zgY (xs:=rows) (i:=j / (c * B)* B+j % B) (d:=[])with e | e
 ·rw[e]; simp
 rcases zgY (xs:=rows.getD (j / (c * B)* B+j % B) []) (i:=j / B % c) (d:=0)with e2 | e2
 ·rw[e2]; omega
 exact h _ e _ e2
theorem znp{cs:List Nat}{v:Nat}{x:NN}(h:FacOk cs v x):FcOk (zbm cs v x):=by
 have h8:=h.fl8;have hle:=h.le;have hsz:=h.size;refine⟨by simp[zbm,cd],by simp only[zbm,cd,qaE]; omega,zyj h.card h.flt,?_,?_,zgN h.inc,fun u hu=>?_,fun w hw=>?_⟩
 ·show zab (cd cs (fam x.ps v))≤4096;omega
 ·show _=zab (cd cs (fam x.ps v));rw[hsz];simp[zbm]
 ·have:=h.flt u hu;have:=h.l8;omega
 obtain⟨j,_,rfl⟩:=qaJ.1 hw;have:=zsJ (B:=za6 cs v x) (c:=x.c) h.num j;simp only[zg7];omega
theorem zwQ{g:Nat}{ns:List NN}{sets os:List Int}(h:RightN g ns):∀(n i:Nat),i≤ns.length→ns.length - i<n →
  zb2 (⟨zeA g ns,iL (ns.map (·.c)),sets,os⟩,0) n (i:Int) (((List.range i).map fun v=>(zbm (ns.map (·.c)) v (ns.getD v ⟨0,[],[]⟩)).D)++ List.replicate (ns.length - i) ⟨[],[],[]⟩)=some (zuV ns)
 | 0,_,_,h=>absurd h (qas _)
 | n+1,i,h1,h2=>by
  have hn:=h.n2;have hnl:(zeA g ns).nodes.length=ns.length:=by simp[zeA]
  unfold zb2;simp only[];rw[hnl,qaD,zaH];by_cases hi:i<ns.length
  ·have hx:ns[i]? = some (ns.getD i ⟨0,[],[]⟩):=by rw[qai,qad hi]; rfl
   have hf:=h.fac hx;have hlen:(((List.range i).map fun v=>(zbm (ns.map (·.c)) v (ns.getD v ⟨0,[],[]⟩)).D)++ List.replicate (ns.length - i) (⟨[],[],[]⟩:S_api_Factor)).length=ns.length:=by simp; omega
   have ih:=zwQ (sets:=sets) (os:=os) h n (i+1) hi (by omega);have e:(((List.range i).map fun v=>(zbm (ns.map (·.c)) v (ns.getD v ⟨0,[],[]⟩)).D)++ List.replicate (ns.length - i) (⟨[],[],[]⟩:S_api_Factor)).set i (zbm (ns.map (·.c)) i (ns.getD i ⟨0,[],[]⟩)).D=((List.range (i+1)).map fun v=>(zbm (ns.map (·.c)) v (ns.getD v ⟨0,[],[]⟩)).D)++ List.replicate (ns.length - (i+1)) ⟨[],[],[]⟩:=by
    rw[qcW _ _ (by simp),qaE,List.length_range,qcX,show ns.length - i=(ns.length - (i+1))+1 by omega,qaU,qb8,List.range_succ,qbF,qa6];rfl
   rw[decide_eq_true hi,cond_true,zxE hx hf,qaa,zbw (by rw[hlen]; exact hi),qaa,zes (by rw[hlen]; exact hi),qaa,zap (by omega),e,ih]
  have:i=ns.length:=by omega
  subst this;rw[decide_eq_false (qb9 _),cond_false,qcX,qcl,qa2];rfl
theorem zpg{g:Nat}{ns:List NN}(h:RightN g ns):zcT (zeA g ns)=some (zuV ns,0):=by
 obtain⟨os,_,_,e⟩:=zwl h;have hn:=h.n2;have hnl:(zeA g ns).nodes.length=ns.length:=by simp[zeA]
 have e1:=zwQ (sets:=iL (zbV ns)) (os:=iL os) h (ns.length+2) 0 (qaC _) (by omega);rw[show((0:Nat):Int)=0 from rfl,List.range_zero,qc6,qa9,qcw]at e1;unfold zcT;rw[e,qaa];simp only[];rw[show((0:Int)== 0)=true from rfl,cond_true,hnl,zc6 (by omega),qaa,qaD,zaX,e1,qaa]
theorem zjt(ns:List NN):(zuV ns).length=ns.length:=by simp[zuV]
theorem zt8{ns:List NN}{v:Nat}(h:v<ns.length):za5 (zuV ns) (v:Int)=some (zbm (ns.map (·.c)) v (ns.getD v ⟨0,[],[]⟩)).D:=by
 rw[zbw (by rw[zjt]; exact h)];simp[zuV]
def zmL(cs:List Nat)(x:NN)(s:Nat→Nat):Nat:=dot (x.ps.map s) (zax (cd cs x.ps))
theorem zhB{cs:List Nat}{v:Nat}{x:NN}{u:Nat}(hu:u∈fam x.ps v):at_ (zbm cs v x).vs (zbm cs v x).cs u=cs.getD u 0:=ziN (h:=fun p=>cs.getD p 0) hu
theorem zjL{cs:List Nat}{v:Nat}{x:NN}(h:FacOk cs v x){s:Nat→Nat}(hs:∀ u∈fam x.ps v,s u<cs.getD u 0):(zbm cs v x).val s=(x.rows.getD (zmL cs x s) []).getD (s v) 0∧zmL cs x s<x.rows.length:=by
 have hok:=znp h;have hb:zcw (cd cs (fam x.ps v)) ((fam x.ps v).map s):=Fit.below hok (f:=zbm cs v x) fun u hu=>by rw[zhB hu]; exact hs u hu
 have hlt:=zlE hb;have hdig:=znb hb;have hj:dot ((fam x.ps v).map s) (zax (cd cs (fam x.ps v)))<zo8 cs v x * x.c * za6 cs v x:=by rw[← h.size]; exact hlt
 obtain⟨k1,k2⟩:=zrf h (F:=s) hj hdig.symm;have hkl:=zxh h.B0 hj;have hps:zab (cd cs x.ps)=zo8 cs v x * za6 cs v x:=by rw[← h.len,h.zy1]
 have hr:zmL cs x s=dot ((fam x.ps v).map s) (zax (cd cs (fam x.ps v))) / (x.c * za6 cs v x)* za6 cs v x+dot ((fam x.ps v).map s) (zax (cd cs (fam x.ps v))) % za6 cs v x:=by
  unfold zmL;rw[k2,zgT (zyj h.card h.lt) (by rw[hps]; exact hkl)]
 refine⟨?_,by rw[hr,h.zy1]; exact hkl⟩;show(zbm cs v x).get (dot ((fam x.ps v).map s) (zax (cd cs (fam x.ps v))))=_;rw[hr,k1];unfold Fc.get zbm;simp only[];rw[get_map hj];rfl
theorem znK{cs:List Nat}{v:Nat}{x:NN}(h:FacOk cs v x)(i:Nat):(zbm cs v x).get i≤60:=by
 unfold Fc.get;rcases zgY (xs:=(zbm cs v x).ws) (i:=i) (d:=0)with e | e
 ·rw[e]; omega
 obtain⟨j,_,e2⟩:=qaJ.1 e;rw[← e2];exact zsJ h.num j
theorem zho{cs:List Nat}{v:Nat}{x:NN}(h:FacOk cs v x):rest (zbm cs v x) v=x.ps:=by
 unfold rest;refine zgX (qbu _ (zgN h.inc)) h.inc fun u=>?_
 show u∈(fam x.ps v).filter _↔_;simp only[qbj,zdY,qbA,beq_eq_false_iff_ne];constructor
 ·rintro⟨h1 | h1,h2⟩
  ·exact absurd h1 h2
  exact h1
 exact fun h1=>⟨.inr h1,fun e=>h.nv (e ▸ h1)⟩
theorem zvJ{cs:List Nat}{v:Nat}{x:NN}{u:Nat}(hu:u∈fam x.ps v):∃ k,pos (zbm cs v x).vs u=some k:=zjH hu
theorem zvK(xs:List Nat):big false xs=xs.sum:=by
 induction xs with
 | nil=>rfl
 | cons x xs ih=>rw[zoQ,ih]; rfl
theorem zvu{r:List Nat}{c:Nat}(h:r.length=c):(List.range' 0 c).map (fun p=>r.getD p 0)=r:=by
 refine qbP (by simp[h]) fun i h1 h2=>?_
 simp[qai,h2]
theorem zvr{cs:List Nat}{g v:Nat}{x:NN}(h:FacOk cs v x)(hg:∀ r∈x.rows,r.sum=g):∃ vs,zbL (zbm cs v x).D (v:Int)=some (⟨iL x.ps,vs,iL (List.replicate x.rows.length g)⟩,0):=by
 have hok:=znp h;obtain⟨k,hk⟩:=zvJ (cs:=cs) (x:=x) (v:=v) (zdY.2 (.inl rfl));have hle:=h.le;have hsz:=h.size;have hB:zab (zbm cs v x).cs * 60≤zg7:=by
  show zab (cd cs (fam x.ps v))* 60≤zg7;rw[hsz];simp only[zg7];omega
 have hgat:=znR false hok (zgG hok v) (znK h) hB;obtain⟨l,hl⟩:∃ l,gat false (zbm cs v x) (rest (zbm cs v x) v)=some l:=⟨_,hgat⟩;have hgok:=zza hok (zgG hok v) hl;obtain⟨hk1,hk2⟩:=zeo hk;have hkc:k<(zbm cs v x).cs.length:=by rw[← hok.len]; exact hk1
 have hcof:cof (zbm cs v x) x.ps=cd cs x.ps:=qbp fun u hu=>zhB (zdY.2 (.inr hu))
 have hck:(zbm cs v x).cs[k]=x.c:=by
  rw[← znC hok hk hkc,zhB (zdY.2 (.inl rfl)),h.cv]
 have hlen:l.length=x.rows.length:=by
  have:=hgok.size;rw[show(gF (zbm cs v x) (rest (zbm cs v x) v) l).ws=l from rfl,show(gF (zbm cs v x) (rest (zbm cs v x) v) l).cs=cof (zbm cs v x) (rest (zbm cs v x) v)from rfl,zho h,hcof,← h.len]at this;exact this
 have hval:∀ j,j<l.length→l.getD j 0=g:=by
  intro j hj;have hj2:j<zab (gF (zbm cs v x) (rest (zbm cs v x) v) l).cs:=by rw[← hgok.size]; exact hj
  have e1:=zq7 hgok hj2;have hfit:=zwn hgok hj2;have hs:∀ u∈rest (zbm cs v x) v,at_ (gF (zbm cs v x) (rest (zbm cs v x) v) l).vs (dig (gF (zbm cs v x) (rest (zbm cs v x) v) l).cs j) u<at_ (zbm cs v x).vs (zbm cs v x).cs u:=by
   intro u hu;have h1:=hfit u hu;have h2:at_ (gF (zbm cs v x) (rest (zbm cs v x) v) l).vs (gF (zbm cs v x) (rest (zbm cs v x) v) l).cs u=at_ (zbm cs v x).vs (zbm cs v x).cs u:=ziN hu;rw[h2]at h1;exact h1
  have e2:=zwq false hok hk hkc (znK h) hB hl hs;rw[e1]at e2;show(gF (zbm cs v x) (rest (zbm cs v x) v) l).get j=g;rw[e2,hck,zvK];have e3:(List.range' 0 x.c).map (fun p=>(zbm cs v x).val (upd (at_ (gF (zbm cs v x) (rest (zbm cs v x) v) l).vs (dig (gF (zbm cs v x) (rest (zbm cs v x) v) l).cs j)) v p))=(List.range' 0 x.c).map (fun p=>(x.rows.getD (zmL cs x (at_ (gF (zbm cs v x) (rest (zbm cs v x) v) l).vs (dig (gF (zbm cs v x) (rest (zbm cs v x) v) l).cs j))) []).getD p 0):=by
   refine qbp fun p hp=>?_
   have hp:p<x.c:=by simpa using hp
   have hs2:∀ u∈fam x.ps v,upd (at_ (gF (zbm cs v x) (rest (zbm cs v x) v) l).vs (dig (gF (zbm cs v x) (rest (zbm cs v x) v) l).cs j)) v p u<cs.getD u 0:=by
    intro u hu;by_cases e:u=v
    ·subst e; rw[zet,h.cv]; exact hp
    rw[zg2 e];have hu2:=(zdY.1 hu).resolve_left e;have:=hs u (by rw[zho h]; exact hu2);rw[zhB hu]at this;exact this
   obtain⟨k1,k2⟩:=zjL h hs2;have e4:zmL cs x (upd (at_ (gF (zbm cs v x) (rest (zbm cs v x) v) l).vs (dig (gF (zbm cs v x) (rest (zbm cs v x) v) l).cs j)) v p)=zmL cs x (at_ (gF (zbm cs v x) (rest (zbm cs v x) v) l).vs (dig (gF (zbm cs v x) (rest (zbm cs v x) v) l).cs j)):=by
    unfold zmL;rw[qbp fun u hu=>zg2 (by intro e; exact h.nv (by rw[← e]; exact hu))]
   rw[k1,e4,zet]
  have hrow:zmL cs x (at_ (gF (zbm cs v x) (rest (zbm cs v x) v) l).vs (dig (gF (zbm cs v x) (rest (zbm cs v x) v) l).cs j))<x.rows.length:=by
   have h1:∀ u∈fam x.ps v,upd (at_ (gF (zbm cs v x) (rest (zbm cs v x) v) l).vs (dig (gF (zbm cs v x) (rest (zbm cs v x) v) l).cs j)) v 0 u<cs.getD u 0:=by
    intro u hu;by_cases e:u=v
    ·subst e; rw[zet,h.cv]; exact h.c1.1
    rw[zg2 e];have:=hs u (by rw[zho h]; exact(zdY.1 hu).resolve_left e);rw[zhB hu]at this;exact this
   have h2:=(zjL h h1).2;have e4:zmL cs x (upd (at_ (gF (zbm cs v x) (rest (zbm cs v x) v) l).vs (dig (gF (zbm cs v x) (rest (zbm cs v x) v) l).cs j)) v 0)=zmL cs x (at_ (gF (zbm cs v x) (rest (zbm cs v x) v) l).vs (dig (gF (zbm cs v x) (rest (zbm cs v x) v) l).cs j)):=by
    unfold zmL;rw[qbp fun u hu=>zg2 (by intro e; exact h.nv (by rw[← e]; exact hu))]
   rw[e4]at h2;exact h2
  have hm:x.rows.getD (zmL cs x (at_ (gF (zbm cs v x) (rest (zbm cs v x) v) l).vs (dig (gF (zbm cs v x) (rest (zbm cs v x) v) l).cs j))) []∈x.rows:=by
   rw[qai,qad hrow];exact qat hrow
  rw[e3,zvu (h.row _ hm)];exact hg _ hm
 have hrep:l=List.replicate x.rows.length g:=by
  refine qbP (by simp[hlen]) fun i h1 h2=>?_
  have:=hval i h1;rw[qai,qad h1]at this;simpa using this
 refine⟨iL (cof (zbm cs v x) x.ps),?_⟩;rw[zzn hok hk,hl,← hrep];show some (((⟨iL (rest (zbm cs v x) v),iL (cof (zbm cs v x) (rest (zbm cs v x) v)),iL l⟩:S_api_Factor),(0:Int)))=_;rw[zho h]
theorem NetOk.right{num:List Nat}{g:Nat}{ns:List NN}(h:NetOk num g ns):RightN g ns:=by
 have at_v:∀ v (hv:v<ns.length),∃ j,num[j]? = some v∧NodeOk num g (ns.map (·.c)) j ns[v]:=by
  intro v hv;obtain⟨j,hj,hjv⟩:=qc3.1 (h.perm.all v hv);exact⟨j,by rw[qad hj,hjv],h.node j v ns[v] (by rw[qad hj,hjv]) (qad hv)⟩
 have at_x:∀ x∈ns,∃ j v,num[j]? = some v∧NodeOk num g (ns.map (·.c)) j x:=by
  intro x hx;obtain⟨v,hv,rfl⟩:=qc3.1 hx;obtain⟨j,h1,h2⟩:=at_v v hv;exact⟨j,v,h1,h2⟩
 refine⟨h.g1,h.g2,h.n1,h.n2,h.card,h.prod,fun x hx=>?_,fun x hx p hp=>?_,fun x hx=>?_,?_⟩
 ·obtain⟨j,v,_,h2⟩:=at_x x hx;exact h2.par.inc
 ·obtain⟨j,v,_,h2⟩:=at_x x hx;have:=h2.par.lt p hp;simpa using this
 ·obtain⟨j,v,_,h2⟩:=at_x x hx;exact h2.rows
 refine⟨fun v=>min (num.idxOf v) 8,fun v=>qcn _ _,fun v x hx p hp=>?_⟩;obtain⟨hv,rfl⟩:=qab.1 hx;obtain⟨j,h1,h2⟩:=at_v v hv;have hin:=h2.par.mem p hp;obtain⟨hj,ej⟩:=qab.1 h1;obtain⟨k,hk,ek0⟩:=hin;obtain⟨hk2,ek⟩:=qab.1 ek0;have i1:num.idxOf v=j:=by rw[← ej]; exact h.perm.nod.idxOf_getElem j hj
 have i2:num.idxOf p=k:=by rw[← ek]; exact h.perm.nod.idxOf_getElem k hk2
 have hn:=h.perm.len;have hn8:=h.n2;simp only[i1,i2];omega
theorem zqE{xs:List Int}(hl:xs.length≤5000):∀(n i:Nat),i≤xs.length→xs.length - i<n→zaT xs xs n (i:Int)=some (.go ())
 | 0,_,_,h=>absurd h (qas _)
 | n+1,i,h1,h2=>by
  unfold zaT;rw[zaH];by_cases hi:i<xs.length
  ·rw[decide_eq_true hi,cond_true,zbw hi,qaa,qaa,beq_self_eq_true,cond_true,zap (by omega),zqE hl n (i+1) hi (by omega)]
  rw[decide_eq_false hi,cond_false]
theorem zqa{xs:List Int}(hl:xs.length≤5000):zaM xs xs=some true:=by
 have e:=zqE hl (xs.length+2) 0 (qaC _) (by omega);rw[show((0:Nat):Int)=0 from rfl]at e;unfold zaM;rw[beq_self_eq_true,cond_true,zaX,e,qaa]
theorem ztW{ps:List Nat}{v:Nat}(h:ps.Pairwise (· < ·))(hv:v ∉ ps):zfM (iL (ps ++ [v]))=iL (fam ps v):=by
 have p1:(zfM (iL (ps ++ [v]))).Perm (iL (ps ++ [v])):=List.mergeSort_perm _ _;have p2:(ps ++ [v]).Perm (fam ps v):=by
  have e:=zpI h hv;unfold fam
  conv=>lhs; rw[← e]
  rw[qa6];refine List.Perm.append_left _ ?_;exact List.perm_append_singleton v (hi ps v)
 have p3:(zfM (iL (ps ++ [v]))).Perm (iL (fam ps v)):=p1.trans (p2.map _);refine List.Perm.eq_of_pairwise (le:=(· ≤ ·)) (fun a b _ _ h1 h2=>by omega) (ztt _) ?_ p3;unfold iL;rw[List.pairwise_map];exact(zgN h).imp fun h=>by omega
theorem zom:∀(cs:List Nat),(∀ c∈cs,1≤c)→dot (cs.map (· - 1)) (zax cs)+1=zab cs
 | [],_=>rfl
 | c :: cs,h=>by
  have ih:=zom cs fun d hd=>h d (qak c hd)
  have hc:=h c qar;show(c - 1)* zab cs+dot (cs.map (· - 1)) (zax cs)+1=c * zab cs;have:c * zab cs=(c - 1)* zab cs+zab cs:=by
   conv=>lhs; rw[show c=(c - 1)+1 by omega,qaH,qbb]
  omega
def ziB(cs:List Nat)(us:List Nat)(s:Nat→Nat)(u:Nat):Nat:=bif decide (u∈us)then cs.getD u 0 - 1 else s u
structure Fixd (cs:List Nat) (v:Nat) (x:NN) (i:Nat) (f:Fc):Prop where
 ok:FcOk f
 vs:f.vs=(fam x.ps v).filter fun u=>!decide (u∈x.ps.take i)
 cs_:f.cs=cd cs f.vs
 val:∀ s,(∀ u∈f.vs,s u<cs.getD u 0)→f.val s=(zbm cs v x).val (ziB cs (x.ps.take i) s)
theorem Fixd.zero{cs:List Nat}{v:Nat}{x:NN}(h:FacOk cs v x):Fixd cs v x 0 (zbm cs v x):=by
 refine⟨znp h,?_,rfl,fun s _=>?_⟩
 ·rw[qb0];exact(List.filter_eq_self.2 fun u _=>by simp).symm
 refine val_congr fun u _=>?_
 unfold ziB;rw[qb0,decide_eq_false (by simp),cond_false]
theorem zgR{cs:List Nat}(h:∀ c∈cs,1≤c∧c≤4){u:Nat}(hu:u<cs.length):1≤cs.getD u 0∧cs.getD u 0≤4:=zey (us:=[u]) h (fun w hw=>by rw[qa5.1 hw]; exact hu) _ (qa5.2 rfl)
theorem Fixd.next{cs:List Nat}{v:Nat}{x:NN}(h:FacOk cs v x){i:Nat}{f:Fc}(hf:Fixd cs v x i f)(hi:i<x.ps.length):∃ f',Fixd cs v x (i+1) f'∧zcK f.D ((x.ps[i]:Nat):Int) (((cs.getD x.ps[i] 0 - 1:Nat):Nat):Int)=some (f'.D,0):=by
 have hnd:=zbr h.inc;have hp:=h.lt _ (qat hi);have hc:=zgR h.card hp;have e:x.ps.take i ++ x.ps[i]:: x.ps.drop (i+1)=x.ps:=by rw[← qav hi,qbU]
 have hnd2:(x.ps.take i ++ x.ps[i]:: x.ps.drop (i+1)).Nodup:=by rw[e]; exact hnd
 obtain⟨_,_,n3⟩:=List.nodup_append.1 hnd2;have hnt:x.ps[i] ∉ x.ps.take i:=fun hm=>n3 _ hm _ qar rfl
 clear e hnd2 n3;have hmt:∀ u,u∈x.ps.take (i+1)↔u∈x.ps.take i∨u=x.ps[i]:=fun u=>by rw[qcf hi,qbT,qa5]
 have hm:x.ps[i]∈f.vs:=by
  rw[hf.vs,qbj];exact⟨zdY.2 (.inr (qat hi)),by rw[decide_eq_false hnt]; rfl⟩
 obtain⟨k,hk⟩:=zjH hm;obtain⟨hk1,hk2⟩:=zeo hk;have hkc:k<f.cs.length:=by rw[← hf.ok.len]; exact hk1
 have hck:f.cs[k]=cs.getD x.ps[i] 0:=by
  rw[← znC hf.ok hk hkc,hf.cs_];exact ziN hm
 have hlt:cs.getD x.ps[i] 0 - 1<f.cs[k]:=by rw[hck]; omega
 refine⟨fixF f x.ps[i] k (cs.getD x.ps[i] 0 - 1),⟨zv3 hf.ok hk hkc _,?_,?_,fun s hs=>?_⟩,zy5 hf.ok hk hkc hlt⟩
 ·show rest f x.ps[i]=_;unfold rest;rw[hf.vs,List.filter_filter];refine List.filter_congr fun u hu=>?_
  rw[Bool.eq_iff_iff];simp only[qah,qbA,beq_eq_false_iff_ne,ne_eq,decide_eq_false_iff_not,hmt,not_or];constructor<;>rintro⟨a,b⟩<;> exact⟨b,a⟩
 ·show f.cs.eraseIdx k=cd cs (rest f x.ps[i]);rw[zh6 hf.ok hk,hf.cs_];unfold cd;rw[ze9]
 have hs':∀ u∈rest f x.ps[i],s u<at_ f.vs f.cs u:=by
  intro u hu;have h1:=hs u hu;have h2:u∈f.vs:=(qbj.1 hu).1;rw[hf.cs_];rw[show at_ f.vs (cd cs f.vs) u=cs.getD u 0 from ziN h2];exact h1
 rw[zwu hf.ok hk hkc hlt hs',hf.val _ fun u hu=>?_]
 ·refine val_congr fun u _=>?_
  unfold ziB;by_cases e:u=x.ps[i]
  ·subst e;rw[decide_eq_false hnt,cond_false,zet,decide_eq_true ((hmt _).2 (.inr rfl)),cond_true]
  rw[zg2 e];by_cases e2:u∈x.ps.take i
  ·rw[decide_eq_true e2,cond_true,decide_eq_true ((hmt _).2 (.inl e2)),cond_true]
  rw[decide_eq_false e2,cond_false,decide_eq_false (fun h3=>((hmt _).1 h3).elim e2 e),cond_false]
 by_cases e:u=x.ps[i]
 ·subst e; rw[zet]; omega
 rw[zg2 e];refine hs u ?_;show u∈rest f x.ps[i];exact qbj.2 ⟨hu,by rw[beq_false_of_ne e]; rfl⟩
theorem zkX{xs:List Nat}{j:Nat}(h:j<xs.length):xs[j]=xs.getD j 0:=by
 rw[qai,qad h];rfl
theorem Fixd.last{cs:List Nat}{v:Nat}{x:NN}(h:FacOk cs v x){f:Fc}(hf:Fixd cs v x x.ps.length f):f.ws=x.rows.getD (x.rows.length - 1) []:=by
 have hvs:f.vs=[v]:=by
  rw[hf.vs,qco];refine zgX (qbu _ (zgN h.inc)) (by simp) fun u=>?_
  simp only[qbj,zdY,qbA,decide_eq_false_iff_not,qa5];constructor
  ·rintro⟨h1 | h1,h2⟩
   ·exact h1
   exact absurd h1 h2
  rintro rfl;exact⟨.inl rfl,h.nv⟩
 have hcs:f.cs=[x.c]:=by rw[hf.cs_,hvs]; show [cs.getD v 0]=_; rw[h.cv]
 have hc1:=h.c1;have hsz:=hf.ok.size;have hp1:zab f.cs=x.c:=by rw[hcs]; simp[zab]
 have h1:1≤x.rows.length:=by rw[h.len]; exact zdl fun c hc=>(zey h.card h.lt c hc).1
 have hrl:(x.rows.getD (x.rows.length - 1) []).length=x.c:=by
  rw[qai,qad (by omega)];exact h.row _ (qat _)
 refine qbP (by rw[hsz,hp1,hrl]) fun j a b=>?_
 have hj:j<zab f.cs:=by rw[← hsz]; exact a
 have hjc:j<x.c:=by rw[← hp1]; exact hj
 have e1:=zq7 hf.ok hj;have hat:at_ f.vs (dig f.cs j) v=j:=by
  rw[hvs,hcs];simp[dig,at_,zab]
 rw[hf.val _ fun u hu=>?_]at e1
 ·have hfit:∀ u∈fam x.ps v,ziB cs (x.ps.take x.ps.length) (at_ f.vs (dig f.cs j)) u<cs.getD u 0:=by
   intro u hu;unfold ziB;rw[qco];by_cases e:u∈x.ps
   ·have:=(zgR h.card (h.lt u e)).1;rw[decide_eq_true e,cond_true]; omega
   have:u=v:=(zdY.1 hu).resolve_right e;subst this;rw[decide_eq_false e,cond_false,hat,h.cv];exact hjc
  obtain⟨k1,k2⟩:=zjL h hfit;have k3:zmL cs x (ziB cs (x.ps.take x.ps.length) (at_ f.vs (dig f.cs j)))=x.rows.length - 1:=by
   unfold zmL;have:x.ps.map (ziB cs (x.ps.take x.ps.length) (at_ f.vs (dig f.cs j)))=(cd cs x.ps).map (· - 1):=by
    unfold cd;rw[qc7];refine qbp fun u hu=>?_
    unfold ziB;rw[qco,decide_eq_true hu,cond_true];rfl
   rw[this];have:=zom (cd cs x.ps) fun c hc=>(zey h.card h.lt c hc).1
   rw[h.len];omega
  have k4:ziB cs (x.ps.take x.ps.length) (at_ f.vs (dig f.cs j)) v=j:=by
   unfold ziB;rw[qco,decide_eq_false h.nv,cond_false,hat]
  rw[k1,k3,k4]at e1;unfold Fc.get at e1;rw[zkX a,zkX b];exact e1.symm
 rw[hvs]at hu;rw[qa5.1 hu,hat,h.cv];exact hjc
theorem zoN{g:Nat}{ns:List NN}{fv fc:List Int}{m:Nat}(hm:m≤5000):∀(n i:Nat),i≤m→m - i<n→zb1 (⟨fv,fc,iL (List.replicate m g)⟩,0) (zeA g ns) n (i:Int)=some (.go ())
 | 0,_,_,h=>absurd h (qas _)
 | n+1,i,h1,h2=>by
  unfold zb1;simp only[];rw[zan,qbH,zaH];by_cases hi:i<m
  ·rw[decide_eq_true hi,cond_true,za7 (by simpa using hi),qaa,List.getElem_replicate,show(zeA g ns).grain=(g:Int)from rfl,beq_self_eq_true,cond_true,zap (by omega),zoN hm n (i+1) hi (by omega)]
  rw[decide_eq_false hi,cond_false]
theorem zoh{g:Nat}{ns:List NN}{v:Nat}{x:NN}(h:FacOk (ns.map (·.c)) v x):∀(n i:Nat) (f:Fc),i≤x.ps.length→Fixd (ns.map (·.c)) v x i f→x.ps.length - i<n →
  ∃ f',Fixd (ns.map (·.c)) v x x.ps.length f'∧zbZ (nd x) (zeA g ns) n (i:Int) f.D.vars f.D.cards f.D.w=some (.go (f'.D.vars,f'.D.cards,f'.D.w))
 | 0,_,_,_,_,h=>absurd h (qas _)
 | n+1,i,f,h1,h2,h3=>by
  have hps:x.ps.length≤8:=qao (zhI h.inc h.lt) h.l8;unfold zbZ;rw[show(nd x).parents=iL x.ps from rfl,zan,zaH];by_cases hi:i<x.ps.length
  ·obtain⟨f1,k1,k2⟩:=h2.next h hi;obtain⟨f',g1,g2⟩:=zoh (g:=g) h n (i+1) f1 hi k1 (by omega);refine⟨f',g1,?_⟩;have hp:x.ps[i]<ns.length:=by simpa using h.lt _ (qat hi)
   have hcg:(ns.map (·.c)).getD x.ps[i] 0=ns[x.ps[i]].c:=by rw[qai,qa3,qad hp]; rfl
   have hc1:=zgR h.card (h.lt _ (qat hi));have hw:w64 ((nd ns[x.ps[i]]).card - 1)=(((ns.map (·.c)).getD x.ps[i] 0 - 1:Nat):Int):=by
    rw[show(nd ns[x.ps[i]]).card=((ns[x.ps[i]].c:Nat):Int)from rfl,← hcg,zf4 (by omega) (by omega)];omega
   rw[decide_eq_true hi,cond_true,za7 hi,qaa,show za5 (zeA g ns).nodes ((x.ps[i]:Nat):Int)=some (nd ns[x.ps[i]])from zcS hp,qaa,hw,show(⟨f.D.vars,f.D.cards,f.D.w⟩:S_api_Factor)=f.D from rfl,k2,qaa];simp only[];rw[show((0:Int)== 0)=true from rfl,cond_true,zap (by omega),g2]
  have:i=x.ps.length:=by omega
  subst this;exact⟨f,h2,by rw[decide_eq_false (qb9 _),cond_false]⟩
theorem zot{g:Nat}{ns:List NN}(h:RightN g ns):∀(n i:Nat),i≤ns.length→ns.length - i<n→zb4 (zuV ns,0) (zeA g ns) n (i:Int)=some (.go ())
 | 0,_,_,h=>absurd h (qas _)
 | n+1,i,h1,h2=>by
  have hn:=h.n2;unfold zb4;simp only[];rw[zjt,zaH];by_cases hi:i<ns.length
  ·have hx:ns[i]? = some (ns.getD i ⟨0,[],[]⟩):=by rw[qai,qad hi]; rfl
   have hxe:ns[i]=ns.getD i ⟨0,[],[]⟩:=by rw[qai,qad hi]; rfl
   generalize ns.getD i ⟨0,[],[]⟩=x at hx hxe;have hf:=h.fac hx;have hmem:x∈ns:=by rw[← hxe]; exact qat hi
   have hro:=h.rows x hmem;have hps:x.ps.length≤8:=qao (zhI hf.inc hf.lt) hf.l8;obtain⟨vs,e1⟩:=zvr hf fun r hr=>(hro.row r hr).2
   have hfl:=hf.fl8;have hrl:x.rows.length≤1024:=by
    rw[hf.len];exact qao (zoR (fun c hc=>(hf.card c hc).1) hf.inc hf.lt) hf.prod
   have hr1:1≤x.rows.length:=by rw[hf.len]; exact zdl fun c hc=>(zey hf.card hf.lt c hc).1
   have e2:=zoN (g:=g) (ns:=ns) (fv:=iL x.ps) (fc:=vs) (m:=x.rows.length) (by omega) (x.rows.length+2) 0 (qaC _) (by omega);obtain⟨f',k1,k2⟩:=zoh (g:=g) hf (x.ps.length+2) 0 (zbm (ns.map (·.c)) i x) (qaC _) (Fixd.zero hf) (by omega);have hlast:=k1.last hf;rw[show((0:Nat):Int)=0 from rfl]at e2 k2;have e3:za5 (zuV ns) (i:Int)=some (zbm (ns.map (·.c)) i x).D:=by rw[zt8 hi,← hxe]; rw[qai,qad hi]; rfl
   have e4:zlI 8 (iL x.ps ++ [(i:Int)])=some (iL (fam x.ps i)):=by
    unfold zlI;have hmx:70368744177664≤zag:=by decide
    rw[if_pos (by rw[qaA,zan]; simp only[qaF,qaN]; omega)];rw[← ztW hf.inc hf.nv,zoK];rfl
   rw[decide_eq_true hi,cond_true,e3,qaa,show za5 (zeA g ns).nodes (i:Int)=some (nd x) by rw[← hxe]; exact zcS hi,qaa,show(nd x).parents=iL x.ps from rfl,zgB (by rw[zan]; omega),qaa,zdZ (by rw[zan]; simp only[qaF,qaN]; omega),qaa,e4,qaa,e1,qaa];simp only[];have e5:zaM (zbm (ns.map (·.c)) i x).D.vars (iL (fam x.ps i))=some true:=zqa (xs:=iL (fam x.ps i)) (by rw[zan]; omega);rw[show((0:Int)== 0)=true from rfl,cond_true,e5,qaa,cond_true,zan,qbH,show(nd x).rows.length=x.rows.length by simp[nd],beq_self_eq_true,qa7,qaa,cond_false,zaX,e2,qaa];simp only[];rw[zan,zaX,k2,qaa];simp only[];have hw:w64 ((x.rows.length:Int) - 1)=((x.rows.length - 1:Nat):Int):=by rw[zf4 (by omega) (by omega)]; omega
   have e6:za5 (nd x).rows ((x.rows.length - 1:Nat):Int)=some (iL f'.ws):=by
    rw[hlast,zoM,show(nd x).rows=x.rows.map iL from rfl,qa3,qai,qad (show x.rows.length - 1<x.rows.length by omega)];rfl
   have hwl:(iL f'.ws).length≤5000:=by rw[zan,k1.ok.size]; have:=k1.ok.prod; omega
   rw[hw,e6,qaa,show f'.D.w=iL f'.ws from rfl,zqa hwl,qaa,cond_true,zap (by omega),zot h n (i+1) hi (by omega)]
  rw[decide_eq_false hi,cond_false]
theorem zkc{dr:DraftN}(hd:DraftOk dr):zdu 5000 (zcM dr)=some true:=by
 obtain⟨num,ns,h0,_,e⟩:=ztZ hd (N:=5000) (by decide);have h:=h0.right;have e1:=zot h (ns.length+2) 0 (qaC _) (by omega);rw[show((0:Nat):Int)=0 from rfl]at e1;have hnl:(zeA (1+dr.grain % 60) ns).nodes.length=ns.length:=by simp[zeA]
 rw[show(⟨((1+dr.grain % 60:Nat):Int),ns.map nd⟩:S_api_Net)=zeA (1+dr.grain % 60) ns from rfl]at e;unfold zdu zmZ;rw[qaa,cond_true,e,qaa,zpg h,qaa];simp only[];rw[show((0:Int)== 0)=true from rfl,cond_true,zjt,hnl,beq_self_eq_true,qa7,qaa,cond_false,zaX,e1,qaa]
end Go.Dc
