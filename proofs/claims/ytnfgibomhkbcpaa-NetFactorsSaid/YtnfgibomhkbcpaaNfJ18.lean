/-
 Plain laws: the weight of a world. Conditions: none.
-/
import Derived.Test.YtnfgibomhkbcpaaNfJ17
set_option linter.unusedSimpArgs false
set_option linter.unusedVariables false
namespace Go.Dc
open Go Go.Mx Go.Lx
theorem RightN.cs{g:Nat}{ns:List NN}(h:RightN g ns):CsOk (ns.map (·.c)):=by
 refine⟨by have:=h.n2; simpa using this,fun c hc=>?_,h.prod⟩;obtain⟨x,hx,rfl⟩:=qaG.1 hc;exact h.card x hx
def lo(ps:List Nat)(v:Nat):List Nat:=ps.filter fun p=>decide (p<v)
def hi(ps:List Nat)(v:Nat):List Nat:=ps.filter fun p=>decide (v<p)
def fam(ps:List Nat)(v:Nat):List Nat:=lo ps v ++ v :: hi ps v
theorem zsU{ps:List Nat}{v x:Nat}(h:x∈lo ps v):x<v:=of_decide_eq_true (qco.1 h).2
theorem ztk{ps:List Nat}{v x:Nat}(h:x∈hi ps v):v<x:=of_decide_eq_true (qco.1 h).2
theorem zrY{ps:List Nat}{v:Nat}(h:ps.Pairwise (· < ·))(hv:v ∉ ps):lo ps v ++ hi ps v=ps:=by
 refine zjU (qcF.2 ⟨qb0 _ h,qb0 _ h,fun a ha b hb=>Nat.lt_trans (zsU ha) (ztk hb)⟩) h fun x=>?_
 unfold lo hi;simp only[qbl,qco,decide_eq_true_eq];constructor
 ·rintro(⟨h1,_⟩| ⟨h1,_⟩)<;> exact h1
 intro hx;rcases Nat.lt_trichotomy x v with h1 | h1 | h1
 ·exact .inl ⟨hx,h1⟩
 ·exact absurd (h1 ▸ hx) hv
 exact .inr ⟨hx,h1⟩
theorem zhq{ps:List Nat}{v:Nat}(h:ps.Pairwise (· < ·)):(fam ps v).Pairwise (· < ·):=by
 refine qcF.2 ⟨qb0 _ h,qbL.2 ⟨fun a ha=>ztk ha,qb0 _ h⟩,fun a ha b hb=>?_⟩;rcases qaL.1 hb with rfl | hb
 ·exact zsU ha
 exact Nat.lt_trans (zsU ha) (ztk hb)
theorem zq5{ps:List Nat}{v u:Nat}:u∈fam ps v↔u=v∨u∈ps:=by
 unfold fam lo hi;simp only[qbl,qaL,qco,decide_eq_true_eq];constructor
 ·rintro(⟨h1,_⟩| h1 | ⟨h1,_⟩)
  ·exact .inr h1
  ·exact .inl h1
  exact .inr h1
 rintro(h1 | h1)
 ·exact .inr (.inl h1)
 rcases Nat.lt_trichotomy u v with h2 | h2 | h2
 ·exact .inl ⟨h1,h2⟩
 ·exact .inr (.inl h2)
 exact .inr (.inr ⟨h1,h2⟩)
theorem zw4(x y:Int):zcG x y=some (decide (x<y)):=by
 unfold zcG;rw[show zcd x=some false from rfl,qaa,cond_false,qaa]
theorem zzq{xs:List Nat}{v k:Nat}(hl:xs.length≤1000)(h1:∀ i (h:i<xs.length),i<k→xs[i]<v)(h2:∀ i (h:i<xs.length),k≤i→v≤xs[i]):∀(n i j:Nat),i≤k→k≤j→j≤xs.length→j - i<n →
  zau (iL xs) (v:Int) n (i:Int) (j:Int)=some (k:Int)
 | 0,_,_,_,_,_,h=>absurd h (qam _)
 | n+1,i,j,a,b,c,d=>by
  unfold zau;rw[zar];by_cases hij:i<j
  ·have hm:(i+j) / 2<j:=by omega
   have hm2:i≤(i+j) / 2:=by omega
   have hx:(i+j) / 2<xs.length:=by omega
   rw[decide_eq_true hij,cond_true,show((i:Int)+(j:Int))=((i+j:Nat):Int) by omega,zaA (by omega),zd3 (by omega),show((1:Int))=((1:Nat):Int)from rfl,zzF (by omega),qaa,qbG,Nat.pow_one,zaA (by omega),za2 hx,qaa,zw4,qaa,zar];by_cases hc:xs[(i+j) / 2]<v
   ·rw[decide_eq_true hc,cond_true,show((1:Nat):Int)=1 from rfl,zao (by omega)];refine zzq hl h1 h2 n _ j ?_ b c (by omega);rcases qbf ((i+j) / 2) k with g | g
    ·exact g
    exact absurd (h2 _ hx g) (by omega)
   rw[decide_eq_false hc,cond_false];refine zzq hl h1 h2 n i _ a ?_ (by omega) (by omega);rcases qbf ((i+j) / 2) k with g | g
   ·exact absurd (h1 _ hx g) hc
   exact g
  rw[decide_eq_false hij,cond_false,show i=k by omega]
theorem zAL{ps:List Nat}{v:Nat}(h:ps.Pairwise (· < ·))(hv:v ∉ ps)(hl:ps.length≤1000):∃ b,zaK (iL ps) (v:Int)=some ((((lo ps v).length:Nat):Int),b):=by
 have e:=zrY h hv;have hlen:(lo ps v).length≤ps.length:=qc0 _ _;have g1:∀ i (h:i<ps.length),i<(lo ps v).length→ps[i]<v:=by
  intro i hi1 hi2;have:ps[i]=(lo ps v)[i]:=by
   have e2:ps[i]=(lo ps v ++ hi ps v)[i]'(by rw[e]; exact hi1):=by congr 1; exact e.symm
   rw[e2,List.getElem_append_left hi2]
  rw[this];exact zsU (qaq hi2)
 have g2:∀ i (h:i<ps.length),(lo ps v).length≤i→v≤ps[i]:=by
  intro i hi1 hi2;have hi3:i<(lo ps v ++ hi ps v).length:=by rw[e]; exact hi1
  have:ps[i]=(hi ps v)[i - (lo ps v).length]'(by rw[qaI]at hi3; omega):=by
   have e2:ps[i]=(lo ps v ++ hi ps v)[i]'hi3:=by congr 1; exact e.symm
   rw[e2,List.getElem_append_right hi2]
  rw[this];exact qda (ztk (qaq _))
 have k:=zzq hl g1 g2 (ps.length+2) 0 ps.length (qay _) hlen (qaj _) (by omega);rw[show((0:Nat):Int)=0 from rfl]at k;unfold zaK;rw[zaq,zax,k,qaa,zar];by_cases c:(lo ps v).length<ps.length
 ·rw[decide_eq_true c,cond_true,za2 c,qaa,show zbH ((ps[(lo ps v).length]:Nat):Int)=some false from rfl,qaa,cond_false];cases hb:(((ps[(lo ps v).length]:Nat):Int)==(v:Int))with
  | true=>exact⟨true,by rw[cond_true,qaa]⟩
  | false=>exact⟨false,by rw[cond_false,qaa]⟩
 rw[decide_eq_false c,cond_false,qaa];exact⟨false,rfl⟩
theorem zyG{ps:List Nat}{v:Nat}(h:ps.Pairwise (· < ·))(hv:v ∉ ps)(hl:ps.length≤1000):zvx 8 (iL ps) (((lo ps v).length:Nat):Int) [(v:Int)]=some (iL (fam ps v)):=by
 have e:=zrY h hv;have hlen:(lo ps v).length≤ps.length:=qc0 _ _;unfold zvx;have hm:70368744177664≤zac:=by decide
 rw[if_pos ⟨⟨by omega,by rw[zaq]; omega⟩,by simp,by rw[zaq]; simp only[qaD,qaK]; omega⟩,qaF];have ep:iL ps=iL (lo ps v)++ iL (hi ps v):=by rw[← zja,e]
 have t1:(iL ps).take (lo ps v).length=iL (lo ps v):=by
  rw[ep,qbW (by rw[zaq]; exact qaj _),qaJ (by rw[zaq]; exact qaj _)]
 have t2:(iL ps).drop (lo ps v).length=iL (hi ps v):=by
  rw[ep,List.drop_append_of_le_length (by rw[zaq]; exact qaj _),qb5 (by rw[zaq]; exact qaj _),qa5]
 rw[t1,t2];unfold fam;rw[zja,show iL (v :: hi ps v)=(v:Int):: iL (hi ps v)from rfl,qaW];rfl
def cd(cs us:List Nat):List Nat:=us.map fun p=>cs.getD p 0
structure FacOk (cs:List Nat) (v:Nat) (x:NN):Prop where
 inc:x.ps.Pairwise (· < ·)
 nv:v ∉ x.ps
 lt:∀ p∈x.ps,p<cs.length
 hv:v<cs.length
 cv:cs.getD v 0=x.c
 len:x.rows.length=zai (cd cs x.ps)
 row:∀ r∈x.rows,r.length=x.c
 num:∀ r∈x.rows,∀ w∈r,w≤60
 card:∀ c∈cs,1≤c∧c≤4
 l8:cs.length≤8
 prod:zai cs≤1024
def zmA(cs:List Nat)(v:Nat)(x:NN):Nat:=zai (cd cs (lo x.ps v))
def zaH(cs:List Nat)(v:Nat)(x:NN):Nat:=zai (cd cs (hi x.ps v))
def zmf(cs:List Nat)(v:Nat)(x:NN):Fc:=⟨fam x.ps v,cd cs (fam x.ps v),(List.range' 0 (zmA cs v x * x.c * zaH cs v x)).map (zpC (zaH cs v x) x.c x.rows)⟩
theorem zig{cs us:List Nat}(h:∀ c∈cs,1≤c∧c≤4)(hu:∀ u∈us,u<cs.length):∀ c∈cd cs us,1≤c∧c≤4:=by
 intro c hc;obtain⟨u,h1,rfl⟩:=qaG.1 hc;have h2:=hu u h1;have:cs.getD u 0=cs[u]:=by rw[qav,qad h2]; rfl
 rw[this];exact h _ (qaq h2)
theorem FacOk.flt{cs:List Nat}{v:Nat}{x:NN}(h:FacOk cs v x):∀ u∈fam x.ps v,u<cs.length:=by
 intro u hu;rcases zq5.1 hu with rfl | hu
 ·exact h.hv
 exact h.lt u hu
theorem FacOk.fl8{cs:List Nat}{v:Nat}{x:NN}(h:FacOk cs v x):(fam x.ps v).length≤8:=qas (zfK (zhq h.inc) h.flt) h.l8
theorem zwU{ps:List Nat}{v u:Nat}(h:u∈hi ps v):u∈ps:=(qco.1 h).1
theorem zlI(cs a b:List Nat):cd cs (a ++ b)=cd cs a ++ cd cs b:=qba
theorem FacOk.cdf{cs:List Nat}{v:Nat}{x:NN}(h:FacOk cs v x):cd cs (fam x.ps v)=cd cs (lo x.ps v)++ x.c :: cd cs (hi x.ps v):=by
 unfold fam;rw[zlI];show _ ++ cs.getD v 0 :: _=_;rw[h.cv];rfl
theorem FacOk.size{cs:List Nat}{v:Nat}{x:NN}(h:FacOk cs v x):zai (cd cs (fam x.ps v))=zmA cs v x * x.c * zaH cs v x:=by
 rw[h.cdf,zhi,qbw];rfl
theorem FacOk.zzP{cs:List Nat}{v:Nat}{x:NN}(h:FacOk cs v x):x.rows.length=zmA cs v x * zaH cs v x:=by
 have e:=zrY h.inc h.nv;have e2:cd cs x.ps=cd cs (lo x.ps v)++ cd cs (hi x.ps v):=by rw[← zlI,e]
 rw[h.len,e2,zhi];rfl
theorem zkP{f:Nat→Nat}(p:Nat→Bool):∀ {us:List Nat},(∀ u∈us,1≤f u)→zai ((us.filter p).map f)≤zai (us.map f)
 | [],_=>qaj _
 | u :: us,h=>by
  have h1:=h u qap;have h2:=zkP p fun w hw=>h w (qal u hw)
  have h3:zai ((u :: us).map f)=f u * zai (us.map f):=rfl;rw[List.filter_cons,h3];cases p u with
  | true=>
   rw[if_pos rfl];exact Nat.mul_le_mul_left _ h2
  | false=>
   rw[if_neg (by decide)];exact qas h2 (qcS _ h1)
theorem zte(cs:List Nat):(List.range cs.length).map (fun p=>cs.getD p 0)=cs:=by
 refine qcr (by simp) fun i h1 h2=>?_
 rw[qcs,qcR,qav,qad h2];rfl
theorem zoj{cs us:List Nat}(hc:∀ c∈cs,1≤c)(h:us.Pairwise (· < ·))(hu:∀ u∈us,u<cs.length):zai (cd cs us)≤zai cs:=by
 have e:us=(List.range cs.length).filter (fun u=>decide (u∈us)):=zjU h (qb0 _ List.pairwise_lt_range) fun x=>by
  simp only[qco,qbr,decide_eq_true_eq];exact⟨fun hx=>⟨hu x hx,hx⟩,fun hx=>hx.2⟩
 have k:=zkP (f:=fun p=>cs.getD p 0) (fun u=>decide (u∈us)) (us:=List.range cs.length) fun u hx=>by
  have h2:=qbr.1 hx;rw[qav,qad h2];exact hc _ (qaq h2)
 rw[← e,zte]at k;exact k
theorem FacOk.le{cs:List Nat}{v:Nat}{x:NN}(h:FacOk cs v x):zmA cs v x * x.c * zaH cs v x≤1024:=by
 rw[← h.size];exact qas (zoj (fun c hc=>(h.card c hc).1) (zhq h.inc) h.flt) h.prod
theorem FacOk.B0{cs:List Nat}{v:Nat}{x:NN}(h:FacOk cs v x):0<zaH cs v x:=zfd fun c hc=>(zig h.card (fun u hu=>h.lt u (zwU hu)) c hc).1
theorem FacOk.c1{cs:List Nat}{v:Nat}{x:NN}(h:FacOk cs v x):1≤x.c∧x.c≤4:=by
 have:=zig (us:=[v]) h.card (fun u hu=>by rw[qa0.1 hu]; exact h.hv) (cs.getD v 0) (qa0.2 rfl);rw[h.cv]at this;exact this
def bp(k:Nat):Nat→List Nat→Nat
 | _,[]=>1
 | i,c :: r=>(bif decide (k<i)then c else 1)* bp k (i+1) r
theorem zwo{k:Nat}:∀(b:List Nat) (i:Nat),k<i→bp k i b=zai b
 | [],_,_=>rfl
 | c :: b,i,h=>by
  unfold bp;rw[decide_eq_true h,cond_true,zwo b (i+1) (by omega)];rfl
theorem zum{k c:Nat}{b:List Nat}:∀(a:List Nat) (i:Nat),a.length+i=k→bp k i (a ++ c :: b)=zai b
 | [],i,h=>by
  have h:i=k:=by simpa using h
  subst h;rw[qa5];unfold bp;rw[decide_eq_false (qbM i),cond_false,qbq,zwo b (i+1) (by omega)]
 | d :: a,i,h=>by
  rw[qbe];unfold bp;rw[decide_eq_false (by simp only[qaD]at h; omega),cond_false,qbq];exact zum a (i+1) (by simp only[qaD]at h; omega)
theorem zv1{fs cs:List Nat}{k:Nat}{b0:Bool}{p0:S_net_network}(hp:p0.cards=iL cs)(hc:∀ c∈cs,1≤c∧c≤4)(hl:fs.length≤8)(hf:∀ u∈fs,u<cs.length):∀(ws us:List Nat) (n b:Nat),us ++ ws=fs→b≤4 ^ us.length→ws.length<n →
  zaQ (iL fs) p0 ((k:Int),b0) n (us.length:Int) (b:Int) (iL (cd cs us))=some (((b * bp k us.length (cd cs ws):Nat):Int),iL (cd cs fs))
 | _,_,0,_,_,_,h=>absurd h (qam _)
 | [],us,n+1,b,h1,h2,h3=>by
  rw[qaN]at h1;subst h1;unfold zaQ;rw[zaq,zar,decide_eq_false (qbM _),cond_false,show cd cs []=[]from rfl,show bp k us.length []=1 from rfl,qc7]
 | w :: ws,us,n+1,b,h1,h2,h3=>by
  have hul:us.length<fs.length:=by rw[← h1]; simp
  have hw:w<cs.length:=hf w (by rw[← h1]; simp);have hcw:=zig (us:=[w]) hc (fun u hu=>by rw[qa0.1 hu]; exact hw) (cs.getD w 0) (qa0.2 rfl);have hp8:(4:Nat) ^ us.length≤65536:=qas (qbu (by decide) (show us.length≤8 by omega)) (by decide);have hnext:(us ++ [w])++ ws=fs:=by rw[qaW]; exact h1
  have hl1:(us ++ [w]).length=us.length+1:=by simp
  unfold zaQ;rw[zaq,zar,decide_eq_true hul,cond_true,← h1,zkb rfl,h1,qaa,hp,zj8 hw,qaa,zck (by rw[zaq]; unfold cd; simp only[qaw,qaD,qaK]; omega),qaa];have e:iL (cd cs us)++ [((cs.getD w 0:Nat):Int)]=iL (cd cs (us ++ [w])):=by rw[zlI,zja]; rfl
  rw[e,zao (by omega),show((us.length+1:Nat):Int)=(((us ++ [w]).length:Nat):Int) by rw[hl1]];simp only[];rw[zar];by_cases hk:k<us.length
  ·have hb:b * cs.getD w 0≤4 ^ (us.length+1):=by rw[qdb]; exact qbQ h2 hcw.2
   have hb2:b * cs.getD w 0≤65536 * 4:=qbQ (qas h2 hp8) hcw.2;rw[decide_eq_true hk,cond_true,← qa4,zaA (by omega),qaa,zv1 hp hc hl hf ws (us ++ [w]) n (b * cs.getD w 0) hnext (by rw[hl1]; exact hb) (by simp only[qaD]at h3; omega)];rw[show cd cs (w :: ws)=cs.getD w 0 :: cd cs ws from rfl]
   conv=>rhs; unfold bp
   rw[decide_eq_true hk,cond_true,hl1,qbw]
  rw[decide_eq_false hk,cond_false,qaa,zv1 hp hc hl hf ws (us ++ [w]) n b hnext (by rw[hl1,qdb]; omega) (by simp only[qaD]at h3; omega)];rw[show cd cs (w :: ws)=cs.getD w 0 :: cd cs ws from rfl]
  conv=>rhs; unfold bp
  rw[decide_eq_false hk,cond_false,hl1,qbq]
theorem zom{w:List Nat}{i y:Nat}(h:i<w.length):zfP (iL w) (i:Int) (y:Int)=some (iL (w.set i y)):=by
 rw[zeF (by rw[zaq]; exact h)];simp[iL,qcy]
theorem zxx{A B c i:Nat}{rows:List (List Nat)}{x1:S_api_Node}(hx:x1.card=(c:Int)){zs:List Nat}(hz:rows.getD i []=zs)(hzl:zs.length=c)(hB:0<B)(hi:i<A * B)(hA:A * c * B≤1024)(hc4:1≤c∧c≤4):∀(n x:Nat) (w:List Nat),x≤c→Fil A B c rows (i * c+x) w→c - x<n →
  ∃ w',Fil A B c rows (i * c+c) w'∧zaS ((i:Int),iL zs) (B:Int) x1 n (x:Int) (iL w)=some (iL w')
 | 0,_,_,_,_,h=>absurd h (qam _)
 | n+1,x,w,h1,h2,h3=>by
  unfold zaS;rw[zaq,hzl,zar];by_cases hxc:x<c
  ·have hlt:=zya (c:=c) hi hxc;have hb1:i / B * c+x≤(i / B * c+x)* B:=qa8 _ hB;have hAB:A * B≤A * c * B:=qax B (qa8 A hc4.1);have idx:w64 ((w64 ((w64 ((w64 (((i / B:Nat):Int)* x1.card))+(x:Int)))* (B:Int)))+((i % B:Nat):Int))=(((i / B * c+x)* B+i % B:Nat):Int):=by
    rw[hx,← qa4,zaA (by omega),← qcm,zaA (by omega),← qa4,zaA (by omega),← qcm,zaA (by omega)]
   have hw:(i / B * c+x)* B+i % B<w.length:=by rw[h2.len]; exact hlt
   have hst:=h2.step hB hi hxc;rw[hz]at hst;have hget:zs.getD x 0=zs[x]'(by omega):=by rw[qav,qad (by omega)]; rfl
   rw[hget]at hst;obtain⟨w',k1,k2⟩:=zxx hx hz hzl hB hi hA hc4 n (x+1) _ hxc hst (by omega);refine⟨w',k1,?_⟩;rw[decide_eq_true hxc,cond_true,za2 (by omega),qaa];simp only[];rw[zva hB (by omega),qaa,zmM hB,qaa,idx,za2 hw,qaa,zom hw,qaa,zao (by omega),k2]
  have:x=c:=by omega
  subst this;exact⟨w,h2,by rw[decide_eq_false (qbM _),cond_false]⟩
def zxh:Nat→List (List Nat)→List (Int×List Int)
 | _,[]=>[]
 | i,z :: r=>((i:Int),iL z):: zxh (i+1) r
theorem zxb:∀(zs:List (List Nat)) (i:Nat),((zs.map iL).zipIdx i).map (fun p=>((p.2:Int),p.1))=zxh i zs
 | [],_=>rfl
 | z :: zs,i=>by
  rw[qaH,List.zipIdx_cons,qaH,zxb zs (i+1)];rfl
theorem zxf{A B c:Nat}{rows:List (List Nat)}{x1:S_api_Node}(hx:x1.card=(c:Int))(hr:∀ r∈rows,r.length=c)(hl:rows.length=A * B)(hB:0<B)(hA:A * c * B≤1024)(hc4:1≤c∧c≤4):∀(ys:List (List Nat)) (i:Nat) (w:List Nat),rows.drop i=ys→i≤rows.length→Fil A B c rows (i * c+0) w →
  ∃ w',Fil A B c rows (A * B * c+0) w'∧zaR (B:Int) x1 (zxh i ys) (iL w)=some (iL w')
 | [],i,w,h1,h2,h3=>by
  have:i=A * B:=by
   have:=congrArg List.length h1;simp only[qbO,qaK]at this;omega
  subst this;exact⟨w,h3,rfl⟩
 | z :: ys,i,w,h1,h2,h3=>by
  have hi:i<rows.length:=by
   rcases qbf i rows.length with g | g
   ·exact g
   rw[qb5 g]at h1; cases h1
  have e:=qao hi;rw[h1]at e;obtain⟨e1,e2⟩:=List.cons.inj e;have hz:rows.getD i []=z:=by rw[qav,qad hi,e1]; rfl
  have hzl:z.length=c:=by rw[e1]; exact hr _ (qaq hi)
  obtain⟨w1,k1,k2⟩:=zxx hx hz hzl hB (by omega) hA hc4 (c+2) 0 w (qay _) h3 (by omega);obtain⟨w',g1,g2⟩:=zxf hx hr hl hB hA hc4 ys (i+1) w1 e2.symm hi k1.next;refine⟨w',g1,?_⟩;rw[show((0:Nat):Int)=0 from rfl]at k2;show(zaS ((i:Int),iL z) (B:Int) x1 (((iL z).length:Int) - 0+2:Int).toNat 0 (iL w)).bind _=_;rw[zaq,zax,hzl,k2,qaa];exact g2
theorem zyd{g:Nat}{ns:List NN}{sets os:List Int}{v:Nat}{x:NN}(hx:ns[v]? = some x)(h:FacOk (ns.map (·.c)) v x):zbm ⟨zcx g ns,iL (ns.map (·.c)),sets,os⟩ (v:Int)=some (zmf (ns.map (·.c)) v x).D:=by
 obtain⟨hv,ev⟩:=qab.1 hx;have hps:x.ps.length≤8:=qas (zfK h.inc h.lt) h.l8;obtain⟨b,e1⟩:=zAL h.inc h.nv (show x.ps.length≤1000 by omega);have e2:=zyG h.inc h.nv (show x.ps.length≤1000 by omega);have e3:=zv1 (fs:=fam x.ps v) (k:=(lo x.ps v).length) (b0:=b) (p0:=⟨zcx g ns,iL (ns.map (·.c)),sets,os⟩) rfl h.card h.fl8 h.flt (fam x.ps v) [] ((fam x.ps v).length+2) 1 rfl (qaj _) (by omega);rw[show(([]:List Nat).length:Int)=0 from rfl,show cd (ns.map (·.c)) []=[]from rfl,show iL []=[]from rfl,show((1:Nat):Int)=1 from rfl,show([]:List Nat).length=0 from rfl,h.cdf,zum _ _ (by unfold cd; simp),qbq,← h.cdf]at e3;have hrl:=h.zzP;have hmul:x.rows.length * x.c≤1024:=by
  have:=h.le;rw[hrl,Nat.mul_right_comm];exact this
 have hrl2:x.rows.length≤1024:=qas (qa8 _ h.c1.1) hmul;obtain⟨w',k1,k2⟩:=zxf (x1:=nd x) rfl h.row hrl h.B0 h.le h.c1 x.rows 0 _ rfl (qay _) (Fil.start _ _ _ _);have k3:=k1.all h.B0 (by have:=h.c1; omega);subst k3;unfold zbm;simp only[];rw[show zaP (zcx g ns).nodes (v:Int)=some (nd x) by rw[← ev]; exact zcY hv,qaa,show(nd x).parents=iL x.ps from rfl,e1,qaa,zjt (by rw[zaq]; omega),qaa];simp only[];rw[e2,qaa,zaq,zax,e3,qaa];simp only[];rw[show(nd x).rows.length=x.rows.length by simp[nd],show(nd x).card=(x.c:Int)from rfl,← qa4,zaA (by omega),zey (by omega),qaa,show zdI (nd x)=some (nd x)from rfl,qaa];rw[show ze0 (nd x).rows=some () by unfold ze0; rw[if_pos (by rw[show(nd x).rows.length=x.rows.length by simp[nd]]; omega)],qaa];have hz:znT (nd x).rows=zxh 0 x.rows:=zxb x.rows 0;have hrep:List.replicate (x.rows.length * x.c) (0:Int)=iL (List.replicate (zmA (ns.map (·.c)) v x * x.c * zaH (ns.map (·.c)) v x) 0):=by
  rw[zun,hrl,Nat.mul_right_comm]
 rw[hz,hrep];have k2':zaR ((zai (cd (ns.map (·.c)) (hi x.ps v)):Nat):Int) (nd x) (zxh 0 x.rows) (iL (List.replicate (zmA (ns.map (·.c)) v x * x.c * zaH (ns.map (·.c)) v x) 0))=_:=k2;rw[k2',qaa];rfl
theorem RightN.fac{g:Nat}{ns:List NN}(h:RightN g ns){v:Nat}{x:NN}(hx:ns[v]? = some x):FacOk (ns.map (·.c)) v x:=by
 obtain⟨hv,ev⟩:=qab.1 hx;have hm:x∈ns:=ev ▸ qaq hv;refine⟨h.inc x hm,fun hp=>h.ne hx v hp rfl,by simpa using h.lt x hm,by simpa using hv,?_,(h.rows x hm).len,fun r hr=>((h.rows x hm).row r hr).1,fun r hr w hw=>?_,h.cs.card,by simpa using h.n2,h.prod⟩
 ·rw[qav,qaU,hx];rfl
 have:=zqk hw;have:=((h.rows x hm).row r hr).2;have:=h.g2;omega
def zl5(m v i:Nat):List Nat:=(List.range i).filter fun u=>u == v || m.testBit u
theorem zqx(m v i:Nat):zl5 m v (i+1)=bif (i == v || m.testBit i)then zl5 m v i ++ [i]else zl5 m v i:=by
 unfold zl5;rw[List.range_succ,List.filter_append];cases hb:(i == v || m.testBit i)with
 | true=>rw[cond_true,List.filter_cons,if_pos hb]; rfl
 | false=>rw[cond_false,List.filter_cons,if_neg (by rw[hb]; decide)]; simp
theorem zs6(m v i:Nat):(zl5 m v i).length≤i:=by
 have:=qc0 (fun u=>u == v || m.testBit u) (List.range i);rw[qbP]at this;exact this
theorem ztl{ps:List Nat}{v n:Nat}(h:ps.Pairwise (· < ·))(hp:∀ p∈ps,p<n)(hv:v<n):zl5 (zbh ps) v n=fam ps v:=by
 refine zjU (qb0 _ List.pairwise_lt_range) (zhq h) fun u=>?_
 unfold zl5;rw[zq5];simp only[qco,qbr,qbx,beq_iff_eq,zcJ,decide_eq_true_eq];constructor
 ·rintro⟨_,h1⟩; exact h1
 rintro(rfl | h1)
 ·exact⟨hv,.inl rfl⟩
 exact⟨hp u h1,.inr h1⟩
theorem zxH{g:Nat}{ns:List NN}(h:RightN g ns){v:Nat}(hv:v<ns.length):∀(n i:Nat),i≤ns.length→ns.length - i<n →
  zbM (zcx g ns) (v:Int) n (i:Int) (iL (zl5 ((zas ns).getD v 0) v i)) (iL (cd (ns.map (·.c)) (zl5 ((zas ns).getD v 0) v i)))=some (iL (zl5 ((zas ns).getD v 0) v ns.length),iL (cd (ns.map (·.c)) (zl5 ((zas ns).getD v 0) v ns.length)))
 | 0,_,_,h=>absurd h (qam _)
 | n+1,i,h1,h2=>by
  have hn:=h.n2;have hml:(zas ns).length=ns.length:=by simp[zas]
  have hnl:(zcx g ns).nodes.length=ns.length:=by simp[zcx]
  unfold zbM;rw[hnl,zar];by_cases hi:i<ns.length
  ·have ih:=zxH h hv n (i+1) hi (by omega);have hm:(zas ns).getD v 0<18446744073709551616:=zke h.zeC v;have hc:(bif ((i:Int)==(v:Int))then some true else(za6 (zcx g ns)).bind fun r4=>(zaP r4 (v:Int)).bind fun x6=>(zec x6 (i:Int)).bind fun r8=>some r8:Option Bool)=some (i == v || ((zas ns).getD v 0).testBit i):=by
    rw[zm4];cases hb:(i == v)with
    | true=>rfl
    | false=>rw[cond_false,h.zzh,qaa,zqI (by omega),qaa,zvO hm (by omega),qaa]; rfl
   rw[decide_eq_true hi,cond_true,hc,qaa];rw[zqx]at ih;have hfl:=zs6 ((zas ns).getD v 0) v i;cases hb:(i == v || ((zas ns).getD v 0).testBit i)with
   | true=>
    rw[hb,cond_true]at ih;rw[cond_true,zck (by rw[zaq]; simp only[qaD,qaK]; omega),qaa,show zaP (zcx g ns).nodes (i:Int)=some (nd ns[i])from zcY hi,qaa,zck (by rw[zaq]; unfold cd; simp only[qaw,qaD,qaK]; omega),qaa,qaa];simp only[];have e1:iL (zl5 ((zas ns).getD v 0) v i)++ [(i:Int)]=iL (zl5 ((zas ns).getD v 0) v i ++ [i]):=by rw[zja]; rfl
    have hci:(ns.map (·.c)).getD i 0=ns[i].c:=by rw[qav,qaU,qad hi]; rfl
    have e2:iL (cd (ns.map (·.c)) (zl5 ((zas ns).getD v 0) v i))++ [(nd ns[i]).card]=iL (cd (ns.map (·.c)) (zl5 ((zas ns).getD v 0) v i ++ [i])):=by
     rw[zlI,zja];show _=_ ++ [(((ns.map (·.c)).getD i 0:Nat):Int)];rw[hci];rfl
    rw[e1,e2,zao (by omega),ih]
   | false=>
    rw[hb,cond_false]at ih;rw[cond_false,qaa];simp only[];rw[zao (by omega),ih]
  have:i=ns.length:=by omega
  subst this;rw[decide_eq_false (qbM _),cond_false]
def zgE:List Nat→List Nat→(Nat→Nat)→Nat→Nat
 | u :: us,d :: ds,F=>zgE us ds (upd F u d)
 | _,_,F=>F
theorem znl:∀ {us ds:List Nat} {F:Nat→Nat} {x:Nat},x ∉ us→zgE us ds F x=F x
 | [],_,_,_,_=>by unfold zgE; rfl
 | u :: us,[],_,_,_=>by unfold zgE; rfl
 | u :: us,d :: ds,F,x,h=>by
  unfold zgE;rw[znl fun h1=>h (qal u h1),zui fun e=>h (by rw[e]; exact qap)]
theorem zp9:∀ {us ds:List Nat} {F:Nat→Nat} {x:Nat},us.Nodup→us.length=ds.length→x∈us→zgE us ds F x=at_ us ds x
 | [],_,_,_,_,_,h=>by simp at h
 | u :: us,[],_,_,_,h,_=>by simp at h
 | u :: us,d :: ds,F,x,hn,hl,h=>by
  obtain⟨n1,n2⟩:=qbT.1 hn;unfold zgE;rw[zia];by_cases e:u=x
  ·subst e;rw[znl n1,zou,beq_self_eq_true,cond_true]
  rw[beq_false_of_ne e,cond_false];exact zp9 n2 (by simpa using hl) ((qaL.1 h).resolve_left fun e2=>e e2.symm)
theorem zu3{n u d:Nat}{F:Nat→Nat}:((List.range n).map F).set u d=(List.range n).map (upd F u d):=by
 refine qcr (by simp) fun i h1 h2=>?_
 rw[List.getElem_set];simp only[qcs,qcR];by_cases e:u=i
 ·subst e; rw[if_pos rfl,zou]
 rw[if_neg e,zui fun e2=>e e2.symm]
theorem zwJ{fs ds:List Nat}{L:List (List Int)}{j m:Nat}{p0:S_api_Net}(hL:zaP L (j:Int)=some (iL ds))(hl:fs.length=ds.length)(hf:∀ u∈fs,u<m)(hm:fs.length≤1000):∀(n i:Nat) (F:Nat→Nat),i≤fs.length→fs.length - i<n →
  zb9 (iL fs) L (j:Int) p0 n (i:Int) (iL ((List.range m).map F))=some (iL ((List.range m).map (zgE (fs.drop i) (ds.drop i) F)))
 | 0,_,_,_,h=>absurd h (qam _)
 | n+1,i,F,h1,h2=>by
  unfold zb9;rw[zaq,zar];by_cases hi:i<fs.length
  ·have hu:=hf _ (qaq hi);rw[decide_eq_true hi,cond_true,za2 hi,qaa,hL,qaa,za2 (show i<ds.length by omega),qaa,za2 (by simpa using hu),qaa,zom (by simpa using hu),qaa,zao (by omega),zu3,zwJ hL hl hf hm n (i+1) _ hi (by omega),qao hi,qao (show i<ds.length by omega)];rfl
  have:i=fs.length:=by omega
  subst this;rw[decide_eq_false (qbM _),cond_false,qcL];unfold zgE;rfl
def zyv(cs:List Nat)(v:Nat)(x:NN)(j:Nat):Nat→Nat:=zgE (fam x.ps v) (dig (cd cs (fam x.ps v)) j) fun _=>0
theorem zti{cs:List Nat}{v:Nat}{x:NN}(h:FacOk cs v x)(j:Nat):(fam x.ps v).map (zyv cs v x j)=dig (cd cs (fam x.ps v)) j:=by
 have hn:=zlX (zhq (v:=v) h.inc);have hl:(fam x.ps v).length=(dig (cd cs (fam x.ps v)) j).length:=by rw[zii]; simp[cd]
 rw[← zxs hn hl];exact List.map_congr_left fun u hu=>zp9 hn hl hu
theorem zvS{cs:List Nat}{v:Nat}{x:NN}(h:FacOk cs v x){j:Nat}(hj:j<zmA cs v x * x.c * zaH cs v x):dig (cd cs (fam x.ps v)) j=dig (cd cs (lo x.ps v)) (j / (x.c * zaH cs v x))++ j / zaH cs v x % x.c :: dig (cd cs (hi x.ps v)) (j % zaH cs v x):=by
 have hB:=h.B0;have hc:=h.c1;have hp:zai (x.c :: cd cs (hi x.ps v))=x.c * zaH cs v x:=rfl;have hp0:0<x.c * zaH cs v x:=qc6 (by omega) hB;rw[h.cdf,znd _ _ _ (by rw[hp]; exact hp0) (by rw[hp,← qbw]; exact hj),hp];congr 1
 show j % (x.c * zaH cs v x) / zaH cs v x :: dig (cd cs (hi x.ps v)) (j % (x.c * zaH cs v x) % zaH cs v x)=_;rw[show j % (x.c * zaH cs v x) / zaH cs v x=j / zaH cs v x % x.c by rw[qa2,Nat.mod_mul_right_div_self],Nat.mod_mod_of_dvd _ ⟨x.c,qa2 _ _⟩]
theorem zAq{a a' b b':List Nat}{x x':Nat}(h:a ++ x :: b=a' ++ x' :: b')(hl:a.length=a'.length):a=a'∧x=x'∧b=b':=by
 obtain⟨h1,h2⟩:=List.append_inj h hl;obtain⟨h3,h4⟩:=List.cons.inj h2;exact⟨h1,h3,h4⟩
theorem zqa{cs:List Nat}{v:Nat}{x:NN}(h:FacOk cs v x){F:Nat→Nat}{j:Nat}(hj:j<zmA cs v x * x.c * zaH cs v x)(e:(fam x.ps v).map F=dig (cd cs (fam x.ps v)) j):F v=j / zaH cs v x % x.c∧x.ps.map F=dig (cd cs x.ps) (j / (x.c * zaH cs v x)* zaH cs v x+j % zaH cs v x):=by
 rw[zvS h hj]at e;unfold fam at e;rw[qba,qaH]at e;obtain⟨h1,h2,h3⟩:=zAq e (by rw[qaw,zii]; simp[cd]);refine⟨h2,?_⟩;have hB:=h.B0;have hmod:=qbm j hB;have ha:j / (x.c * zaH cs v x)<zmA cs v x:=qbY (by rw[qa2 (x.c * zaH cs v x),← qbw]; exact hj);have hlt:j / (x.c * zaH cs v x)* zaH cs v x+j % zaH cs v x<zmA cs v x * zaH cs v x:=by
  have:=qax (zaH cs v x) (show j / (x.c * zaH cs v x)+1≤zmA cs v x from ha);rw[qaP,qbq]at this;omega
 have hps:cd cs x.ps=cd cs (lo x.ps v)++ cd cs (hi x.ps v):=by rw[← zlI,zrY h.inc h.nv]
 rw[hps,znd _ _ _ hB hlt];have d1:(j / (x.c * zaH cs v x)* zaH cs v x+j % zaH cs v x) / zaH cs v x=j / (x.c * zaH cs v x):=by rw[qb2,qcA _ _ hB,qb8 hmod,qaZ]
 have d2:(j / (x.c * zaH cs v x)* zaH cs v x+j % zaH cs v x) % zaH cs v x=j % zaH cs v x:=by rw[qb2,qbA,Nat.mod_mod]
 show _=dig _ ((j / (x.c * zaH cs v x)* zaH cs v x+j % zaH cs v x) / zaH cs v x)++ dig _ ((j / (x.c * zaH cs v x)* zaH cs v x+j % zaH cs v x) % zaH cs v x);rw[d1,d2,← h1,← h3,← qba,zrY h.inc h.nv]
theorem zoQ{cs:List Nat}{v:Nat}{x:NN}(h:FacOk cs v x){j:Nat}(hj:j<zmA cs v x * x.c * zaH cs v x):zyv cs v x j v=j / zaH cs v x % x.c∧x.ps.map (zyv cs v x j)=dig (cd cs x.ps) (j / (x.c * zaH cs v x)* zaH cs v x+j % zaH cs v x):=zqa h hj (zti h j)
theorem zvT{cs us:List Nat}(h:∀ c∈cs,1≤c∧c≤4)(hu:∀ u∈us,u<cs.length):∀ c∈cd cs us,1≤c∧c≤8:=fun c hc=>⟨(zig h hu c hc).1,qas (zig h hu c hc).2 (by decide)⟩
theorem zvg{g:Nat}{ns:List NN}{v i:Nat}{x:NN}{F:Nat→Nat}(hx:ns[v]? = some x)(h:FacOk (ns.map (·.c)) v x)(hF:x.ps.map F=dig (cd (ns.map (·.c)) x.ps) i)(hi:i<x.rows.length):zeY (zcx g ns) (v:Int) (iL ((List.range ns.length).map F))=some (iL (x.rows.getD i [])):=by
 obtain⟨hv,ev⟩:=qab.1 hx;have hps:x.ps.length≤8:=qas (zfK h.inc h.lt) h.l8;have hlt:∀ p∈x.ps,p<ns.length:=by simpa using h.lt
 have h8:=zvT h.card h.lt;have hpr:zai (cd (ns.map (·.c)) x.ps)≤1024:=qas (zoj (fun c hc=>(h.card c hc).1) h.inc h.lt) h.prod;have hi':i<zai (cd (ns.map (·.c)) x.ps):=by rw[← h.len]; exact hi
 unfold zeY;rw[show zaP (zcx g ns).nodes (v:Int)=some (nd x) by rw[← ev]; exact zcY hv,qaa];have e1:zaG (zcx g ns) (v:Int)=some (iL (cd (ns.map (·.c)) x.ps)):=by
  have:=zwG (g:=(g:Int)) (ns:=ns) (v:=v) (by simpa using h.l8) hv (by rw[ev]; exact hlt) (by rw[ev]; exact hps);rw[ev]at this;exact this
 have e2:zeI (iL ((List.range ns.length).map F)) (iL x.ps)=some (iL (x.ps.map F)):=by
  rw[zvL (fun p hp=>by rw[zaq]; simpa using hlt p hp) hps];congr 1
  simp only[iL,qcX];refine List.map_congr_left fun p hp=>?_
  have:=hlt p hp;simp[qav,this]
 rw[e1,qaa,show(nd x).parents=iL x.ps from rfl,e2,qaa,hF,zve (zht h8 hi') (fun c hc=>(h8 c hc).1) (by omega) (by unfold cd; simp; omega),qaa,zrp h8 hi',zj7,show(nd x).rows=x.rows.map iL from rfl,qaU,qad hi,qaQ,qaa,qav,qad hi];rfl
theorem zxd{g:Nat}{ns:List NN}{v:Nat}{x:NN}(hx:ns[v]? = some x)(h:FacOk (ns.map (·.c)) v x):∀(n i:Nat),i≤zai (cd (ns.map (·.c)) (fam x.ps v))→zai (cd (ns.map (·.c)) (fam x.ps v)) - i<n →
  zbL (zul (cd (ns.map (·.c)) (fam x.ps v))) (zcx g ns) (iL (fam x.ps v)) (v:Int) n (i:Int) (iL ((List.range' 0 i).map (zpC (zaH (ns.map (·.c)) v x) x.c x.rows)))=some (iL (zmf (ns.map (·.c)) v x).ws)
 | 0,_,_,h=>absurd h (qam _)
 | n+1,i,h1,h2=>by
  have hle:=h.le;have hsz:=h.size;have hnl:(zcx g ns).nodes.length=ns.length:=by simp[zcx]
  have hn8:ns.length≤8:=by simpa using h.l8
  have hv:v<ns.length:=by simpa using h.hv
  unfold zbL;rw[zol,zar];by_cases hi:i<zai (cd (ns.map (·.c)) (fam x.ps v))
  ·have hj:i<zmA (ns.map (·.c)) v x * x.c * zaH (ns.map (·.c)) v x:=by rw[← hsz]; exact hi
   obtain⟨k1,k2⟩:=zoQ h hj;have hB:=h.B0;have hc:=h.c1;have hrow:i / (x.c * zaH (ns.map (·.c)) v x)* zaH (ns.map (·.c)) v x+i % zaH (ns.map (·.c)) v x<x.rows.length:=by
    rw[h.zzP];have hmod:=qbm i hB;have ha:i / (x.c * zaH (ns.map (·.c)) v x)<zmA (ns.map (·.c)) v x:=qbY (by rw[qa2 (x.c * zaH (ns.map (·.c)) v x),← qbw]; exact hj);have:=qax (zaH (ns.map (·.c)) v x) (show i / (x.c * zaH (ns.map (·.c)) v x)+1≤zmA (ns.map (·.c)) v x from ha);rw[qaP,qbq]at this;omega
   have hrl:(x.rows.getD (i / (x.c * zaH (ns.map (·.c)) v x)* zaH (ns.map (·.c)) v x+i % zaH (ns.map (·.c)) v x) []).length=x.c:=by
    rw[qav,qad hrow];exact h.row _ (qaq hrow)
   have hmc:i / zaH (ns.map (·.c)) v x % x.c<x.c:=qbm _ (by omega);have e4:=zwJ (fs:=fam x.ps v) (ds:=dig (cd (ns.map (·.c)) (fam x.ps v)) i) (p0:=zcx g ns) (m:=ns.length) (ztF hi) (by rw[zii]; simp[cd]) (by simpa using h.flt) (by have:=h.fl8; omega) ((fam x.ps v).length+2) 0 (fun _=>0) (qay _) (by omega);rw[qaS,qaS,show((0:Nat):Int)=0 from rfl]at e4;have e0:List.replicate ns.length (0:Int)=iL ((List.range ns.length).map fun _=>0):=by
    refine qcr (by simp[iL]) fun a b c=>?_
    simp[iL]
   rw[decide_eq_true hi,cond_true,hnl,zey (by omega),qaa,e0,zaq,zax,e4,qaa];have e5:zaP (iL ((List.range ns.length).map (zgE (fam x.ps v) (dig (cd (ns.map (·.c)) (fam x.ps v)) i) fun _=>0))) (v:Int)=some ((i / zaH (ns.map (·.c)) v x % x.c:Nat):Int):=by
    rw[za2 (by simpa using hv)];simp only[qcs,qcR];rw[← k1];rfl
   have e6:=zvg (g:=g) hx h k2 hrow;have e7:zaP (iL (x.rows.getD (i / (x.c * zaH (ns.map (·.c)) v x)* zaH (ns.map (·.c)) v x+i % zaH (ns.map (·.c)) v x) [])) ((i / zaH (ns.map (·.c)) v x % x.c:Nat):Int)=some ((zpC (zaH (ns.map (·.c)) v x) x.c x.rows i:Nat):Int):=zj8 (by rw[hrl]; exact hmc);rw[e5,qaa];rw[show(List.range ns.length).map (zgE (fam x.ps v) (dig (cd (ns.map (·.c)) (fam x.ps v)) i) fun _=>0)=(List.range ns.length).map (zyv (ns.map (·.c)) v x i)from rfl,e6,qaa,e7,qaa,zck (by rw[zaq]; simp only[qaw,List.length_range',qaD,qaK]; omega),qaa];have e8:iL ((List.range' 0 i).map (zpC (zaH (ns.map (·.c)) v x) x.c x.rows))++ [((zpC (zaH (ns.map (·.c)) v x) x.c x.rows i:Nat):Int)]=iL ((List.range' 0 (i+1)).map (zpC (zaH (ns.map (·.c)) v x) x.c x.rows)):=by
    rw[List.range'_concat,qba,zja];simp[iL]
   rw[e8,zao (by omega),zxd hx h n (i+1) hi (by omega)]
  have:i=zai (cd (ns.map (·.c)) (fam x.ps v)):=by omega
  subst this;rw[decide_eq_false (qbM _),cond_false,hsz];rfl
theorem zx6{g:Nat}{ns:List NN}(h:RightN g ns):∀(n i:Nat),i≤ns.length→ns.length - i<n →
  zbN 5000 (zcx g ns) n (i:Int) ((List.range i).map fun v=>(zmf (ns.map (·.c)) v (ns.getD v ⟨0,[],[]⟩)).D)=some ((List.range ns.length).map fun v=>(zmf (ns.map (·.c)) v (ns.getD v ⟨0,[],[]⟩)).D)
 | 0,_,_,h=>absurd h (qam _)
 | n+1,i,h1,h2=>by
  have hn:=h.n2;have hnl:(zcx g ns).nodes.length=ns.length:=by simp[zcx]
  unfold zbN;rw[hnl,zar];by_cases hi:i<ns.length
  ·have hx:ns[i]? = some (ns.getD i ⟨0,[],[]⟩):=by rw[qav,qad hi]; rfl
   have hf:=h.fac hx;have e2:=zxH h hi (ns.length+2) 0 (qay _) (by omega);have hmk:(zas ns).getD i 0=zbh (ns.getD i ⟨0,[],[]⟩).ps:=by
    unfold zas;rw[qav,qaU,hx];rfl
   rw[hmk,ztl hf.inc (by simpa using hf.lt) hi,show zl5 (zbh (ns.getD i ⟨0,[],[]⟩).ps) i 0=[]from rfl,show((0:Nat):Int)=0 from rfl]at e2;have hc8:=zvT hf.card hf.flt;have hle:=hf.le;have hsz:=hf.size;have e3:=zxd (g:=g) hx hf (zai (cd (ns.map (·.c)) (fam (ns.getD i ⟨0,[],[]⟩).ps i))+2) 0 (qay _) (by omega);rw[show((0:Nat):Int)=0 from rfl,show(List.range' 0 0).map (zpC (zaH (ns.map (·.c)) i (ns.getD i ⟨0,[],[]⟩)) (ns.getD i ⟨0,[],[]⟩).c (ns.getD i ⟨0,[],[]⟩).rows)=[]from rfl]at e3;rw[decide_eq_true hi,cond_true,zax];have e2':zbM (zcx g ns) (i:Int) (ns.length+2) 0 [] []=_:=e2;rw[e2',qaa];simp only[];rw[zzf hc8 (by simp only[cd,qaw]; have:=hf.fl8; omega) (by omega),qaa,zol,zax];have e3':zbL (zul (cd (ns.map (·.c)) (fam (ns.getD i ⟨0,[],[]⟩).ps i))) (zcx g ns) (iL (fam (ns.getD i ⟨0,[],[]⟩).ps i)) (i:Int) (zai (cd (ns.map (·.c)) (fam (ns.getD i ⟨0,[],[]⟩).ps i))+2) 0 []=_:=e3;rw[e3',qaa,zck (by simp only[qaw,qbP,qaD,qaK]; omega),qaa,zao (by omega)];have ih:=zx6 h n (i+1) hi (by omega);rw[List.range_succ,qba]at ih;exact ih
  have:i=ns.length:=by omega
  subst this;rw[decide_eq_false (qbM _),cond_false]
def ztD(ns:List NN):List S_api_Factor:=(List.range ns.length).map fun v=>(zmf (ns.map (·.c)) v (ns.getD v ⟨0,[],[]⟩)).D
theorem zoT{g:Nat}{ns:List NN}(h:RightN g ns):zc4 5000 (zcx g ns)=some (ztD ns):=by
 have e:=zx6 h (ns.length+2) 0 (qay _) (by omega);unfold zc4;rw[show(zcx g ns).nodes.length=ns.length by simp[zcx],zax];have e':zbN 5000 (zcx g ns) (ns.length+2) 0 []=_:=e;rw[e',qaa];rfl
theorem ziW{α:Type}{xs:List α}{i:Nat}{d:α}:xs.getD i d=d∨xs.getD i d∈xs:=by
 rw[qav];rcases qbf i xs.length with h | h
 ·rw[qad h];exact .inr (qaq h)
 rw[qbd h];exact .inl rfl
theorem zvq{B c:Nat}{rows:List (List Nat)}(h:∀ r∈rows,∀ w∈r,w≤60)(j:Nat):zpC B c rows j≤60:=by
 unfold zpC;rcases ziW (xs:=rows) (i:=j / (c * B)* B+j % B) (d:=[])with e | e
 ·rw[e]; simp
 rcases ziW (xs:=rows.getD (j / (c * B)* B+j % B) []) (i:=j / B % c) (d:=0)with e2 | e2
 ·rw[e2]; omega
 exact h _ e _ e2
theorem zuO{cs:List Nat}{v:Nat}{x:NN}(h:FacOk cs v x):FcOk (zmf cs v x):=by
 have h8:=h.fl8;have hle:=h.le;have hsz:=h.size;refine⟨by simp[zmf,cd],by simp only[zmf,cd,qaw]; omega,zvT h.card h.flt,?_,?_,zhq h.inc,fun u hu=>?_,fun w hw=>?_⟩
 ·show zai (cd cs (fam x.ps v))≤4096;omega
 ·show _=zai (cd cs (fam x.ps v));rw[hsz];simp[zmf]
 ·have:=h.flt u hu;have:=h.l8;omega
 obtain⟨j,_,rfl⟩:=qaG.1 hw;have:=zvq (B:=zaH cs v x) (c:=x.c) h.num j;simp only[zzO];omega
theorem zx5{g:Nat}{ns:List NN}{sets os:List Int}(h:RightN g ns):∀(n i:Nat),i≤ns.length→ns.length - i<n →
  zb8 (⟨zcx g ns,iL (ns.map (·.c)),sets,os⟩,0) n (i:Int) (((List.range i).map fun v=>(zmf (ns.map (·.c)) v (ns.getD v ⟨0,[],[]⟩)).D)++ List.replicate (ns.length - i) ⟨[],[],[]⟩)=some (ztD ns)
 | 0,_,_,h=>absurd h (qam _)
 | n+1,i,h1,h2=>by
  have hn:=h.n2;have hnl:(zcx g ns).nodes.length=ns.length:=by simp[zcx]
  unfold zb8;simp only[];rw[hnl,qaF,zar];by_cases hi:i<ns.length
  ·have hx:ns[i]? = some (ns.getD i ⟨0,[],[]⟩):=by rw[qav,qad hi]; rfl
   have hf:=h.fac hx;have hlen:(((List.range i).map fun v=>(zmf (ns.map (·.c)) v (ns.getD v ⟨0,[],[]⟩)).D)++ List.replicate (ns.length - i) (⟨[],[],[]⟩:S_api_Factor)).length=ns.length:=by simp; omega
   have ih:=zx5 (sets:=sets) (os:=os) h n (i+1) hi (by omega);have e:(((List.range i).map fun v=>(zmf (ns.map (·.c)) v (ns.getD v ⟨0,[],[]⟩)).D)++ List.replicate (ns.length - i) (⟨[],[],[]⟩:S_api_Factor)).set i (zmf (ns.map (·.c)) i (ns.getD i ⟨0,[],[]⟩)).D=((List.range (i+1)).map fun v=>(zmf (ns.map (·.c)) v (ns.getD v ⟨0,[],[]⟩)).D)++ List.replicate (ns.length - (i+1)) ⟨[],[],[]⟩:=by
    rw[List.set_append_right _ _ (by simp),qaw,qbP,qbU,show ns.length - i=(ns.length - (i+1))+1 by omega,qa6,qcv,List.range_succ,qba,qaW];rfl
   rw[decide_eq_true hi,cond_true,zyd hx hf,qaa,zaJ (by rw[hlen]; exact hi),qaa,zeF (by rw[hlen]; exact hi),qaa,zao (by omega),e,ih]
  have:i=ns.length:=by omega
  subst this;rw[decide_eq_false (qbM _),cond_false,qbU,List.replicate_zero,qaN];rfl
theorem zoI{g:Nat}{ns:List NN}(h:RightN g ns):zb2 (zcx g ns)=some (ztD ns,0):=by
 obtain⟨os,_,_,e⟩:=zvU h;have hn:=h.n2;have hnl:(zcx g ns).nodes.length=ns.length:=by simp[zcx]
 have e1:=zx5 (sets:=iL (zas ns)) (os:=iL os) h (ns.length+2) 0 (qay _) (by omega);rw[show((0:Nat):Int)=0 from rfl,List.range_zero,qbI,qa5,qcZ]at e1;unfold zb2;rw[e,qaa];simp only[];rw[show((0:Int)== 0)=true from rfl,cond_true,hnl,zey (by omega),qaa,qaF,zax,e1,qaa]
theorem zju(ns:List NN):(ztD ns).length=ns.length:=by simp[ztD]
theorem zsr{ns:List NN}{v:Nat}(h:v<ns.length):zaP (ztD ns) (v:Int)=some (zmf (ns.map (·.c)) v (ns.getD v ⟨0,[],[]⟩)).D:=by
 rw[zaJ (by rw[zju]; exact h)];simp[ztD]
theorem zur{g:Nat}{ns:List NN}(h:RightN g ns):∀(n i:Nat),i≤ns.length→ns.length - i<n→zbt (ztD ns,0) (ztD ns) n (i:Int)=some (.go ())
 | 0,_,_,h=>absurd h (qam _)
 | n+1,i,h1,h2=>by
  have hn:=h.n2;unfold zbt;simp only[];rw[zju,zar];by_cases hi:i<ns.length
  ·have hx:ns[i]? = some (ns.getD i ⟨0,[],[]⟩):=by rw[qav,qad hi]; rfl
   have hs:=(zuO (h.fac hx)).sz;rw[decide_eq_true hi,cond_true,zsr hi,qaa,qaa,zvK hs,qaa,decide_eq_true rfl,cond_true,zao (by omega),zur h n (i+1) hi (by omega)]
  rw[decide_eq_false hi,cond_false]
theorem zt8{r4:A3_S_api_Net}(h0:Bnd r4.a0)(h1:Bnd r4.a1)(h2:Bnd r4.a2):∀(n i:Nat),i≤3→3 - i<n→zbv 5000 r4 n (i:Int)=some (.go ())
 | 0,_,_,h=>absurd h (qam _)
 | n+1,i,h4,h3=>by
  unfold zbv;by_cases hi:i<3
  ·obtain⟨d,hdb,hx⟩:∃ d,Bnd d∧zaP [r4.a0,r4.a1,r4.a2] (i:Int)=some d:=by
    have:i=0∨i=1∨i=2:=by omega
    rcases this with rfl | rfl | rfl
    ·exact⟨_,h0,rfl⟩
    ·exact⟨_,h1,rfl⟩
    exact⟨_,h2,rfl⟩
   have ih:=zt8 h0 h1 h2 n (i+1) (by omega) (by omega);rw[show decide ((i:Int)<3)=true from decide_eq_true (by omega),cond_true,hx,qaa,zao (by omega),ih];rcases zpX hdb with⟨⟨g,ns,rfl,h⟩,hr⟩| ⟨hno,hr⟩
   ·have k:=zur h (ns.length+2) 0 (qay _) (by omega);rw[show((0:Nat):Int)=0 from rfl]at k;simp only[zoI h,hr,zoT h,qaa,cond_true,show((0:Int)== 0)=true from rfl,zju,beq_self_eq_true,qa3,cond_false,zax,k]
   rcases zuW hdb with e | ⟨g,ns,rfl,h⟩
   ·have k:zb2 d=some ([],50):=by unfold zb2; rw[e,qaa]; simp only[]; rw[show((50:Int)== 0)=false from rfl,cond_false]
    simp only[k,hr,qaa,cond_false,qaK,Int.natCast_zero,Int.ofNat_zero,show((0:Int)== 0)=true from rfl,cond_true,show((50:Int)== 50)=true from rfl,qa3]
   exact absurd ⟨g,ns,rfl,h⟩ hno
  rw[show decide ((i:Int)<3)=false from decide_eq_false (by omega),cond_false]
theorem zjl{raw:S_api_Net}{dr:DraftN}{b:S_haruspexref05_Bend}(hd:DraftOk dr)(hb:BendOk b):zcH 5000 raw (zcF dr) b=some true:=by
 obtain⟨r,e,h0,h1,h2⟩:=zuH (N:=5000) (raw:=raw) (by decide) hd hb;have e1:=zt8 h0 h1 h2 5 0 (by omega) (by omega);rw[show((0:Nat):Int)=0 from rfl]at e1;unfold zcH zmx;rw[qaa,cond_true,e,qaa,show(3 - 0+2:Int).toNat=5 from rfl,e1,qaa]
end Go.Dc
