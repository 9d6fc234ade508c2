/-
 Plain laws: factors over the nodes of a net; NetTotals. Conditions: none.
-/
import Derived.Test.YtnfgibomhkbcpaaNtJ17
set_option linter.unusedSimpArgs false
set_option linter.unusedVariables false
namespace Go.Dc
open Go Go.Mx Go.Lx
structure NCs (cs:List Nat):Prop where
 zaE:∀ c∈cs,1≤c∧c≤4
 l8:cs.length≤8
 prod:zac cs≤1024
structure Stc (cs:List Nat) (f:Fc) (M:Nat):Prop where
 ok:FcOk f
 cs_:f.cs=cd cs f.vs
 var:∀ v∈f.vs,v<cs.length
 le:∀ i,f.get i≤M
theorem NCs.vars{cs vs:List Nat}(h:NCs cs)(hi:vs.Pairwise (· < ·))(hv:∀ v∈vs,v<cs.length):zac (cd cs vs)≤1024∧vs.length≤8∧(∀ c∈cd cs vs,1≤c∧c≤8)∧zbw (iL (cd cs vs))=true:=by
 have h1:=qap (zlg (fun c hc=>(h.zaE c hc).1) hi hv) h.prod;have h2:=qap (ziJ hi hv) h.l8;have h3:=zrv h.zaE hv;refine⟨h1,h2,h3,?_⟩;unfold zbw;rw[zan,show(cd cs vs).length=vs.length by simp[cd],decide_eq_true (by omega),qbt];exact zgy h3 (by omega)
theorem Stc.at{cs:List Nat}{f:Fc}{M:Nat}(h:Stc cs f M){v:Nat}(hv:v∈f.vs):at_ f.vs f.cs v=cs.getD v 0:=by
 rw[h.cs_];exact zgL (h:=fun p=>cs.getD p 0) hv
theorem Stc.agr{cs:List Nat}{f g:Fc}{M N:Nat}(hf:Stc cs f M)(hg:Stc cs g N):Agr f g:=fun v h1 h2=>by rw[hf.at h1,hg.at h2]
theorem Stc.ucs{cs:List Nat}{f g:Fc}{M N:Nat}(hf:Stc cs f M)(hg:Stc cs g N):ucs f g=cd cs (uni f g):=by
 refine qbD fun v hv=>?_
 rcases(zdC hf.ok hg.ok).1 hv with h | h
 ·rw[zAh h,hf.at h]
 rw[zAA (hf.agr hg) h,hg.at h]
theorem Stc.uv{cs:List Nat}{f g:Fc}{M N:Nat}(hf:Stc cs f M)(hg:Stc cs g N):∀ v∈uni f g,v<cs.length:=fun v hv=>((zdC hf.ok hg.ok).1 hv).elim (hf.var v) (hg.var v)
theorem Stc.zad{cs:List Nat}{f g:Fc}{M N:Nat}(hc:NCs cs)(hf:Stc cs f M)(hg:Stc cs g N):zbw (iL (Go.Dc.ucs f g))=true:=by
 rw[hf.ucs hg];exact(hc.vars (zhk f g) (hf.uv hg)).2.2.2
theorem Stc.znv{cs:List Nat}{f g:Fc}{M N:Nat}(hf:Stc cs f M)(hg:Stc cs g N)(hB:M * N≤zi5):Go.Dc.znv f g=true:=
 qbL.2 fun j _=>decide_eq_true (qap (qbc (hf.le _) (hg.le _)) hB)
theorem Stc.mul{cs:List Nat}{f g:Fc}{M N:Nat}(hc:NCs cs)(hf:Stc cs f M)(hg:Stc cs g N)(hB:M * N≤zi5):Stc cs (ztI f g) (M * N):=by
 refine⟨zxk hf.ok hg.ok (hf.zad hc hg) (hf.znv hg hB),hf.ucs hg,hf.uv hg,zjF fun x hx=>?_⟩;obtain⟨j,_,rfl⟩:=qaF.1 hx;exact qbc (hf.le _) (hg.le _)
theorem Stc.zwk{cs:List Nat}{f g:Fc}{M N:Nat}(hc:NCs cs)(hf:Stc cs f M)(hg:Stc cs g N)(hB:M * N≤zi5):zcc f.D g.D=some ((ztI f g).D,0):=by
 rw[Go.Dc.zwk hf.ok hg.ok,(zl1 hf.ok hg.ok).2 (hf.agr hg),cond_true];unfold mulR;rw[hf.zad hc hg,cond_true,hf.znv hg hB,cond_true]
theorem zAw{cs us:List Nat}{u:Nat}(hu:u∈us):at_ us (cd cs us) u=cs.getD u 0:=zgL (h:=fun p=>cs.getD p 0) hu
def zzJ(cs:List Nat)(s:Nat→Nat):Prop:=∀ v,v<cs.length→s v<cs.getD v 0
theorem Stc.fit{cs:List Nat}{f:Fc}{M:Nat}(h:Stc cs f M){s:Nat→Nat}(hs:zzJ cs s):Fit f s:=fun v hv=>by rw[h.at hv]; exact hs v (h.var v hv)
theorem Stc.zn4{cs:List Nat}{f g:Fc}{M N:Nat}(hc:NCs cs)(hf:Stc cs f M)(hg:Stc cs g N)(hB:M * N≤zi5){s:Nat→Nat}(hs:zzJ cs s):(ztI f g).val s=f.val s * g.val s:=Go.Dc.zn4 hf.ok hg.ok (hf.zad hc hg) ((hf.mul hc hg hB).fit hs)
theorem RightN.ncs{g:Nat}{ns:List NN}(h:RightN g ns):NCs (ns.map (·.c)):=⟨h.cs.zaE,by simpa using h.n2,h.prod⟩
theorem RightN.stc{g:Nat}{ns:List NN}(h:RightN g ns){v:Nat}(hv:v<ns.length):Stc (ns.map (·.c)) (zfS (ns.map (·.c)) v (ns.getD v zgA)) 60:=by
 have hf:=h.fac (zhT hv);exact⟨znF hf,rfl,hf.flt,zuJ hf⟩
def ztJ:Fc:=⟨[],[],[1]⟩
theorem zwK(cs:List Nat):Stc cs ztJ 1:=by
 refine⟨⟨rfl,by simp[ztJ],by simp[ztJ],by simp[ztJ,zac],rfl,List.Pairwise.nil,by simp[ztJ],fun w hw=>by rw[qa3.1 hw]; decide⟩,rfl,by simp[ztJ],zjF (by simp[ztJ])⟩
theorem zxG(s:Nat→Nat):ztJ.val s=1:=rfl
structure Prf (ns:List NN) (i:Nat) (f:Fc):Prop where
 st:Stc (ns.map (·.c)) f (60 ^ i)
 mem:∀ v,v<i→v∈f.vs
 val:∀ s,zzJ (ns.map (·.c)) s→f.val s=wtO ns (List.range i) s
theorem zub{i:Nat}(h:i≤8):60 ^ i≤167961600000000:=qap (qbI (by decide) h) (by decide)
theorem zvR{g:Nat}{ns:List NN}(h:RightN g ns):∀(n i:Nat) (f:Fc),i≤ns.length→Prf ns i f→ns.length - i<n →
  ∃ f',Prf ns ns.length f'∧zbk (zvT ns,0) n (i:Int) f.D.vars f.D.zad f.D.w=some (.go (f'.D.vars,f'.D.zad,f'.D.w))
 | 0,_,_,_,_,h=>absurd h (qar _)
 | n+1,i,f,h1,h2,h3=>by
  have hn:=h.n2;unfold zbk;simp only[];rw[zjW,zaA];by_cases hi:i<ns.length
  ·have hg:=h.stc hi;have hB:60 ^ i * 60≤zi5:=by
    have:=zub (i:=i+1) (by omega);rw[qcB]at this;simp only[zi5];omega
   have hp:Prf ns (i+1) (ztI f (zfS (ns.map (·.c)) i (ns.getD i zgA))):=by
    refine⟨?_,fun v hv=>?_,fun s hs=>?_⟩
    ·rw[qcB];exact h2.st.mul h.ncs hg hB
    ·show v∈uni f _;rw[zdC h2.st.ok hg.ok];rcases qa2 v i with hv2 | hv2
     ·exact .inl (h2.mem v hv2)
     have:v=i:=by omega
     subst this;exact .inr (zg7.2 (.inl rfl))
    rw[h2.st.zn4 h.ncs hg hB hs,h2.val s hs,qda,zjQ,zkF]
   obtain⟨f',g1,g2⟩:=zvR h n (i+1) _ hi hp (by omega);refine⟨f',g1,?_⟩;rw[decide_eq_true hi,cond_true,zu6 hi,qaa,show(⟨f.D.vars,f.D.zad,f.D.w⟩:S_api_Factor)=f.D from rfl];have e:zcc f.D (zfS (ns.map (·.c)) i (ns.getD i ⟨0,[],[]⟩)).D=some ((ztI f (zfS (ns.map (·.c)) i (ns.getD i zgA))).D,0):=h2.st.zwk h.ncs hg hB;rw[e,qaa];simp only[];rw[show((0:Int)== 0)=true from rfl,cond_true,zam (by omega),g2]
  have:i=ns.length:=by omega
  subst this;exact⟨f,h2,by rw[decide_eq_false (qbO _),cond_false]⟩
theorem zhM:∀(cs:List Nat) (w:Nat),zgc cs w=dig cs w
 | [],_=>rfl
 | c :: cs,w=>by
  unfold zgc dig;rw[zhM cs]
def wld(ns:List NN)(w:Nat):Nat→Nat:=ze4 (List.range ns.length) (dig (ns.map (·.c)) w) fun _=>0
theorem zrk(ns:List NN)(w:Nat):(List.range ns.length).map (wld ns w)=dig (ns.map (·.c)) w:=by
 have hl:(List.range ns.length).length=(dig (ns.map (·.c)) w).length:=by rw[zf8]; simp
 rw[← zvg qcr hl];exact qbD fun u hu=>znh qcr hl hu
theorem zqL(ns:List NN)(w:Nat){u:Nat}(hu:u<ns.length):wld ns w u=(dig (ns.map (·.c)) w).getD u 0:=by
 rw[← zrk ns w,qam,qa5,qcI hu];rfl
theorem zrI{g:Nat}{ns:List NN}(h:RightN g ns){w:Nat}(hw:w<zac (ns.map (·.c))):zzJ (ns.map (·.c)) (wld ns w):=by
 intro v hv;have hv':v<ns.length:=by simpa using hv
 rw[zqL ns w hv',← zhM];have:=zk4 hw v hv;rw[show(ns.map (·.c)).getD v 0=(ns.map (·.c))[v] by rw[qam,qad hv]; rfl];exact this
theorem zBc{g w v:Nat}{ns:List NN}(h:RightN g ns)(hw:w<zac (ns.map (·.c)))(hv:v<ns.length){row:List Nat}{x:Nat}(q2:row[(zgc (ns.map (·.c)) w).getD v 0]? = some x)
  (q3:zel (zc8 g ns) (v:Int) (iL (zgc (ns.map (·.c)) w))=some (iL row)):(zfS (ns.map (·.c)) v (ns.getD v zgA)).val (wld ns w)=x:=by
 have hx:=zhT hv;have hf:=h.fac hx;have hfit:=zrI h hw;obtain⟨k1,k2⟩:=zhU hf fun u hu=>hfit u (hf.flt u hu)
 have hb:zb3 (cd (ns.map (·.c)) (ns.getD v zgA).ps) ((ns.getD v zgA).ps.map (wld ns w)):=zgl (by simp[cd]) (zdx hf.inc) (zrv hf.zaE hf.lt) fun u hu=>by
  rw[zAw hu];exact hfit u (hf.lt u hu)
 have hr:zel (zc8 g ns) (v:Int) (iL ((List.range ns.length).map (wld ns w)))=some (iL ((ns.getD v zgA).rows.getD (zp7 (ns.map (·.c)) (ns.getD v zgA) (wld ns w)) [])):=zwR hx hf (zj2 hb).symm k2;rw[zrk,← zhM,q3]at hr;have e:=zxY (qac hr);rw[k1,← e,zqL ns w hv,← zhM,qam,q2];rfl
theorem zvA{g:Nat}{ns:List NN}(h:RightN g ns):∀(i:Nat) (s:Nat→Nat),i≤ns.length→wtO ns (List.range i) s≤60 ^ i
 | 0,_,_=>by simp[wtO,zac]
 | i+1,s,hi=>by
  rw[qda,zjQ,zkF,qcB];exact qbc (zvA h i s (by omega)) ((h.stc (v:=i) (by omega)).le _)
theorem zvY{g w:Nat}{ns:List NN}{r1:S_net_network×Int}{r4:List Int×Int}(h:RightN g ns)(hw:w<zac (ns.map (·.c)))(h1:r1.1.zad=iL (ns.map (·.c)))(h0:r1.1.net=zc8 g ns)(h4:r4.1=iL (zgc (ns.map (·.c)) w)):
  ∀(n v:Nat),v≤ns.length→ns.length - v<n→zcl r1 r4 n ((wtO ns (List.range v) (wld ns w):Nat):Int) (v:Int)=some ((wtO ns (List.range ns.length) (wld ns w):Nat):Int)
 | 0,_,_,h=>absurd h (qar _)
 | n+1,v,h2,h3=>by
  unfold zcl;have hnl:(zc8 g ns).nodes.length=ns.length:=by simp[zc8]
  have hn:=h.n2;have hcl:(ns.map (·.c)).length=ns.length:=by simp
  have hdl:=zgu (ns.map (·.c)) w;rw[h0,hnl,zaA];by_cases hv:v<ns.length
  ·obtain⟨row,x,q1,q2,q3⟩:=zpx h hw hv;have hxv:=zBc h hw hv q2 q3;have hvm:=qav hv;have hpl:=h.zzK hvm;have hdlt:∀ p,p<ns.length→(zgc (ns.map (·.c)) w).getD p 0<(ns.map (·.c)).getD p 0:=fun p hp=>by
    have:=zk4 hw p (by omega);rw[show(ns.map (·.c)).getD p 0=(ns.map (·.c))[p]'(by omega) by simp[hp]];exact this
   have e:=zlz (x:=nd ns[v]) (r1:=r1) (r4:=r4) h1 h4 rfl (fun p hp=>by rw[hcl]; exact h.lt _ hvm p hp) hdl hpl (fun p hp=>hdlt p (h.lt _ hvm p hp)) (ns[v].ps.length+2) 0 0 (qaz _)
    (by rw[qbb]; have:=h.zxf hvm; omega) (by omega)
   rw[show((0:Nat):Int)=0 from rfl,qbb]at e;obtain⟨i,hi⟩:∃ i,zls 0 (cvs (ns.map (·.c)) (zgc (ns.map (·.c)) w) ns[v].ps)=i:=⟨_,rfl⟩;rw[hi]at q1 e;have hrow:zaZ (ns[v].rows.map iL) (i:Int)=some (iL row):=by
    obtain⟨hil,hir⟩:=qab.1 q1;rw[zbn (by simpa using hil)];simp[hir]
   have hx:zaZ (iL row) (((zgc (ns.map (·.c)) w).getD v 0:Nat):Int)=some (x:Int):=by
    obtain⟨hil,hir⟩:=qab.1 q2;rw[za1 hil,hir]
   have hb:=zvA h (v+1) (wld ns w) hv;have hb2:=zub (i:=v+1) (by omega);have hstep:wtO ns (List.range v) (wld ns w)* x=wtO ns (List.range (v+1)) (wld ns w):=by rw[qda,zjQ,zkF,hxv]
   have ih:=zvY h hw h1 h0 h4 n (v+1) hv (by omega)
   rw[decide_eq_true hv,cond_true,show zaZ (zc8 g ns).nodes (v:Int)=some (nd ns[v])from zcB hv,qaa,show(nd ns[v]).parents.length=ns[v].ps.length by simp[nd,zan],zaL,e,qaa,
     show(nd ns[v]).rows=ns[v].rows.map iL from rfl,hrow,qaa,h4,zrs (by omega),qaa,hx,qaa,← qaG,hstep,zaq (by omega),zam (by omega),ih]
  have:v=ns.length:=by omega
  subst this;rw[decide_eq_false (qbO _),cond_false]
def wtW(ns:List NN)(w:Nat):Nat:=wtO ns (List.range ns.length) (wld ns w)
theorem zt3{g w:Nat}{ns:List NN}(h:RightN g ns)(hw:w<zac (ns.map (·.c))):zdz (zc8 g ns) (w:Int)=some (((wtW ns w:Nat):Int),0):=by
 obtain⟨os,_,_,e⟩:=zh2 h;have hnl:(zc8 g ns).nodes.length=ns.length:=by simp[zc8]
 have e1:=zvY (r1:=(⟨zc8 g ns,iL (ns.map (·.c)),iL (zbf ns),iL os⟩,0)) (r4:=(iL (zgc (ns.map (·.c)) w),0)) h hw rfl rfl rfl (ns.length+2) 0 (qaz _) (by omega);rw[show((0:Nat):Int)=0 from rfl,show((wtO ns (List.range 0) (wld ns w):Nat):Int)=1 from rfl]at e1;unfold zdz;rw[e,qaa];simp only[];rw[show((0:Int)== 0)=true from rfl,cond_true,zsb h.cs hw,qaa];simp only[];rw[show((0:Int)== 0)=true from rfl,cond_true,hnl,zaL,e1,qaa];rfl
theorem zsq{g:Nat}{ns:List NN}(h:RightN g ns):zdv (zc8 g ns)=some (((zac (ns.map (·.c)):Nat):Int),0):=by
 obtain⟨os,_,_,e⟩:=zh2 h;unfold zdv;rw[e,qaa];simp only[];have hn:=h.ncs;have hcd:cd (ns.map (·.c)) (List.range (ns.map (·.c)).length)=ns.map (·.c):=zhQ _;have hv:=hn.vars (vs:=List.range (ns.map (·.c)).length) qcu fun v hv=>qbl.1 hv
 rw[hcd]at hv;rw[show((0:Int)== 0)=true from rfl,cond_true,zrC,hv.2.2.2,cond_true,zen,qaa]
theorem zzb{g:Nat}{ns:List NN}{r1:S_net_network×Int}(h0:r1.1.net=zc8 g ns)(hg:g≤60)(hn:ns.length≤8):∀(n i:Nat),i≤ns.length→ns.length - i<n→zcM r1 n ((g ^ i:Nat):Int) (i:Int)=some ((g ^ ns.length:Nat):Int)
 | 0,_,_,h=>absurd h (qar _)
 | n+1,i,h1,h2=>by
  have hnl:(zc8 g ns).nodes.length=ns.length:=by simp[zc8]
  unfold zcM;rw[h0,hnl,zaA];by_cases hi:i<ns.length
  ·have hb:g ^ (i+1)≤60 ^ (i+1):=Nat.pow_le_pow_left hg _;have hb2:=zub (i:=i+1) (by omega);have hm:g ^ i * g=g ^ (i+1):=rfl;rw[decide_eq_true hi,cond_true,show(zc8 g ns).grain=(g:Int)from rfl,← qaG,hm,zaq (by omega),zam (by omega),zzb h0 hg hn n (i+1) hi (by omega)]
  have:i=ns.length:=by omega
  subst this;rw[decide_eq_false (qbO _),cond_false]
theorem zt2{g:Nat}{ns:List NN}(h:RightN g ns):zdV (zc8 g ns)=some (((g ^ ns.length:Nat):Int),0):=by
 obtain⟨os,_,_,e⟩:=zh2 h;have hnl:(zc8 g ns).nodes.length=ns.length:=by simp[zc8]
 have e1:=zzb (r1:=(⟨zc8 g ns,iL (ns.map (·.c)),iL (zbf ns),iL os⟩,0)) rfl h.g2 h.n2 (ns.length+2) 0 (qaz _) (by omega);rw[show((0:Nat):Int)=0 from rfl,show((g ^ 0:Nat):Int)=1 by rw[Nat.pow_zero]; rfl]at e1;unfold zdV;rw[e,qaa];simp only[];rw[show((0:Int)== 0)=true from rfl,cond_true,hnl,zaL,e1,qaa]
theorem Prf.get{g:Nat}{ns:List NN}(h:RightN g ns){f:Fc}(hf:Prf ns ns.length f):f.ws.length=zac (ns.map (·.c))∧∀ w,w<zac (ns.map (·.c))→zaZ (iL f.ws) (w:Int)=some ((wtW ns w:Nat):Int):=by
 have hvs:f.vs=List.range ns.length:=zh3 hf.st.ok.inc qcu fun v=>by
  rw[qbl];exact⟨fun hv=>by simpa using hf.st.var v hv,hf.mem v⟩
 have hcs:f.cs=ns.map (·.c):=by
  rw[hf.st.cs_,hvs];have:=zhQ (ns.map (·.c));rw[qaB]at this;exact this
 have hsz:=hf.st.ok.size;rw[hcs]at hsz;refine⟨hsz,fun w hw=>?_⟩;have e:=zrO hf.st.ok (i:=w) (by rw[hcs]; exact hw);have e2:f.val (at_ f.vs (dig f.cs w))=f.val (wld ns w):=by
  refine val_congr fun u hu=>?_
  rw[hvs,hcs];rw[hvs]at hu;exact(znh qcr (by rw[zf8]; simp) hu).symm
 rw[e2,hf.val _ (zrI h hw)]at e;rw[zeG (by rw[hsz]; exact hw)];congr 2
 exact e.symm
theorem zvS{g:Nat}{ns:List NN}(h:RightN g ns){f:Fc}(hf:Prf ns ns.length f){e0:Int}:∀(n i:Nat),i≤zac (ns.map (·.c))→zac (ns.map (·.c)) - i<n →
  zbi (((zac (ns.map (·.c)):Nat):Int),e0) (zc8 g ns) (iL f.ws) n ((zdc i (wtW ns):Nat):Int) (i:Int)=some (.go ((g ^ ns.length:Nat):Int))
 | 0,_,_,h=>absurd h (qar _)
 | n+1,i,h1,h2=>by
  obtain⟨k1,k2⟩:=hf.get h;have hall:zdc (zac (ns.map (·.c))) (wtW ns)=g ^ ns.length:=zw2 h fun _=>0
  have hp:=h.prod;unfold zbi;simp only[];rw[zaA];by_cases hi:i<zac (ns.map (·.c))
  ·have hb:zdc (i+1) (wtW ns)≤g ^ ns.length:=by rw[← hall]; exact zwP hi
   have hb2:g ^ ns.length≤60 ^ ns.length:=Nat.pow_le_pow_left h.g2 _;have hb3:=zub (i:=ns.length) h.n2;have hs:zdc i (wtW ns)+wtW ns i=zdc (i+1) (wtW ns):=rfl;rw[decide_eq_true hi,cond_true,zt3 h hi,qaa];simp only[];rw[show((0:Int)== 0)=true from rfl,cond_true,decide_eq_false (by omega),cond_false,zan,k1,decide_eq_false (by omega),cond_false,k2 i hi,qaa,beq_self_eq_true,qa7,qaa,cond_false,← qbq,hs,zaq (by omega),zam (by omega),zvS h hf n (i+1) hi (by omega)]
  have:i=zac (ns.map (·.c)):=by omega
  subst this;rw[decide_eq_false (qbO _),cond_false,hall]
theorem zl6{dr:DraftN}(hd:DraftOk dr):zc2 5000 (zcY dr)=some true:=by
 obtain⟨num,ns,h0,_,e⟩:=zuy hd (N:=5000) (by decide);have h:=h0.right;generalize 1+dr.grain % 60=g at e h;rw[show(⟨(g:Int),ns.map nd⟩:S_api_Net)=zc8 g ns from rfl]at e;have hnl:(zc8 g ns).nodes.length=ns.length:=by simp[zc8]
 have hp1:1≤zac (ns.map (·.c)):=zcd fun c hc=>(h.cs.zaE c hc).1
 have hp2:=h.prod;have hz:Prf ns 0 ztJ:=⟨by rw[Nat.pow_zero]; exact zwK _,fun v hv=>by omega,fun s _=>by rw[zxG]; rfl⟩;obtain⟨f,k1,k2⟩:=zvR h (ns.length+2) 0 ztJ (qaz _) hz (by omega);obtain⟨k3,k4⟩:=k1.get h;have k5:=zvS h k1 (e0:=0) (zac (ns.map (·.c))+2) 0 (qaz _) (by omega);rw[show((0:Nat):Int)=0 from rfl]at k2 k5;have hg:0<g ^ ns.length:=Nat.pow_pos h.g1;have k2':zbk (zvT ns,0) (ns.length+2) 0 [] [] [1]=_:=k2;have k5':zbi (((zac (ns.map (·.c)):Nat):Int),0) (zc8 g ns) (iL f.ws) (zac (ns.map (·.c))+2) 0 0=_:=k5;unfold zc2 znt;rw[qaa,cond_true,e,qaa,zsq h,qaa,zt2 h,qaa,zpI h,qaa];simp only[];rw[show((0:Int)== 0)=true from rfl,cond_true,cond_true,cond_true,decide_eq_false (by omega),cond_false,decide_eq_false (by omega),cond_false,zjW,hnl,beq_self_eq_true,qa7,qaa,cond_false,show zd0=some ⟨[],[],[1]⟩from rfl,qaa];simp only[];rw[zaL,k2',qaa];simp only[];rw[show f.D.w=iL f.ws from rfl,zaL,k5',qaa];simp only[];rw[zan,k3,beq_self_eq_true,cond_true,beq_self_eq_true,cond_true,qaa,decide_eq_true (by omega)]
end Go.Dc
