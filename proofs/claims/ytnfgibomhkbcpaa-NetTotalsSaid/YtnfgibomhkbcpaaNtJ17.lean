/-
 Plain laws: the values of a world. Conditions: none.
-/
import Derived.Test.YtnfgibomhkbcpaaNtJ16
set_option linter.unusedSimpArgs false
set_option linter.unusedVariables false
namespace Go.Dc
open Go Go.Mx Go.Lx
def zgc:List Nat→Nat→List Nat
 | [],_=>[]
 | c :: cs,w=>(w / zac cs):: zgc cs (w % zac cs)
theorem zgu:∀(cs:List Nat) (w:Nat),(zgc cs w).length=cs.length
 | [],_=>rfl
 | c :: cs,w=>by simp[zgc,zgu cs]
theorem zhi(c:Nat)(cs:List Nat):zac (c :: cs)=c * zac cs:=rfl
theorem zk4:∀ {cs:List Nat} {w:Nat},w<zac cs→∀(i:Nat) (h:i<cs.length),(zgc cs w).getD i 0<cs[i]
 | [],_,_,i,h=>absurd h (qar _)
 | c :: cs,w,hw,i,h=>by
  rw[zhi]at hw;have hp:0<zac cs:=Nat.pos_of_ne_zero fun h0=>by rw[h0,Nat.mul_zero]at hw; omega
  cases i with
  | zero=>
   show w / zac cs<c;exact(qc1 hp).2 hw
  | succ i=>
   show(zgc cs (w % zac cs)).getD i 0<cs[i]'(by simpa using h);exact zk4 (qbw _ hp) i (by simpa using h)
def plc:Nat→List Nat→List (Int×Int)
 | _,[]=>[]
 | p,v :: vs=>((p:Int),(v:Int)):: plc (p+1) vs
theorem znB{a b:Nat}(hb:0<b)(ha:a<9223372036854775808):zo2 .i64 (a:Int) (b:Int)=some ((a / b:Nat):Int):=by
 unfold zo2;rw[show((b:Int)== 0)=false by rw[beq_eq_false_iff_ne]; omega,cond_false,show((a:Int).tdiv (b:Int))=((a / b:Nat):Int)from rfl];congr 1
 have:a / b≤a:=qc8 a b;exact zaq (by omega)
theorem zti:∀ {cs:List Nat} {w p:Nat},(∀ c∈cs,1≤c)→w<zac cs→zac cs≤65536→ztG (iL cs) ((zac cs:Nat):Int) (w:Int) p=some (plc p (zgc cs w))
 | [],_,_,_,_,_=>rfl
 | c :: cs,w,p,hc,hw,hb=>by
  rw[zhi]at hw hb;have hc1:=hc c qan;have hp:1≤zac cs:=zcd fun x hx=>hc x (qaj _ hx)
  have hle:zac cs≤c * zac cs:=qb6 _ hc1;have e:c * zac cs / c=zac cs:=Nat.mul_div_cancel_left _ hc1;show ztG ((c:Int):: iL cs) ((c * zac cs:Nat):Int) (w:Int) p=_;unfold ztG;rw[znB hc1 (by omega),qaa,e,znB hp (by omega),qaa,zkn hp,qaa,zti (fun x hx=>hc x (qaj _ hx)) (qbw _ hp) (by omega)];rfl
theorem zm0{n:Nat}:∀(vs pre:List Nat),pre.length+vs.length≤1000→zay n (plc pre.length vs) (iL (pre ++ List.replicate vs.length 0))=some (iL (pre ++ vs))
 | [],pre,_=>by simp[plc,zay]
 | v :: vs,pre,h=>by
  have ih:=zm0 (n:=n) vs (pre ++ [v]) (by simp at h ⊢; omega);rw[show(pre ++ [v]).length=pre.length+1 by simp,show pre ++ [v]++ List.replicate vs.length 0=pre ++ v :: List.replicate vs.length 0 by simp,show pre ++ [v]++ vs=pre ++ v :: vs by simp]at ih;show zay n (((pre.length:Int),(v:Int)):: plc (pre.length+1) vs) _=_;unfold zay;rw[qaE,qaV,zc0,qaa,zgt,qaa,ih]
structure CsOk (cs:List Nat):Prop where
 len:cs.length≤8
 zaE:∀ c∈cs,1≤c∧c≤4
 prod:zac cs≤1024
theorem zri{cs:List Nat}(h:CsOk cs):∀(n:Nat) (xs ys:List Nat),xs ++ ys=cs→ys.length<n→zbd (iL cs) n ((zac xs:Nat):Int) (xs.length:Int)=some (((zac cs:Nat):Int),true)
 | 0,_,_,_,h=>absurd h (qar _)
 | n+1,xs,[],h1,h3=>by
  rw[qaT]at h1;subst h1;unfold zbd;rw[zan,zaA,decide_eq_false (by omega),cond_false]
 | n+1,xs,y :: ys,h1,h3=>by
  have hl:=h.len;have hxn:xs.length<cs.length:=by rw[← h1]; simp
  have hy:cs[xs.length]=y:=by simp[← h1]
  have hyc:=h.zaE y (by rw[← h1]; simp)
  have hb:zac (xs ++ [y])≤65536:=zxw (fun c hc=>h.zaE c (by
   rw[← h1];rcases qbB.1 hc with hc | hc
   ·exact qbP _ hc
   rw[qa3.1 hc]; simp)) (by rw[← h1]at hl; simp at hl ⊢; omega)
  have hb2:zac (xs ++ [y])≤zac cs:=by
   have:∀(ys:List Nat),(∀ c∈ys,1≤c)→∀ xs,zac xs≤zac (xs ++ ys):=by
    intro ys;induction ys with
    | nil=>intro _ xs; simp
    | cons z zs ih=>
     intro hz xs;have h6:=ih (fun c hc=>hz c (qaj _ hc)) (xs ++ [z]);rw[zfE]at h6;have h7:=hz z qan;have h8:zac xs≤zac xs * z:=qaS _ h7;rw[show xs ++ [z]++ zs=xs ++ z :: zs by simp]at h6;omega
   have:=this ys (fun c hc=>(h.zaE c (by rw[← h1]; simp[hc])).1) (xs ++ [y]);rw[show xs ++ [y]++ ys=cs by rw[← h1]; simp]at this;exact this
  have hp:=h.prod;have ih:=zri h n (xs ++ [y]) ys (by rw[← h1]; simp) (by simp at h3; omega);rw[show(xs ++ [y]).length=xs.length+1 by simp,zfE]at ih;rw[zfE]at hb hb2;unfold zbd
  rw[zan,zaA,decide_eq_true hxn,cond_true,za1 hxn,hy,qaa,show decide ((y:Int)<1)=false from decide_eq_false (by omega),cond_false,show decide ((8:Int)<(y:Int))=false from decide_eq_false (by omega),cond_false,
   ← qaG,zaq (by omega),show decide ((4096:Int)<((zac xs * y:Nat):Int))=false from decide_eq_false (by omega),qaa,cond_false,zam (by omega),ih]
theorem zua{cs:List Nat}(h:CsOk cs):zbY (iL cs)=some (((zac cs:Nat):Int),true):=by
 have hl:=h.len;have e:=zri h (cs.length+2) [] cs rfl (by omega);rw[qaR,show((0:Nat):Int)=0 from rfl,show((zac []:Nat):Int)=1 from rfl]at e;unfold zbY;rw[zan,show decide ((12:Int)<((cs.length:Nat):Int))=false from decide_eq_false (by omega),cond_false,zaL,e,qaa]
theorem zsb{cs:List Nat}(h:CsOk cs){w:Nat}(hw:w<zac cs):zcA (iL cs) (w:Int)=some (iL (zgc cs w),0):=by
 have hl:=h.len;have hp:=h.prod;have e:=zm0 (n:=cs.length) (zgc cs w) [] (by rw[zgu]; simp; omega);rw[qa8,qa8,qaR,zgu]at e;have hz:List.replicate cs.length (0:Int)=iL (List.replicate cs.length 0):=by simp[iL]
 unfold zcA;rw[zua h,qaa];simp only[];rw[cond_true,show decide ((w:Int)<0)=false from decide_eq_false (by omega),cond_false,show decide (((zac cs:Nat):Int)≤(w:Int))=false from decide_eq_false (by omega),qaa,cond_false];unfold zef;rw[qaa];unfold zbW;rw[zan,zdB (by omega),qaa];unfold zw7;have hs:zd3 (iL cs)=some ():=by
  unfold zd3;rw[if_pos (by rw[zan]; omega)]
 simp only[];rw[hs,qaa,zti (fun c hc=>(h.zaE c hc).1) hw (by omega),qaa,hz,e,qaa,qaa]
def zls:Nat→List (Nat×Nat)→Nat
 | a,[]=>a
 | a,(c,v):: r=>zls (a * c+v) r
theorem zmQ:∀(l:List (Nat×Nat)) (a c v:Nat),zls a (l ++ [(c,v)])=zls a l * c+v
 | [],_,_,_=>rfl
 |(d,u):: l,a,c,v=>zmQ l (a * d+u) c v
theorem znX:∀(l:List (Nat×Nat)) (a:Nat),(∀ x∈l,x.2<x.1)→zls a l<(a+1)* zac (l.map (·.1))∧a≤zls a l
 | [],a,_=>by simp[zls,zac]
 |(c,v):: l,a,h=>by
  have h1:v<c:=h (c,v) qan;obtain⟨g1,g2⟩:=znX l (a * c+v) fun x hx=>h x (qaj _ hx)
  have h2:a * c+v+1≤(a+1)* c:=by rw[qaI]; omega
  constructor
  ·refine qbr g1 ?_;rw[qaJ,zhi,← qaZ];exact qas _ h2
  have:a≤a * c:=qaS _ (by omega);exact qap (by omega) g2
def cvs(cs ds ps:List Nat):List (Nat×Nat):=ps.map fun p=>(cs.getD p 0,ds.getD p 0)
theorem zxm:∀(xs:List (Nat×Nat)) (n a u:Nat) (ys zs:List Nat),(∀ x∈xs,x.2<x.1)→zls 0 xs * u+a<9223372036854775808→zac (xs.map (·.1))* u≤65536→xs.length≤1000→xs.length<n →
  zbQ (iL (xs.map (·.2)++ ys)) (iL (xs.map (·.1)++ zs)) n (a:Int) (u:Int) ((xs.length:Int) - 1)=some ((zls 0 xs * u+a:Nat):Int):=by
 intro xs;induction h:xs.length generalizing xs with
 | zero=>
  intro n a u ys zs _ _ _ _ hn;have:xs=[]:=qau h;subst this;cases n with
  | zero=>exact absurd hn (qar _)
  | succ n=>
   unfold zbQ;rw[show decide ((0:Int)≤((0:Nat):Int) - 1)=false by decide,cond_false];simp[zls]
 | succ m ih=>
  intro n a u ys zs hc hb hu hl hn;obtain⟨ws,⟨c,v⟩,rfl⟩:∃ ws c,xs=ws ++ [c]:=by
   rcases List.eq_nil_or_concat xs with h0 | ⟨ws,c,h0⟩
   ·rw[h0]at h; cases h
   exact⟨ws,c,by rw[h0,List.concat_eq_append]⟩
  have hwl:ws.length=m:=by simpa using h
  have hcv:v<c:=hc (c,v) (by simp);have e0:zls 0 (ws ++ [(c,v)])* u+a=zls 0 ws * (u * c)+(a+v * u):=by
   rw[zmQ,qaI,qaZ,qaQ c u]; omega
  rw[e0]at hb ⊢;have hu2:zac (ws.map (·.1))* (u * c)≤65536:=by
   have:zac ((ws ++ [(c,v)]).map (·.1))* u=zac (ws.map (·.1))* (u * c):=by
    rw[qbC,qaJ,qcW,zfE,qaZ,qaQ c u]
   omega
  have hpos:1≤zac (ws.map (·.1)):=zcd fun x hx=>by
   obtain⟨y,hy,rfl⟩:=qaF.1 hx;have:=hc y (qbP _ hy);omega
  have huc:u * c≤65536:=qap (qb6 _ hpos) hu2;have hvu:v * u≤u * c:=by rw[qaQ]; exact Nat.mul_le_mul_left _ (by omega)
  cases n with
  | zero=>exact absurd hn (qar _)
  | succ n=>
   have e:=ih ws hwl n (a+v * u) (u * c) (v :: ys) (c :: zs) (fun x hx=>hc x (qbP _ hx)) hb hu2 (by omega) (by omega);have hm:((m+1:Nat):Int) - 1=((ws.length:Nat):Int):=by omega
   have g1:zaZ (iL (ws.map (·.2)++ v :: ys)) ((ws.length:Nat):Int)=some (v:Int):=by
    rw[show((ws.length:Nat):Int)=(((ws.map (·.2)).length:Nat):Int) by simp]; exact zc0
   have g2:zaZ (iL (ws.map (·.1)++ c :: zs)) ((ws.length:Nat):Int)=some (c:Int):=by
    rw[show((ws.length:Nat):Int)=(((ws.map (·.1)).length:Nat):Int) by simp]; exact zc0
   unfold zbQ
   rw[hm,show decide ((0:Int)≤((ws.length:Nat):Int))=true from decide_eq_true (by omega),cond_true,
    show(ws ++ [(c,v)]).map (·.2)++ ys=ws.map (·.2)++ v :: ys by simp,show(ws ++ [(c,v)]).map (·.1)++ zs=ws.map (·.1)++ c :: zs by simp,g1,qaa,g2,qaa,
    ← qaG,← qaG,zaq (by omega),← qbq,zaq (by omega),zaq (by omega),show w64 (((ws.length:Nat):Int) - 1)=(m:Int) - 1 by rw[zhr (by omega) (by omega)]; omega,e]
theorem zuY{xs:List (Nat×Nat)}(h:∀ x∈xs,x.2<x.1)(hb:zac (xs.map (·.1))≤65536)(hl:xs.length≤1000):zdO (iL (xs.map (·.1))) (iL (xs.map (·.2)))=some ((zls 0 xs:Nat):Int):=by
 obtain⟨g1,_⟩:=znX xs 0 h;rw[qaM,qbf]at g1;have e:=zxm xs (((xs.length:Int) - 1) - 0+2).toNat 0 1 [] [] h (by omega) (by omega) hl (by omega);rw[qaT,qaT,qcT,qbm,show((0:Nat):Int)=0 from rfl,show((1:Nat):Int)=1 from rfl]at e;unfold zdO;rw[zan,qaB,zhr (by omega) (by omega),e,qaa]
theorem zlz{x:S_api_Node}{r1:S_net_network×Int}{r4:List Int×Int}{cs ds ps:List Nat}(h1:r1.1.zad=iL cs)(h4:r4.1=iL ds)(hx:x.parents=iL ps)(hp:∀ p∈ps,p<cs.length)(hd:ds.length=cs.length)(hl:ps.length≤8)
  (hlt:∀ p∈ps,ds.getD p 0<cs.getD p 0):∀(n i a:Nat),i≤ps.length→(a+1)* zac ((ps.drop i).map fun p=>cs.getD p 0)≤65536→ps.length - i<n →
  zco x r1 r4 n (a:Int) (i:Int)=some ((zls a (cvs cs ds (ps.drop i)):Nat):Int)
 | 0,_,_,_,_,h=>absurd h (qar _)
 | n+1,i,a,h2,h5,h3=>by
  unfold zco;rw[hx,zan,zaA];by_cases hi:i<ps.length
  ·have hdr:ps.drop i=ps[i]:: ps.drop (i+1):=qat hi;have hpi:=qav hi;have h6:=hp _ hpi;have h7:=hlt _ hpi;have h5':(a+1)* (cs.getD ps[i] 0 * zac ((ps.drop (i+1)).map fun p=>cs.getD p 0))≤65536:=by rw[hdr]at h5; exact h5
   rw[← qaZ]at h5';have hq:1≤zac ((ps.drop (i+1)).map fun p=>cs.getD p 0):=zcd fun c hc=>by
    obtain⟨p,hpm,rfl⟩:=qaF.1 hc;have:=hlt p (qbY hpm);omega
   have hac:(a+1)* cs.getD ps[i] 0≤65536:=qap (qaS _ hq) h5';have hac2:a * cs.getD ps[i] 0+ds.getD ps[i] 0+1≤(a+1)* cs.getD ps[i] 0:=by rw[qaI]; omega
   have ih:=zlz h1 h4 hx hp hd hl hlt n (i+1) (a * cs.getD ps[i] 0+ds.getD ps[i] 0) hi (qap (qas _ hac2) h5') (by omega);rw[decide_eq_true hi,cond_true,za1 hi,qaa,h1,zrs h6,qaa,h4,zrs (by omega),qaa,← qaG,zaq (by omega),← qbq,zaq (by omega),zam (by omega),ih,hdr];rfl
  rw[decide_eq_false hi,cond_false,qa6 (by omega)];rfl
theorem RightN.cs{g:Nat}{ns:List NN}(h:RightN g ns):CsOk (ns.map (·.c)):=by
 refine⟨by have:=h.n2; simpa using this,fun c hc=>?_,h.prod⟩;obtain⟨x,hx,rfl⟩:=qaF.1 hc;exact h.zaE x hx
theorem zpx{g w v:Nat}{ns:List NN}(h:RightN g ns)(hw:w<zac (ns.map (·.c)))(hv:v<ns.length):
  ∃(row:List Nat) (x:Nat),ns[v].rows[zls 0 (cvs (ns.map (·.c)) (zgc (ns.map (·.c)) w) ns[v].ps)]? = some row∧row[(zgc (ns.map (·.c)) w).getD v 0]? = some x ∧
   zel (zc8 g ns) (v:Int) (iL (zgc (ns.map (·.c)) w))=some (iL row):=by
 have hvm:=qav hv;have hcs:=h.cs;have hcl:(ns.map (·.c)).length=ns.length:=by simp
 have hdl:=zgu (ns.map (·.c)) w;have hn:=h.n2;have hdlt:∀ p,p<ns.length→(zgc (ns.map (·.c)) w).getD p 0<(ns.map (·.c)).getD p 0:=fun p hp=>by
  have:=zk4 hw p (by omega);rw[show(ns.map (·.c)).getD p 0=(ns.map (·.c))[p]'(by omega) by simp[hp]];exact this
 have hcv:∀ x∈cvs (ns.map (·.c)) (zgc (ns.map (·.c)) w) ns[v].ps,x.2<x.1:=fun x hx=>by
  obtain⟨p,hp,rfl⟩:=qaF.1 hx;exact hdlt p (h.lt _ hvm p hp)
 have h1:(cvs (ns.map (·.c)) (zgc (ns.map (·.c)) w) ns[v].ps).map (·.1)=ns[v].ps.map fun p=>(ns.map (·.c)).getD p 0:=by simp[cvs,qch]
 have h2:(cvs (ns.map (·.c)) (zgc (ns.map (·.c)) w) ns[v].ps).map (·.2)=ns[v].ps.map fun p=>(zgc (ns.map (·.c)) w).getD p 0:=by simp[cvs,qch]
 have hlt:=(znX _ 0 hcv).1;rw[qaM,qbf,h1]at hlt;have hrows:=h.rows _ hvm;have hil:zls 0 (cvs (ns.map (·.c)) (zgc (ns.map (·.c)) w) ns[v].ps)<ns[v].rows.length:=by rw[hrows.len]; exact hlt
 have hrow:=hrows.row _ (qav hil);have hxl:(zgc (ns.map (·.c)) w).getD v 0<ns[v].rows[zls 0 (cvs (ns.map (·.c)) (zgc (ns.map (·.c)) w) ns[v].ps)].length:=by
  rw[hrow.1];have:=hdlt v hv;simpa [hv]using this
 refine⟨_,_,qad hil,qad hxl,?_⟩;have hpl:=h.zzK hvm;have hix:=zuY hcv (by rw[h1]; exact h.zxf hvm) (by simp[cvs]; omega);rw[h1,h2]at hix;have hpd:Pl (iL (zgc (ns.map (·.c)) w)).length ns[v].ps:=fun p hp=>by rw[zan,hdl,hcl]; exact h.lt _ hvm p hp
 have hat:=zwy hpd hpl;have hat2:(ns[v].ps.map fun p=>(iL (zgc (ns.map (·.c)) w)).getD p 0)=iL (ns[v].ps.map fun p=>(zgc (ns.map (·.c)) w).getD p 0):=by
  simp only[zsl];simp only[iL,qcX,qch]
 rw[hat2]at hat;unfold zel;rw[show zc8 g ns=⟨(g:Int),ns.map nd⟩from rfl];simp only[];rw[zcB hv,qaa,zwY hn hv (fun p hp=>h.lt _ hvm p hp) hpl,qaa,show(nd ns[v]).parents=iL ns[v].ps from rfl,hat,qaa];unfold zdg;rw[hix,qaa,show(nd ns[v]).rows=ns[v].rows.map iL from rfl,zbn (by simpa using hil),qaa];simp
def lo(ps:List Nat)(v:Nat):List Nat:=ps.filter fun p=>decide (p<v)
def hi(ps:List Nat)(v:Nat):List Nat:=ps.filter fun p=>decide (v<p)
def fam(ps:List Nat)(v:Nat):List Nat:=lo ps v ++ v :: hi ps v
theorem zuO{ps:List Nat}{v x:Nat}(h:x∈lo ps v):x<v:=of_decide_eq_true (qbE.1 h).2
theorem zu8{ps:List Nat}{v x:Nat}(h:x∈hi ps v):v<x:=of_decide_eq_true (qbE.1 h).2
theorem zq3{ps:List Nat}{v:Nat}(h:ps.Pairwise (· < ·))(hv:v ∉ ps):lo ps v ++ hi ps v=ps:=by
 refine zh3 (qcD.2 ⟨qbJ _ h,qbJ _ h,fun a ha b hb=>Nat.lt_trans (zuO ha) (zu8 hb)⟩) h fun x=>?_
 unfold lo hi;simp only[qbB,qbE,decide_eq_true_eq];constructor
 ·rintro(⟨h1,_⟩| ⟨h1,_⟩)<;> exact h1
 intro hx;rcases Nat.lt_trichotomy x v with h1 | h1 | h1
 ·exact .inl ⟨hx,h1⟩
 ·exact absurd (h1 ▸ hx) hv
 exact .inr ⟨hx,h1⟩
theorem zki{ps:List Nat}{v:Nat}(h:ps.Pairwise (· < ·)):(fam ps v).Pairwise (· < ·):=by
 refine qcD.2 ⟨qbJ _ h,qbg.2 ⟨fun a ha=>zu8 ha,qbJ _ h⟩,fun a ha b hb=>?_⟩;rcases qaK.1 hb with rfl | hb
 ·exact zuO ha
 exact Nat.lt_trans (zuO ha) (zu8 hb)
theorem zg7{ps:List Nat}{v u:Nat}:u∈fam ps v↔u=v∨u∈ps:=by
 unfold fam lo hi;simp only[qbB,qaK,qbE,decide_eq_true_eq];constructor
 ·rintro(⟨h1,_⟩| h1 | ⟨h1,_⟩)
  ·exact .inr h1
  ·exact .inl h1
  exact .inr h1
 rintro(h1 | h1)
 ·exact .inr (.inl h1)
 rcases Nat.lt_trichotomy u v with h2 | h2 | h2
 ·exact .inl ⟨h1,h2⟩
 ·exact .inr (.inl h2)
 exact .inr (.inr ⟨h1,h2⟩)
theorem zzk(x y:Int):zcw x y=some (decide (x<y)):=by
 unfold zcw;rw[show zch x=some false from rfl,qaa,cond_false,qaa]
theorem zz1{xs:List Nat}{v k:Nat}(hl:xs.length≤1000)(h1:∀ i (h:i<xs.length),i<k→xs[i]<v)(h2:∀ i (h:i<xs.length),k≤i→v≤xs[i]):∀(n i j:Nat),i≤k→k≤j→j≤xs.length→j - i<n →
  zas (iL xs) (v:Int) n (i:Int) (j:Int)=some (k:Int)
 | 0,_,_,_,_,_,h=>absurd h (qar _)
 | n+1,i,j,a,b,c,d=>by
  unfold zas;rw[zaA];by_cases hij:i<j
  ·have hm:(i+j) / 2<j:=by omega
   have hm2:i≤(i+j) / 2:=by omega
   have hx:(i+j) / 2<xs.length:=by omega
   rw[decide_eq_true hij,cond_true,show((i:Int)+(j:Int))=((i+j:Nat):Int) by omega,zaq (by omega),zb1 (by omega),show((1:Int))=((1:Nat):Int)from rfl,zAn (by omega),qaa,qbx,Nat.pow_one,zaq (by omega),za1 hx,qaa,zzk,qaa,zaA];by_cases hc:xs[(i+j) / 2]<v
   ·rw[decide_eq_true hc,cond_true,show((1:Nat):Int)=1 from rfl,zam (by omega)];refine zz1 hl h1 h2 n _ j ?_ b c (by omega);rcases qa2 ((i+j) / 2) k with g | g
    ·exact g
    exact absurd (h2 _ hx g) (by omega)
   rw[decide_eq_false hc,cond_false];refine zz1 hl h1 h2 n i _ a ?_ (by omega) (by omega);rcases qa2 ((i+j) / 2) k with g | g
   ·exact absurd (h1 _ hx g) hc
   exact g
  rw[decide_eq_false hij,cond_false,show i=k by omega]
theorem zBA{ps:List Nat}{v:Nat}(h:ps.Pairwise (· < ·))(hv:v ∉ ps)(hl:ps.length≤1000):∃ b,zaF (iL ps) (v:Int)=some ((((lo ps v).length:Nat):Int),b):=by
 have e:=zq3 h hv;have hlen:(lo ps v).length≤ps.length:=List.length_filter_le _ _;have g1:∀ i (h:i<ps.length),i<(lo ps v).length→ps[i]<v:=by
  intro i hi1 hi2;have:ps[i]=(lo ps v)[i]:=by
   have e2:ps[i]=(lo ps v ++ hi ps v)[i]'(by rw[e]; exact hi1):=by congr 1; exact e.symm
   rw[e2,List.getElem_append_left hi2]
  rw[this];exact zuO (qav hi2)
 have g2:∀ i (h:i<ps.length),(lo ps v).length≤i→v≤ps[i]:=by
  intro i hi1 hi2;have hi3:i<(lo ps v ++ hi ps v).length:=by rw[e]; exact hi1
  have:ps[i]=(hi ps v)[i - (lo ps v).length]'(by rw[qaA]at hi3; omega):=by
   have e2:ps[i]=(lo ps v ++ hi ps v)[i]'hi3:=by congr 1; exact e.symm
   rw[e2,List.getElem_append_right hi2]
  rw[this];exact Nat.le_of_lt (zu8 (qav _))
 have k:=zz1 hl g1 g2 (ps.length+2) 0 ps.length (qaz _) hlen (qal _) (by omega);rw[show((0:Nat):Int)=0 from rfl]at k;unfold zaF;rw[zan,zaL,k,qaa,zaA];by_cases c:(lo ps v).length<ps.length
 ·rw[decide_eq_true c,cond_true,za1 c,qaa,show zbF ((ps[(lo ps v).length]:Nat):Int)=some false from rfl,qaa,cond_false];cases hb:(((ps[(lo ps v).length]:Nat):Int)==(v:Int))with
  | true=>exact⟨true,by rw[cond_true,qaa]⟩
  | false=>exact⟨false,by rw[cond_false,qaa]⟩
 rw[decide_eq_false c,cond_false,qaa];exact⟨false,rfl⟩
theorem zAC{ps:List Nat}{v:Nat}(h:ps.Pairwise (· < ·))(hv:v ∉ ps)(hl:ps.length≤1000):zwj 8 (iL ps) (((lo ps v).length:Nat):Int) [(v:Int)]=some (iL (fam ps v)):=by
 have e:=zq3 h hv;have hlen:(lo ps v).length≤ps.length:=List.length_filter_le _ _;unfold zwj;have hm:70368744177664≤zai:=by decide
 rw[if_pos ⟨⟨by omega,by rw[zan]; omega⟩,by simp,by rw[zan]; simp only[qaE,qaR]; omega⟩,qaH];have ep:iL ps=iL (lo ps v)++ iL (hi ps v):=by rw[← zrG,e]
 have t1:(iL ps).take (lo ps v).length=iL (lo ps v):=by
  rw[ep,qcm (by rw[zan]; exact qal _),qaN (by rw[zan]; exact qal _)]
 have t2:(iL ps).drop (lo ps v).length=iL (hi ps v):=by
  rw[ep,List.drop_append_of_le_length (by rw[zan]; exact qal _),qct (by rw[zan]; exact qal _),qa8]
 rw[t1,t2];unfold fam;rw[zrG,show iL (v :: hi ps v)=(v:Int):: iL (hi ps v)from rfl,qba];rfl
def cd(cs us:List Nat):List Nat:=us.map fun p=>cs.getD p 0
structure FacOk (cs:List Nat) (v:Nat) (x:NN):Prop where
 inc:x.ps.Pairwise (· < ·)
 nv:v ∉ x.ps
 lt:∀ p∈x.ps,p<cs.length
 hv:v<cs.length
 cv:cs.getD v 0=x.c
 len:x.rows.length=zac (cd cs x.ps)
 row:∀ r∈x.rows,r.length=x.c
 num:∀ r∈x.rows,∀ w∈r,w≤60
 zaE:∀ c∈cs,1≤c∧c≤4
 l8:cs.length≤8
 prod:zac cs≤1024
def zpz(cs:List Nat)(v:Nat)(x:NN):Nat:=zac (cd cs (lo x.ps v))
def za6(cs:List Nat)(v:Nat)(x:NN):Nat:=zac (cd cs (hi x.ps v))
def zfS(cs:List Nat)(v:Nat)(x:NN):Fc:=⟨fam x.ps v,cd cs (fam x.ps v),(List.range' 0 (zpz cs v x * x.c * za6 cs v x)).map (zxN (za6 cs v x) x.c x.rows)⟩
theorem zfo{cs us:List Nat}(h:∀ c∈cs,1≤c∧c≤4)(hu:∀ u∈us,u<cs.length):∀ c∈cd cs us,1≤c∧c≤4:=by
 intro c hc;obtain⟨u,h1,rfl⟩:=qaF.1 hc;have h2:=hu u h1;have:cs.getD u 0=cs[u]:=by rw[qam,qad h2]; rfl
 rw[this];exact h _ (qav h2)
theorem FacOk.flt{cs:List Nat}{v:Nat}{x:NN}(h:FacOk cs v x):∀ u∈fam x.ps v,u<cs.length:=by
 intro u hu;rcases zg7.1 hu with rfl | hu
 ·exact h.hv
 exact h.lt u hu
theorem FacOk.fl8{cs:List Nat}{v:Nat}{x:NN}(h:FacOk cs v x):(fam x.ps v).length≤8:=qap (ziJ (zki h.inc) h.flt) h.l8
theorem zx9{ps:List Nat}{v u:Nat}(h:u∈hi ps v):u∈ps:=(qbE.1 h).1
theorem zof(cs a b:List Nat):cd cs (a ++ b)=cd cs a ++ cd cs b:=qbC
theorem FacOk.cdf{cs:List Nat}{v:Nat}{x:NN}(h:FacOk cs v x):cd cs (fam x.ps v)=cd cs (lo x.ps v)++ x.c :: cd cs (hi x.ps v):=by
 unfold fam;rw[zof];show _ ++ cs.getD v 0 :: _=_;rw[h.cv];rfl
theorem FacOk.size{cs:List Nat}{v:Nat}{x:NN}(h:FacOk cs v x):zac (cd cs (fam x.ps v))=zpz cs v x * x.c * za6 cs v x:=by
 rw[h.cdf,zgn,qaZ];rfl
theorem FacOk.zz3{cs:List Nat}{v:Nat}{x:NN}(h:FacOk cs v x):x.rows.length=zpz cs v x * za6 cs v x:=by
 have e:=zq3 h.inc h.nv;have e2:cd cs x.ps=cd cs (lo x.ps v)++ cd cs (hi x.ps v):=by rw[← zof,e]
 rw[h.len,e2,zgn];rfl
theorem zmV{f:Nat→Nat}(p:Nat→Bool):∀ {us:List Nat},(∀ u∈us,1≤f u)→zac ((us.filter p).map f)≤zac (us.map f)
 | [],_=>qal _
 | u :: us,h=>by
  have h1:=h u qan;have h2:=zmV p fun w hw=>h w (qaj u hw)
  have h3:zac ((u :: us).map f)=f u * zac (us.map f):=rfl;rw[List.filter_cons,h3];cases p u with
  | true=>
   rw[if_pos rfl];exact Nat.mul_le_mul_left _ h2
  | false=>
   rw[if_neg (by decide)];exact qap h2 (qb6 _ h1)
theorem zhQ(cs:List Nat):(List.range cs.length).map (fun p=>cs.getD p 0)=cs:=by
 refine qcq (by simp) fun i h1 h2=>?_
 rw[List.getElem_map,List.getElem_range,qam,qad h2];rfl
theorem zlg{cs us:List Nat}(hc:∀ c∈cs,1≤c)(h:us.Pairwise (· < ·))(hu:∀ u∈us,u<cs.length):zac (cd cs us)≤zac cs:=by
 have e:us=(List.range cs.length).filter (fun u=>decide (u∈us)):=zh3 h (qbJ _ qcu) fun x=>by
  simp only[qbE,qbl,decide_eq_true_eq];exact⟨fun hx=>⟨hu x hx,hx⟩,fun hx=>hx.2⟩
 have k:=zmV (f:=fun p=>cs.getD p 0) (fun u=>decide (u∈us)) (us:=List.range cs.length) fun u hx=>by
  have h2:=qbl.1 hx;rw[qam,qad h2];exact hc _ (qav h2)
 rw[← e,zhQ]at k;exact k
theorem FacOk.le{cs:List Nat}{v:Nat}{x:NN}(h:FacOk cs v x):zpz cs v x * x.c * za6 cs v x≤1024:=by
 rw[← h.size];exact qap (zlg (fun c hc=>(h.zaE c hc).1) (zki h.inc) h.flt) h.prod
theorem FacOk.B0{cs:List Nat}{v:Nat}{x:NN}(h:FacOk cs v x):0<za6 cs v x:=zcd fun c hc=>(zfo h.zaE (fun u hu=>h.lt u (zx9 hu)) c hc).1
theorem FacOk.c1{cs:List Nat}{v:Nat}{x:NN}(h:FacOk cs v x):1≤x.c∧x.c≤4:=by
 have:=zfo (us:=[v]) h.zaE (fun u hu=>by rw[qa3.1 hu]; exact h.hv) (cs.getD v 0) (qa3.2 rfl);rw[h.cv]at this;exact this
def bp(k:Nat):Nat→List Nat→Nat
 | _,[]=>1
 | i,c :: r=>(bif decide (k<i)then c else 1)* bp k (i+1) r
theorem zzl{k:Nat}:∀(b:List Nat) (i:Nat),k<i→bp k i b=zac b
 | [],_,_=>rfl
 | c :: b,i,h=>by
  unfold bp;rw[decide_eq_true h,cond_true,zzl b (i+1) (by omega)];rfl
theorem zvN{k c:Nat}{b:List Nat}:∀(a:List Nat) (i:Nat),a.length+i=k→bp k i (a ++ c :: b)=zac b
 | [],i,h=>by
  have h:i=k:=by simpa using h
  subst h;rw[qa8];unfold bp;rw[decide_eq_false (qbO i),cond_false,qbf,zzl b (i+1) (by omega)]
 | d :: a,i,h=>by
  rw[qbe];unfold bp;rw[decide_eq_false (by simp only[qaE]at h; omega),cond_false,qbf];exact zvN a (i+1) (by simp only[qaE]at h; omega)
theorem zwH{fs cs:List Nat}{k:Nat}{b0:Bool}{p0:S_net_network}(hp:p0.zad=iL cs)(hc:∀ c∈cs,1≤c∧c≤4)(hl:fs.length≤8)(hf:∀ u∈fs,u<cs.length):∀(ws us:List Nat) (n b:Nat),us ++ ws=fs→b≤4 ^ us.length→ws.length<n →
  zaN (iL fs) p0 ((k:Int),b0) n (us.length:Int) (b:Int) (iL (cd cs us))=some (((b * bp k us.length (cd cs ws):Nat):Int),iL (cd cs fs))
 | _,_,0,_,_,_,h=>absurd h (qar _)
 | [],us,n+1,b,h1,h2,h3=>by
  rw[qaT]at h1;subst h1;unfold zaN;rw[zan,zaA,decide_eq_false (qbO _),cond_false,show cd cs []=[]from rfl,show bp k us.length []=1 from rfl,qcT]
 | w :: ws,us,n+1,b,h1,h2,h3=>by
  have hul:us.length<fs.length:=by rw[← h1]; simp
  have hw:w<cs.length:=hf w (by rw[← h1]; simp);have hcw:=zfo (us:=[w]) hc (fun u hu=>by rw[qa3.1 hu]; exact hw) (cs.getD w 0) (qa3.2 rfl);have hp8:(4:Nat) ^ us.length≤65536:=qap (qbI (by decide) (show us.length≤8 by omega)) (by decide);have hnext:(us ++ [w])++ ws=fs:=by rw[qba]; exact h1
  have hl1:(us ++ [w]).length=us.length+1:=by simp
  unfold zaN;rw[zan,zaA,decide_eq_true hul,cond_true,← h1,zc7 rfl,h1,qaa,hp,zeG hw,qaa,zed (by rw[zan]; unfold cd; simp only[qaB,qaE,qaR]; omega),qaa];have e:iL (cd cs us)++ [((cs.getD w 0:Nat):Int)]=iL (cd cs (us ++ [w])):=by rw[zof,zrG]; rfl
  rw[e,zam (by omega),show((us.length+1:Nat):Int)=(((us ++ [w]).length:Nat):Int) by rw[hl1]];simp only[];rw[zaA];by_cases hk:k<us.length
  ·have hb:b * cs.getD w 0≤4 ^ (us.length+1):=by rw[qcB]; exact qbc h2 hcw.2
   have hb2:b * cs.getD w 0≤65536 * 4:=qbc (qap h2 hp8) hcw.2;rw[decide_eq_true hk,cond_true,← qaG,zaq (by omega),qaa,zwH hp hc hl hf ws (us ++ [w]) n (b * cs.getD w 0) hnext (by rw[hl1]; exact hb) (by simp only[qaE]at h3; omega)];rw[show cd cs (w :: ws)=cs.getD w 0 :: cd cs ws from rfl]
   conv=>rhs; unfold bp
   rw[decide_eq_true hk,cond_true,hl1,qaZ]
  rw[decide_eq_false hk,cond_false,qaa,zwH hp hc hl hf ws (us ++ [w]) n b hnext (by rw[hl1,qcB]; omega) (by simp only[qaE]at h3; omega)];rw[show cd cs (w :: ws)=cs.getD w 0 :: cd cs ws from rfl]
  conv=>rhs; unfold bp
  rw[decide_eq_false hk,cond_false,hl1,qbf]
theorem zuL{w:List Nat}{i y:Nat}(h:i<w.length):zfu (iL w) (i:Int) (y:Int)=some (iL (w.set i y)):=by
 rw[zfD (by rw[zan]; exact h)];simp[iL,List.map_set]
theorem zzf{A B c i:Nat}{rows:List (List Nat)}{x1:S_api_Node}(hx:x1.zaE=(c:Int)){zs:List Nat}(hz:rows.getD i []=zs)(hzl:zs.length=c)(hB:0<B)(hi:i<A * B)(hA:A * c * B≤1024)(hc4:1≤c∧c≤4):∀(n x:Nat) (w:List Nat),x≤c→Fil A B c rows (i * c+x) w→c - x<n →
  ∃ w',Fil A B c rows (i * c+c) w'∧zaP ((i:Int),iL zs) (B:Int) x1 n (x:Int) (iL w)=some (iL w')
 | 0,_,_,_,_,h=>absurd h (qar _)
 | n+1,x,w,h1,h2,h3=>by
  unfold zaP;rw[zan,hzl,zaA];by_cases hxc:x<c
  ·have hlt:=zys (c:=c) hi hxc;have hb1:i / B * c+x≤(i / B * c+x)* B:=qaS _ hB;have hAB:A * B≤A * c * B:=qas B (qaS A hc4.1);have idx:w64 ((w64 ((w64 ((w64 (((i / B:Nat):Int)* x1.zaE))+(x:Int)))* (B:Int)))+((i % B:Nat):Int))=(((i / B * c+x)* B+i % B:Nat):Int):=by
    rw[hx,← qaG,zaq (by omega),← qbq,zaq (by omega),← qaG,zaq (by omega),← qbq,zaq (by omega)]
   have hw:(i / B * c+x)* B+i % B<w.length:=by rw[h2.len]; exact hlt
   have hst:=h2.step hB hi hxc;rw[hz]at hst;have hget:zs.getD x 0=zs[x]'(by omega):=by rw[qam,qad (by omega)]; rfl
   rw[hget]at hst;obtain⟨w',k1,k2⟩:=zzf hx hz hzl hB hi hA hc4 n (x+1) _ hxc hst (by omega);refine⟨w',k1,?_⟩;rw[decide_eq_true hxc,cond_true,za1 (by omega),qaa];simp only[];rw[znB hB (by omega),qaa,zkn hB,qaa,idx,za1 hw,qaa,zuL hw,qaa,zam (by omega),k2]
  have:x=c:=by omega
  subst this;exact⟨w,h2,by rw[decide_eq_false (qbO _),cond_false]⟩
def zzw:Nat→List (List Nat)→List (Int×List Int)
 | _,[]=>[]
 | i,z :: r=>((i:Int),iL z):: zzw (i+1) r
theorem zzs:∀(zs:List (List Nat)) (i:Nat),((zs.map iL).zipIdx i).map (fun p=>((p.2:Int),p.1))=zzw i zs
 | [],_=>rfl
 | z :: zs,i=>by
  rw[qaJ,List.zipIdx_cons,qaJ,zzs zs (i+1)];rfl
theorem zyU{A B c:Nat}{rows:List (List Nat)}{x1:S_api_Node}(hx:x1.zaE=(c:Int))(hr:∀ r∈rows,r.length=c)(hl:rows.length=A * B)(hB:0<B)(hA:A * c * B≤1024)(hc4:1≤c∧c≤4):∀(ys:List (List Nat)) (i:Nat) (w:List Nat),rows.drop i=ys→i≤rows.length→Fil A B c rows (i * c+0) w →
  ∃ w',Fil A B c rows (A * B * c+0) w'∧zaM (B:Int) x1 (zzw i ys) (iL w)=some (iL w')
 | [],i,w,h1,h2,h3=>by
  have:i=A * B:=by
   have:=congrArg List.length h1;simp only[qbQ,qaR]at this;omega
  subst this;exact⟨w,h3,rfl⟩
 | z :: ys,i,w,h1,h2,h3=>by
  have hi:i<rows.length:=by
   rcases qa2 i rows.length with g | g
   ·exact g
   rw[qct g]at h1; cases h1
  have e:=qat hi;rw[h1]at e;obtain⟨e1,e2⟩:=qcl e;have hz:rows.getD i []=z:=by rw[qam,qad hi,e1]; rfl
  have hzl:z.length=c:=by rw[e1]; exact hr _ (qav hi)
  obtain⟨w1,k1,k2⟩:=zzf hx hz hzl hB (by omega) hA hc4 (c+2) 0 w (qaz _) h3 (by omega);obtain⟨w',g1,g2⟩:=zyU hx hr hl hB hA hc4 ys (i+1) w1 e2.symm hi k1.next;refine⟨w',g1,?_⟩;rw[show((0:Nat):Int)=0 from rfl]at k2;show(zaP ((i:Int),iL z) (B:Int) x1 (((iL z).length:Int) - 0+2:Int).toNat 0 (iL w)).bind _=_;rw[zan,zaL,hzl,k2,qaa];exact g2
theorem zyc{g:Nat}{ns:List NN}{sets os:List Int}{v:Nat}{x:NN}(hx:ns[v]? = some x)(h:FacOk (ns.map (·.c)) v x):zbr ⟨zc8 g ns,iL (ns.map (·.c)),sets,os⟩ (v:Int)=some (zfS (ns.map (·.c)) v x).D:=by
 obtain⟨hv,ev⟩:=qab.1 hx;have hps:x.ps.length≤8:=qap (ziJ h.inc h.lt) h.l8;obtain⟨b,e1⟩:=zBA h.inc h.nv (show x.ps.length≤1000 by omega);have e2:=zAC h.inc h.nv (show x.ps.length≤1000 by omega);have e3:=zwH (fs:=fam x.ps v) (k:=(lo x.ps v).length) (b0:=b) (p0:=⟨zc8 g ns,iL (ns.map (·.c)),sets,os⟩) rfl h.zaE h.fl8 h.flt (fam x.ps v) [] ((fam x.ps v).length+2) 1 rfl (qal _) (by omega);rw[show(([]:List Nat).length:Int)=0 from rfl,show cd (ns.map (·.c)) []=[]from rfl,show iL []=[]from rfl,show((1:Nat):Int)=1 from rfl,show([]:List Nat).length=0 from rfl,h.cdf,zvN _ _ (by unfold cd; simp),qbf,← h.cdf]at e3;have hrl:=h.zz3;have hmul:x.rows.length * x.c≤1024:=by
  have:=h.le;rw[hrl,Nat.mul_right_comm];exact this
 have hrl2:x.rows.length≤1024:=qap (qaS _ h.c1.1) hmul;obtain⟨w',k1,k2⟩:=zyU (x1:=nd x) rfl h.row hrl h.B0 h.le h.c1 x.rows 0 _ rfl (qaz _) (Fil.start _ _ _ _);have k3:=k1.all h.B0 (by have:=h.c1; omega);subst k3;unfold zbr;simp only[];rw[show zaZ (zc8 g ns).nodes (v:Int)=some (nd x) by rw[← ev]; exact zcB hv,qaa,show(nd x).parents=iL x.ps from rfl,e1,qaa,zj3 (by rw[zan]; omega),qaa];simp only[];rw[e2,qaa,zan,zaL,e3,qaa];simp only[];rw[show(nd x).rows.length=x.rows.length by simp[nd],show(nd x).zaE=(x.c:Int)from rfl,← qaG,zaq (by omega),zdB (by omega),qaa,show zeq (nd x)=some (nd x)from rfl,qaa];rw[show zd3 (nd x).rows=some () by unfold zd3; rw[if_pos (by rw[show(nd x).rows.length=x.rows.length by simp[nd]]; omega)],qaa];have hz:zqV (nd x).rows=zzw 0 x.rows:=zzs x.rows 0;have hrep:List.replicate (x.rows.length * x.c) (0:Int)=iL (List.replicate (zpz (ns.map (·.c)) v x * x.c * za6 (ns.map (·.c)) v x) 0):=by
  rw[zic,hrl,Nat.mul_right_comm]
 rw[hz,hrep];have k2':zaM ((zac (cd (ns.map (·.c)) (hi x.ps v)):Nat):Int) (nd x) (zzw 0 x.rows) (iL (List.replicate (zpz (ns.map (·.c)) v x * x.c * za6 (ns.map (·.c)) v x) 0))=_:=k2;rw[k2',qaa];rfl
theorem RightN.fac{g:Nat}{ns:List NN}(h:RightN g ns){v:Nat}{x:NN}(hx:ns[v]? = some x):FacOk (ns.map (·.c)) v x:=by
 obtain⟨hv,ev⟩:=qab.1 hx;have hm:x∈ns:=ev ▸ qav hv;refine⟨h.inc x hm,fun hp=>h.ne hx v hp rfl,by simpa using h.lt x hm,by simpa using hv,?_,(h.rows x hm).len,fun r hr=>((h.rows x hm).row r hr).1,fun r hr w hw=>?_,h.cs.zaE,by simpa using h.n2,h.prod⟩
 ·rw[qam,qa5,hx];rfl
 have:=zvO hw;have:=((h.rows x hm).row r hr).2;have:=h.g2;omega
def ze4:List Nat→List Nat→(Nat→Nat)→Nat→Nat
 | u :: us,d :: ds,F=>ze4 us ds (upd F u d)
 | _,_,F=>F
theorem zoP:∀ {us ds:List Nat} {F:Nat→Nat} {x:Nat},x ∉ us→ze4 us ds F x=F x
 | [],_,_,_,_=>by unfold ze4; rfl
 | u :: us,[],_,_,_=>by unfold ze4; rfl
 | u :: us,d :: ds,F,x,h=>by
  unfold ze4;rw[zoP fun h1=>h (qaj u h1),zfV fun e=>h (by rw[e]; exact qan)]
theorem znh:∀ {us ds:List Nat} {F:Nat→Nat} {x:Nat},us.Nodup→us.length=ds.length→x∈us→ze4 us ds F x=at_ us ds x
 | [],_,_,_,_,_,h=>by simp at h
 | u :: us,[],_,_,_,h,_=>by simp at h
 | u :: us,d :: ds,F,x,hn,hl,h=>by
  obtain⟨n1,n2⟩:=qbp.1 hn;unfold ze4;rw[zeA];by_cases e:u=x
  ·subst e;rw[zoP n1,zd2,beq_self_eq_true,cond_true]
  rw[beq_false_of_ne e,cond_false];exact znh n2 (by simpa using hl) ((qaK.1 h).resolve_left fun e2=>e e2.symm)
theorem zwu{cs:List Nat}{v:Nat}{x:NN}(h:FacOk cs v x){j:Nat}(hj:j<zpz cs v x * x.c * za6 cs v x):dig (cd cs (fam x.ps v)) j=dig (cd cs (lo x.ps v)) (j / (x.c * za6 cs v x))++ j / za6 cs v x % x.c :: dig (cd cs (hi x.ps v)) (j % za6 cs v x):=by
 have hB:=h.B0;have hc:=h.c1;have hp:zac (x.c :: cd cs (hi x.ps v))=x.c * za6 cs v x:=rfl;have hp0:0<x.c * za6 cs v x:=qc7 (by omega) hB;rw[h.cdf,znq _ _ _ (by rw[hp]; exact hp0) (by rw[hp,← qaZ]; exact hj),hp];congr 1
 show j % (x.c * za6 cs v x) / za6 cs v x :: dig (cd cs (hi x.ps v)) (j % (x.c * za6 cs v x) % za6 cs v x)=_;rw[show j % (x.c * za6 cs v x) / za6 cs v x=j / za6 cs v x % x.c by rw[qaQ,Nat.mod_mul_right_div_self],Nat.mod_mod_of_dvd _ ⟨x.c,qaQ _ _⟩]
theorem zBf{a a' b b':List Nat}{x x':Nat}(h:a ++ x :: b=a' ++ x' :: b')(hl:a.length=a'.length):a=a'∧x=x'∧b=b':=by
 obtain⟨h1,h2⟩:=List.append_inj h hl;obtain⟨h3,h4⟩:=qcl h2;exact⟨h1,h3,h4⟩
theorem zrm{cs:List Nat}{v:Nat}{x:NN}(h:FacOk cs v x){F:Nat→Nat}{j:Nat}(hj:j<zpz cs v x * x.c * za6 cs v x)(e:(fam x.ps v).map F=dig (cd cs (fam x.ps v)) j):F v=j / za6 cs v x % x.c∧x.ps.map F=dig (cd cs x.ps) (j / (x.c * za6 cs v x)* za6 cs v x+j % za6 cs v x):=by
 rw[zwu h hj]at e;unfold fam at e;rw[qbC,qaJ]at e;obtain⟨h1,h2,h3⟩:=zBf e (by rw[qaB,zf8]; simp[cd]);refine⟨h2,?_⟩;have hB:=h.B0;have hmod:=qbw j hB;have ha:j / (x.c * za6 cs v x)<zpz cs v x:=qbZ (by rw[qaQ (x.c * za6 cs v x),← qaZ]; exact hj);have hlt:j / (x.c * za6 cs v x)* za6 cs v x+j % za6 cs v x<zpz cs v x * za6 cs v x:=by
  have:=qas (za6 cs v x) (show j / (x.c * za6 cs v x)+1≤zpz cs v x from ha);rw[qaI,qbf]at this;omega
 have hps:cd cs x.ps=cd cs (lo x.ps v)++ cd cs (hi x.ps v):=by rw[← zof,zq3 h.inc h.nv]
 rw[hps,znq _ _ _ hB hlt];have d1:(j / (x.c * za6 cs v x)* za6 cs v x+j % za6 cs v x) / za6 cs v x=j / (x.c * za6 cs v x):=by rw[qbX,qcb _ _ hB,qbS hmod,qaM]
 have d2:(j / (x.c * za6 cs v x)* za6 cs v x+j % za6 cs v x) % za6 cs v x=j % za6 cs v x:=by rw[qbX,qbs,Nat.mod_mod]
 show _=dig _ ((j / (x.c * za6 cs v x)* za6 cs v x+j % za6 cs v x) / za6 cs v x)++ dig _ ((j / (x.c * za6 cs v x)* za6 cs v x+j % za6 cs v x) % za6 cs v x);rw[d1,d2,← h1,← h3,← qbC,zq3 h.inc h.nv]
theorem zyD{A B c j:Nat}(hB:0<B)(hj:j<A * c * B):j / (c * B)* B+j % B<A * B:=by
 have hmod:=qbw j hB;have ha:j / (c * B)<A:=qbZ (by rw[qaQ (c * B),← qaZ]; exact hj);have:=qas B (show j / (c * B)+1≤A from ha);rw[qaI,qbf]at this;omega
theorem zrv{cs us:List Nat}(h:∀ c∈cs,1≤c∧c≤4)(hu:∀ u∈us,u<cs.length):∀ c∈cd cs us,1≤c∧c≤8:=fun c hc=>⟨(zfo h hu c hc).1,qap (zfo h hu c hc).2 (by decide)⟩
theorem zwR{g:Nat}{ns:List NN}{v i:Nat}{x:NN}{F:Nat→Nat}(hx:ns[v]? = some x)(h:FacOk (ns.map (·.c)) v x)(hF:x.ps.map F=dig (cd (ns.map (·.c)) x.ps) i)(hi:i<x.rows.length):zel (zc8 g ns) (v:Int) (iL ((List.range ns.length).map F))=some (iL (x.rows.getD i [])):=by
 obtain⟨hv,ev⟩:=qab.1 hx;have hps:x.ps.length≤8:=qap (ziJ h.inc h.lt) h.l8;have hlt:∀ p∈x.ps,p<ns.length:=by simpa using h.lt
 have h8:=zrv h.zaE h.lt;have hpr:zac (cd (ns.map (·.c)) x.ps)≤1024:=qap (zlg (fun c hc=>(h.zaE c hc).1) h.inc h.lt) h.prod;have hi':i<zac (cd (ns.map (·.c)) x.ps):=by rw[← h.len]; exact hi
 unfold zel;rw[show zaZ (zc8 g ns).nodes (v:Int)=some (nd x) by rw[← ev]; exact zcB hv,qaa];have e1:zaV (zc8 g ns) (v:Int)=some (iL (cd (ns.map (·.c)) x.ps)):=by
  have:=zwY (g:=(g:Int)) (ns:=ns) (v:=v) (by simpa using h.l8) hv (by rw[ev]; exact hlt) (by rw[ev]; exact hps);rw[ev]at this;exact this
 have e2:zeK (iL ((List.range ns.length).map F)) (iL x.ps)=some (iL (x.ps.map F)):=by
  rw[zwy (fun p hp=>by rw[zan]; simpa using hlt p hp) hps];congr 1
  simp only[iL,qcX];refine qbD fun p hp=>?_
  have:=hlt p hp;simp[qam,this]
 rw[e1,qaa,show(nd x).parents=iL x.ps from rfl,e2,qaa,hF,zwO (zff h8 hi') (fun c hc=>(h8 c hc).1) (by omega) (by unfold cd; simp; omega),qaa,zka h8 hi',zoo,show(nd x).rows=x.rows.map iL from rfl,qa5,qad hi,qaP,qaa,qam,qad hi];rfl
def zvT(ns:List NN):List S_api_Factor:=(List.range ns.length).map fun v=>(zfS (ns.map (·.c)) v (ns.getD v ⟨0,[],[]⟩)).D
theorem zhc{α:Type}{xs:List α}{i:Nat}{d:α}:xs.getD i d=d∨xs.getD i d∈xs:=by
 rw[qam];rcases qa2 i xs.length with h | h
 ·rw[qad h];exact .inr (qav h)
 rw[qa9 h];exact .inl rfl
theorem ztC{B c:Nat}{rows:List (List Nat)}(h:∀ r∈rows,∀ w∈r,w≤60)(j:Nat):zxN B c rows j≤60:=by
 unfold zxN;rcases zhc (xs:=rows) (i:=j / (c * B)* B+j % B) (d:=[])with e | e
 ·rw[e]; simp
 rcases zhc (xs:=rows.getD (j / (c * B)* B+j % B) []) (i:=j / B % c) (d:=0)with e2 | e2
 ·rw[e2]; omega
 exact h _ e _ e2
theorem znF{cs:List Nat}{v:Nat}{x:NN}(h:FacOk cs v x):FcOk (zfS cs v x):=by
 have h8:=h.fl8;have hle:=h.le;have hsz:=h.size;refine⟨by simp[zfS,cd],by simp only[zfS,cd,qaB]; omega,zrv h.zaE h.flt,?_,?_,zki h.inc,fun u hu=>?_,fun w hw=>?_⟩
 ·show zac (cd cs (fam x.ps v))≤4096;omega
 ·show _=zac (cd cs (fam x.ps v));rw[hsz];simp[zfS]
 ·have:=h.flt u hu;have:=h.l8;omega
 obtain⟨j,_,rfl⟩:=qaF.1 hw;have:=ztC (B:=za6 cs v x) (c:=x.c) h.num j;simp only[zi5];omega
theorem zyl{g:Nat}{ns:List NN}{sets os:List Int}(h:RightN g ns):∀(n i:Nat),i≤ns.length→ns.length - i<n →
  zb5 (⟨zc8 g ns,iL (ns.map (·.c)),sets,os⟩,0) n (i:Int) (((List.range i).map fun v=>(zfS (ns.map (·.c)) v (ns.getD v ⟨0,[],[]⟩)).D)++ List.replicate (ns.length - i) ⟨[],[],[]⟩)=some (zvT ns)
 | 0,_,_,h=>absurd h (qar _)
 | n+1,i,h1,h2=>by
  have hn:=h.n2;have hnl:(zc8 g ns).nodes.length=ns.length:=by simp[zc8]
  unfold zb5;simp only[];rw[hnl,qaH,zaA];by_cases hi:i<ns.length
  ·have hx:ns[i]? = some (ns.getD i ⟨0,[],[]⟩):=by rw[qam,qad hi]; rfl
   have hf:=h.fac hx;have hlen:(((List.range i).map fun v=>(zfS (ns.map (·.c)) v (ns.getD v ⟨0,[],[]⟩)).D)++ List.replicate (ns.length - i) (⟨[],[],[]⟩:S_api_Factor)).length=ns.length:=by simp; omega
   have ih:=zyl (sets:=sets) (os:=os) h n (i+1) hi (by omega);have e:(((List.range i).map fun v=>(zfS (ns.map (·.c)) v (ns.getD v ⟨0,[],[]⟩)).D)++ List.replicate (ns.length - i) (⟨[],[],[]⟩:S_api_Factor)).set i (zfS (ns.map (·.c)) i (ns.getD i ⟨0,[],[]⟩)).D=((List.range (i+1)).map fun v=>(zfS (ns.map (·.c)) v (ns.getD v ⟨0,[],[]⟩)).D)++ List.replicate (ns.length - (i+1)) ⟨[],[],[]⟩:=by
    rw[qcZ _ _ (by simp),qaB,qcV,qc0,show ns.length - i=(ns.length - (i+1))+1 by omega,qaV,qcw,qda,qbC,qba];rfl
   rw[decide_eq_true hi,cond_true,zyc hx hf,qaa,zbn (by rw[hlen]; exact hi),qaa,zfD (by rw[hlen]; exact hi),qaa,zam (by omega),e,ih]
  have:i=ns.length:=by omega
  subst this;rw[decide_eq_false (qbO _),cond_false,qc0,qck,qaT];rfl
theorem zpI{g:Nat}{ns:List NN}(h:RightN g ns):zc3 (zc8 g ns)=some (zvT ns,0):=by
 obtain⟨os,_,_,e⟩:=zh2 h;have hn:=h.n2;have hnl:(zc8 g ns).nodes.length=ns.length:=by simp[zc8]
 have e1:=zyl (sets:=iL (zbf ns)) (os:=iL os) h (ns.length+2) 0 (qaz _) (by omega);rw[show((0:Nat):Int)=0 from rfl,List.range_zero,qcW,qa8,qcy]at e1;unfold zc3;rw[e,qaa];simp only[];rw[show((0:Int)== 0)=true from rfl,cond_true,hnl,zdB (by omega),qaa,qaH,zaL,e1,qaa]
theorem zjW(ns:List NN):(zvT ns).length=ns.length:=by simp[zvT]
theorem zu6{ns:List NN}{v:Nat}(h:v<ns.length):zaZ (zvT ns) (v:Int)=some (zfS (ns.map (·.c)) v (ns.getD v ⟨0,[],[]⟩)).D:=by
 rw[zbn (by rw[zjW]; exact h)];simp[zvT]
def zp7(cs:List Nat)(x:NN)(s:Nat→Nat):Nat:=dot (x.ps.map s) (zaS (cd cs x.ps))
theorem zwJ{cs:List Nat}{v:Nat}{x:NN}{u:Nat}(hu:u∈fam x.ps v):at_ (zfS cs v x).vs (zfS cs v x).cs u=cs.getD u 0:=zgL (h:=fun p=>cs.getD p 0) hu
theorem zhU{cs:List Nat}{v:Nat}{x:NN}(h:FacOk cs v x){s:Nat→Nat}(hs:∀ u∈fam x.ps v,s u<cs.getD u 0):(zfS cs v x).val s=(x.rows.getD (zp7 cs x s) []).getD (s v) 0∧zp7 cs x s<x.rows.length:=by
 have hok:=znF h;have hb:zb3 (cd cs (fam x.ps v)) ((fam x.ps v).map s):=Fit.below hok (f:=zfS cs v x) fun u hu=>by rw[zwJ hu]; exact hs u hu
 have hlt:=zml hb;have hdig:=zj2 hb;have hj:dot ((fam x.ps v).map s) (zaS (cd cs (fam x.ps v)))<zpz cs v x * x.c * za6 cs v x:=by rw[← h.size]; exact hlt
 obtain⟨k1,k2⟩:=zrm h (F:=s) hj hdig.symm;have hkl:=zyD h.B0 hj;have hps:zac (cd cs x.ps)=zpz cs v x * za6 cs v x:=by rw[← h.len,h.zz3]
 have hr:zp7 cs x s=dot ((fam x.ps v).map s) (zaS (cd cs (fam x.ps v))) / (x.c * za6 cs v x)* za6 cs v x+dot ((fam x.ps v).map s) (zaS (cd cs (fam x.ps v))) % za6 cs v x:=by
  unfold zp7;rw[k2,zka (zrv h.zaE h.lt) (by rw[hps]; exact hkl)]
 refine⟨?_,by rw[hr,h.zz3]; exact hkl⟩;show(zfS cs v x).get (dot ((fam x.ps v).map s) (zaS (cd cs (fam x.ps v))))=_;rw[hr,k1];unfold Fc.get zfS;simp only[];rw[get_map hj];rfl
theorem zuJ{cs:List Nat}{v:Nat}{x:NN}(h:FacOk cs v x)(i:Nat):(zfS cs v x).get i≤60:=by
 unfold Fc.get;rcases zhc (xs:=(zfS cs v x).ws) (i:=i) (d:=0)with e | e
 ·rw[e]; omega
 obtain⟨j,_,e2⟩:=qaF.1 e;rw[← e2];exact ztC h.num j
theorem zwr{r:List Nat}{c:Nat}(h:r.length=c):(List.range' 0 c).map (fun p=>r.getD p 0)=r:=by
 refine qcq (by simp[h]) fun i h1 h2=>?_
 simp[qam,h2]
theorem NetOk.right{num:List Nat}{g:Nat}{ns:List NN}(h:NetOk num g ns):RightN g ns:=by
 have at_v:∀ v (hv:v<ns.length),∃ j,num[j]? = some v∧NodeOk num g (ns.map (·.c)) j ns[v]:=by
  intro v hv;obtain⟨j,hj,hjv⟩:=qcF.1 (h.perm.all v hv);exact⟨j,by rw[qad hj,hjv],h.node j v ns[v] (by rw[qad hj,hjv]) (qad hv)⟩
 have at_x:∀ x∈ns,∃ j v,num[j]? = some v∧NodeOk num g (ns.map (·.c)) j x:=by
  intro x hx;obtain⟨v,hv,rfl⟩:=qcF.1 hx;obtain⟨j,h1,h2⟩:=at_v v hv;exact⟨j,v,h1,h2⟩
 refine⟨h.g1,h.g2,h.n1,h.n2,h.zaE,h.prod,fun x hx=>?_,fun x hx p hp=>?_,fun x hx=>?_,?_⟩
 ·obtain⟨j,v,_,h2⟩:=at_x x hx;exact h2.par.inc
 ·obtain⟨j,v,_,h2⟩:=at_x x hx;have:=h2.par.lt p hp;simpa using this
 ·obtain⟨j,v,_,h2⟩:=at_x x hx;exact h2.rows
 refine⟨fun v=>min (num.idxOf v) 8,fun v=>qcn _ _,fun v x hx p hp=>?_⟩;obtain⟨hv,rfl⟩:=qab.1 hx;obtain⟨j,h1,h2⟩:=at_v v hv;have hin:=h2.par.mem p hp;obtain⟨hj,ej⟩:=qab.1 h1;obtain⟨k,hk,ek0⟩:=hin;obtain⟨hk2,ek⟩:=qab.1 ek0;have i1:num.idxOf v=j:=by rw[← ej]; exact h.perm.nod.idxOf_getElem j hj
 have i2:num.idxOf p=k:=by rw[← ek]; exact h.perm.nod.idxOf_getElem k hk2
 have hn:=h.perm.len;have hn8:=h.n2;simp only[i1,i2];omega
theorem zoO:∀(cs:List Nat),(∀ c∈cs,1≤c)→dot (cs.map (· - 1)) (zaS cs)+1=zac cs
 | [],_=>rfl
 | c :: cs,h=>by
  have ih:=zoO cs fun d hd=>h d (qaj c hd)
  have hc:=h c qan;show(c - 1)* zac cs+dot (cs.map (· - 1)) (zaS cs)+1=c * zac cs;have:c * zac cs=(c - 1)* zac cs+zac cs:=by
   conv=>lhs; rw[show c=(c - 1)+1 by omega,qaI,qbf]
  omega
def zjY(cs:List Nat)(us:List Nat)(s:Nat→Nat)(u:Nat):Nat:=bif decide (u∈us)then cs.getD u 0 - 1 else s u
structure Fixd (cs:List Nat) (v:Nat) (x:NN) (i:Nat) (f:Fc):Prop where
 ok:FcOk f
 vs:f.vs=(fam x.ps v).filter fun u=>!decide (u∈x.ps.take i)
 cs_:f.cs=cd cs f.vs
 val:∀ s,(∀ u∈f.vs,s u<cs.getD u 0)→f.val s=(zfS cs v x).val (zjY cs (x.ps.take i) s)
theorem Fixd.zero{cs:List Nat}{v:Nat}{x:NN}(h:FacOk cs v x):Fixd cs v x 0 (zfS cs v x):=by
 refine⟨znF h,?_,rfl,fun s _=>?_⟩
 ·rw[qb2];exact(List.filter_eq_self.2 fun u _=>by simp).symm
 refine val_congr fun u _=>?_
 unfold zjY;rw[qb2,decide_eq_false (by simp),cond_false]
theorem zqi{cs:List Nat}(h:∀ c∈cs,1≤c∧c≤4){u:Nat}(hu:u<cs.length):1≤cs.getD u 0∧cs.getD u 0≤4:=zfo (us:=[u]) h (fun w hw=>by rw[qa3.1 hw]; exact hu) _ (qa3.2 rfl)
theorem zlp{xs:List Nat}{j:Nat}(h:j<xs.length):xs[j]=xs.getD j 0:=by
 rw[qam,qad h];rfl
theorem Fixd.last{cs:List Nat}{v:Nat}{x:NN}(h:FacOk cs v x){f:Fc}(hf:Fixd cs v x x.ps.length f):f.ws=x.rows.getD (x.rows.length - 1) []:=by
 have hvs:f.vs=[v]:=by
  rw[hf.vs,qco];refine zh3 (qbJ _ (zki h.inc)) (by simp) fun u=>?_
  simp only[qbE,zg7,qbT,decide_eq_false_iff_not,qa3];constructor
  ·rintro⟨h1 | h1,h2⟩
   ·exact h1
   exact absurd h1 h2
  rintro rfl;exact⟨.inl rfl,h.nv⟩
 have hcs:f.cs=[x.c]:=by rw[hf.cs_,hvs]; show [cs.getD v 0]=_; rw[h.cv]
 have hc1:=h.c1;have hsz:=hf.ok.size;have hp1:zac f.cs=x.c:=by rw[hcs]; simp[zac]
 have h1:1≤x.rows.length:=by rw[h.len]; exact zcd fun c hc=>(zfo h.zaE h.lt c hc).1
 have hrl:(x.rows.getD (x.rows.length - 1) []).length=x.c:=by
  rw[qam,qad (by omega)];exact h.row _ (qav _)
 refine qcq (by rw[hsz,hp1,hrl]) fun j a b=>?_
 have hj:j<zac f.cs:=by rw[← hsz]; exact a
 have hjc:j<x.c:=by rw[← hp1]; exact hj
 have e1:=zrO hf.ok hj;have hat:at_ f.vs (dig f.cs j) v=j:=by
  rw[hvs,hcs];simp[dig,at_,zac]
 rw[hf.val _ fun u hu=>?_]at e1
 ·have hfit:∀ u∈fam x.ps v,zjY cs (x.ps.take x.ps.length) (at_ f.vs (dig f.cs j)) u<cs.getD u 0:=by
   intro u hu;unfold zjY;rw[qco];by_cases e:u∈x.ps
   ·have:=(zqi h.zaE (h.lt u e)).1;rw[decide_eq_true e,cond_true]; omega
   have:u=v:=(zg7.1 hu).resolve_right e;subst this;rw[decide_eq_false e,cond_false,hat,h.cv];exact hjc
  obtain⟨k1,k2⟩:=zhU h hfit;have k3:zp7 cs x (zjY cs (x.ps.take x.ps.length) (at_ f.vs (dig f.cs j)))=x.rows.length - 1:=by
   unfold zp7;have:x.ps.map (zjY cs (x.ps.take x.ps.length) (at_ f.vs (dig f.cs j)))=(cd cs x.ps).map (· - 1):=by
    unfold cd;rw[qcX];refine qbD fun u hu=>?_
    unfold zjY;rw[qco,decide_eq_true hu,cond_true];rfl
   rw[this];have:=zoO (cd cs x.ps) fun c hc=>(zfo h.zaE h.lt c hc).1
   rw[h.len];omega
  have k4:zjY cs (x.ps.take x.ps.length) (at_ f.vs (dig f.cs j)) v=j:=by
   unfold zjY;rw[qco,decide_eq_false h.nv,cond_false,hat]
  rw[k1,k3,k4]at e1;unfold Fc.get at e1;rw[zlp a,zlp b];exact e1.symm
 rw[hvs]at hu;rw[qa3.1 hu,hat,h.cv];exact hjc
def zdc:Nat→(Nat→Nat)→Nat
 | 0,_=>0
 | n+1,f=>zdc n f+f n
theorem zcT{f g:Nat→Nat}:∀ {n:Nat},(∀ x,x<n→f x=g x)→zdc n f=zdc n g
 | 0,_=>rfl
 | n+1,h=>by
  unfold zdc;rw[zcT (n:=n) fun x hx=>h x (by omega),h n (by omega)]
theorem zok{f g:Nat→Nat}:∀ n:Nat,zdc n (fun x=>f x+g x)=zdc n f+zdc n g
 | 0=>rfl
 | n+1=>by
  show zdc n (fun x=>f x+g x)+(f n+g n)=zdc n f+f n+(zdc n g+g n);rw[zok n];omega
theorem zlW:∀ n:Nat,zdc n (fun _=>0)=0
 | 0=>rfl
 | n+1=>by
  show zdc n (fun _=>0)+0=0;rw[zlW n]
theorem zmT{f:Nat→Nat→Nat}{m:Nat}:∀ n:Nat,zdc n (fun x=>zdc m (f x))=zdc m (fun y=>zdc n (fun x=>f x y))
 | 0=>(zlW m).symm
 | n+1=>by
  have:=zmT (f:=f) (m:=m) n;show zdc n (fun x=>zdc m (f x))+zdc m (f n)=zdc m (fun y=>zdc n (fun x=>f x y)+f n y);rw[this,zok]
theorem zo4{a:Nat}{f:Nat→Nat}:∀ n:Nat,zdc n (fun x=>a * f x)=a * zdc n f
 | 0=>rfl
 | n+1=>by
  show zdc n (fun x=>a * f x)+a * f n=a * (zdc n f+f n);rw[zo4 n,qcU]
theorem zhd{f:Nat→Nat}{a:Nat}:∀ b:Nat,zdc (a+b) f=zdc a f+zdc b (fun y=>f (a+y))
 | 0=>rfl
 | b+1=>by
  show zdc (a+b) f+f (a+b)=zdc a f+(zdc b (fun y=>f (a+y))+f (a+b));rw[zhd b];omega
theorem zm1{f:Nat→Nat}{P:Nat}:∀ c:Nat,zdc (c * P) f=zdc c (fun x=>zdc P (fun y=>f (x * P+y)))
 | 0=>by rw[qb1]; rfl
 | c+1=>by
  rw[qaI,qbf,zhd,zm1 c];rfl
theorem zlM(f:Nat→Nat):∀ n:Nat,zdc n f=((List.range' 0 n).map f).sum
 | 0=>rfl
 | n+1=>by
  rw[List.range'_concat];unfold zdc;rw[zlM f n];simp
theorem zwP{f:Nat→Nat}{m n:Nat}(h:m≤n):zdc m f≤zdc n f:=by
 obtain⟨k,rfl⟩:∃ k,n=m+k:=⟨n - m,by omega⟩;rw[zhd];omega
def zqy(k:Nat→Nat):List Nat→(Nat→Nat)→((Nat→Nat)→Nat)→Nat
 | [],s,G=>G s
 | v :: vs,s,G=>zdc (k v) fun x=>zqy k vs (upd s v x) G
theorem ztZ{s:Nat→Nat}{u v x y:Nat}(h:u≠v):upd (upd s u x) v y=upd (upd s v y) u x:=by
 funext w
 by_cases e1:w=v
 ·subst e1;rw[zd2,zfV fun e=>h e.symm,zd2]
 rw[zfV e1];by_cases e2:w=u
 ·subst e2; rw[zd2,zd2]
 rw[zfV e2,zfV e2,zfV e1]
theorem zsP{k:Nat→Nat}{a b:List Nat}(h:a.Perm b):a.Nodup→∀(s:Nat→Nat) (G:(Nat→Nat)→Nat),zqy k a s G=zqy k b s G:=by
 induction h with
 | nil=>intro _ s G; rfl
 | cons x _ ih=>
  intro hn s G;exact zcT fun y _=>ih (qbp.1 hn).2 _ G
 | swap x y l=>
  intro hn s G;have hxy:y≠x:=fun e=>(qbp.1 hn).1 (e ▸ qan)
  show zdc (k y) (fun p=>zdc (k x) fun q=>zqy k l (upd (upd s y p) x q) G)=zdc (k x) (fun q=>zdc (k y) fun p=>zqy k l (upd (upd s x q) y p) G);rw[zmT (f:=fun p q=>zqy k l (upd (upd s y p) x q) G)];exact zcT fun q _=>zcT fun p _=>by rw[ztZ hxy]
 | trans h1 _ ih1 ih2=>
  intro hn s G;rw[ih1 hn,ih2 (h1.nodup_iff.1 hn)]
theorem zsy{k:Nat→Nat}{G:(Nat→Nat)→Nat}:∀(vs:List Nat) (s:Nat→Nat),zdc (zac (vs.map k)) (fun w=>G (ze4 vs (dig (vs.map k) w) s))=zqy k vs s G
 | [],s=>by
  show zdc 1 (fun w=>G (ze4 [] (dig [] w) s))=G s;unfold zdc zdc;rw[qaM];rfl
 | v :: vs,s=>by
  show zdc (k v * zac (vs.map k)) (fun w=>G (ze4 (v :: vs) (w / zac (vs.map k):: dig (vs.map k) (w % zac (vs.map k))) s))=zdc (k v) fun x=>zqy k vs (upd s v x) G
  rw[zm1];refine zcT fun x _=>?_
  rw[← zsy vs (upd s v x)];refine zcT fun y hy=>?_
  have hp:0<zac (vs.map k):=by omega
  rw[show(x * zac (vs.map k)+y) / zac (vs.map k)=x by rw[qbX,qcb _ _ hp,qbS hy,qaM],show(x * zac (vs.map k)+y) % zac (vs.map k)=y by rw[qbX,qbs,qa0 hy]];rfl
theorem zpL{a b:List Nat}(h:a.Perm b):zac a=zac b:=by
 induction h with
 | nil=>rfl
 | cons x _ ih=>show x * zac _=x * zac _; rw[ih]
 | swap x y l=>
  show y * (x * zac l)=x * (y * zac l);rw[← qaZ,← qaZ,qaQ y x]
 | trans _ _ ih1 ih2=>rw[ih1,ih2]
abbrev zgA:NN:=⟨0,[],[]⟩
def wtO(ns:List NN)(L:List Nat)(s:Nat→Nat):Nat:=zac (L.map fun v=>(zfS (ns.map (·.c)) v (ns.getD v zgA)).val s)
theorem zjQ(ns:List NN)(a b:List Nat)(s:Nat→Nat):wtO ns (a ++ b) s=wtO ns a s * wtO ns b s:=by
 unfold wtO;rw[qbC,zgn]
theorem zkF(ns:List NN)(v:Nat)(s:Nat→Nat):wtO ns [v] s=(zfS (ns.map (·.c)) v (ns.getD v zgA)).val s:=by
 unfold wtO;simp[zac]
theorem zsY{ns:List NN}{L:List Nat}{s t:Nat→Nat}(h:∀ v∈L,∀ u∈fam (ns.getD v zgA).ps v,s u=t u):wtO ns L s=wtO ns L t:=by
 unfold wtO;rw[qbD fun v hv=>val_congr (f:=zfS (ns.map (·.c)) v (ns.getD v zgA)) fun u hu=>h v hv u hu]
structure Topo (ns:List NN) (os:List Nat):Prop where
 nod:os.Nodup
 all:os.Perm (List.range ns.length)
 par:∀(pre post:List Nat) (v:Nat),pre ++ v :: post=os→∀ p∈(ns.getD v zgA).ps,p∈pre
theorem zwQ{α:Type}{xs:List α}{i:Nat}{d:α}(h:i<xs.length):xs.getD i d∈xs:=by
 rw[qam,qad h];exact qav h
theorem zhT{ns:List NN}{v:Nat}(h:v<ns.length):ns[v]? = some (ns.getD v zgA):=by
 rw[qam,qad h];rfl
theorem RightN.zBO{g:Nat}{ns:List NN}(h:RightN g ns):∃ os,Topo ns os:=by
 obtain⟨os,g1,g2,_⟩:=zh2 h;have hml:(zbf ns).length=ns.length:=by simp[zbf]
 have hnod:=g1.nod;have hlt:∀ x∈os,x<ns.length:=fun x hx=>by have:=g1.lt x hx; omega
 refine⟨os,hnod,?_,fun pre post v e p hp=>?_⟩
 ·refine(List.perm_ext_iff_of_nodup hnod qcr).2 fun x=>?_
  rw[qbl];exact⟨hlt x,fun hx=>zw6 hnod g2 hlt x hx⟩
 have hv:os[pre.length]? = some v:=by rw[← e]; simp
 have hf:=g1 pre.length v hv;have htk:os.take pre.length=pre:=by rw[← e]; simp
 rw[htk]at hf;have hvn:v<ns.length:=hlt v (by rw[← e]; simp);have hb:((zbf ns).getD v 0).testBit p=true:=by
  have:(zbf ns).getD v 0=zdX (ns.getD v zgA).ps:=by
   unfold zbf;rw[qam,qa5,zhT hvn];rfl
  rw[this,zfK];exact decide_eq_true hp
 have:=hf.ready.2 p hb;rw[zfK]at this;exact of_decide_eq_true this
theorem zwW{g:Nat}{ns:List NN}(h:RightN g ns){v:Nat}(hv:v<ns.length){s:Nat→Nat}(hs:∀ p∈(ns.getD v zgA).ps,s p<(ns.map (·.c)).getD p 0):
  zdc ((ns.map (·.c)).getD v 0) (fun x=>(zfS (ns.map (·.c)) v (ns.getD v zgA)).val (upd s v x))=g:=by
 have hx:=zhT hv;have hf:=h.fac hx;have hm:ns.getD v zgA∈ns:=by
  obtain⟨h1,h2⟩:=qab.1 hx;rw[← h2]; exact qav h1
 have hro:=h.rows _ hm;have hr:∀ x,zp7 (ns.map (·.c)) (ns.getD v zgA) (upd s v x)=zp7 (ns.map (·.c)) (ns.getD v zgA) s:=by
  intro x;unfold zp7;rw[qbD fun u hu=>zfV (by intro e; have h2:=hu; rw[e]at h2; exact hf.nv h2)]
 have hfit:∀ x,x<(ns.map (·.c)).getD v 0→∀ u∈fam (ns.getD v zgA).ps v,upd s v x u<(ns.map (·.c)).getD u 0:=by
  intro x hxc u hu;by_cases e:u=v
  ·subst e; rw[zd2]; exact hxc
  rw[zfV e]; exact hs u ((zg7.1 hu).resolve_left e)
 have hc1:=hf.c1;have hcv:=hf.cv;have hlt:zp7 (ns.map (·.c)) (ns.getD v zgA) s<(ns.getD v zgA).rows.length:=by
  have:=(zhU hf (hfit 0 (by omega))).2;rw[hr]at this;exact this
 have hrow:(ns.getD v zgA).rows.getD (zp7 (ns.map (·.c)) (ns.getD v zgA) s) []∈(ns.getD v zgA).rows:=by
  exact zwQ hlt
 obtain⟨k1,k2⟩:=hro.row _ hrow;rw[zcT (g:=fun x=>((ns.getD v zgA).rows.getD (zp7 (ns.map (·.c)) (ns.getD v zgA) s) []).getD x 0) fun x hxc=>by rw[(zhU hf (hfit x hxc)).1,hr,zd2],zlM,hcv,zwr k1,k2]
theorem zpr{g:Nat}{ns:List NN}(h:RightN g ns){os:List Nat}(ht:Topo ns os):∀(rest pre:List Nat) (s:Nat→Nat),pre ++ rest=os→(∀ u∈pre,s u<(ns.map (·.c)).getD u 0)→
  zqy (fun v=>(ns.map (·.c)).getD v 0) rest s (wtO ns os)=wtO ns pre s * g ^ rest.length
 | [],pre,s,e,_=>by
  rw[qaT]at e;subst e;simp[zqy]
 | v :: rest,pre,s,e,hs=>by
  have hvo:v∈os:=by rw[← e]; simp
  have hvn:v<ns.length:=qbl.1 (ht.all.mem_iff.1 hvo);have hpar:=ht.par pre rest v e;have hnd:=ht.nod;rw[← e]at hnd;obtain⟨n1,n2,n3⟩:=List.nodup_append.1 hnd;have hvp:v ∉ pre:=fun hm=>n3 v hm v qan rfl
  have hpre:∀ x,wtO ns pre (upd s v x)=wtO ns pre s:=by
   intro x;refine zsY fun w hw u hu=>?_
   have:u∈pre:=by
    rcases zg7.1 hu with rfl | hp
    ·exact hw
    obtain⟨a,b,hab⟩:=List.append_of_mem hw;have h2:=ht.par a (b ++ v :: rest) w (by rw[← e,hab]; simp) u hp;rw[hab];exact qbP _ h2
   exact zfV (by intro e2; exact hvp (by rw[← e2]; exact this))
  have hstep:∀ x,x<(ns.map (·.c)).getD v 0→zqy (fun v=>(ns.map (·.c)).getD v 0) rest (upd s v x) (wtO ns os)=(wtO ns pre s * g ^ rest.length)* (zfS (ns.map (·.c)) v (ns.getD v zgA)).val (upd s v x):=by
   intro x hx;rw[zpr h ht rest (pre ++ [v]) (upd s v x) (by rw[qba]; exact e) fun u hu=>?_,zjQ,zkF,hpre,Nat.mul_right_comm];rcases qbB.1 hu with h1 | h1
   ·rw[zfV (u:=u) (v:=v) fun e2=>hvp (by rw[← e2]; exact h1)]; exact hs u h1
   rw[qa3.1 h1,zd2]; exact hx
  show zdc ((ns.map (·.c)).getD v 0) (fun x=>zqy (fun v=>(ns.map (·.c)).getD v 0) rest (upd s v x) (wtO ns os))=_;rw[zcT hstep,zo4,zwW h hvn fun p hp=>hs p (hpar p hp),qaE,qcB,qaZ]
theorem zw2{g:Nat}{ns:List NN}(h:RightN g ns)(s:Nat→Nat):zdc (zac (ns.map (·.c))) (fun w=>wtO ns (List.range ns.length) (ze4 (List.range ns.length) (dig (ns.map (·.c)) w) s))=g ^ ns.length:=by
 obtain⟨os,ht⟩:=h.zBO;have e:(List.range ns.length).map (fun v=>(ns.map (·.c)).getD v 0)=ns.map (·.c):=by
  have:=zhQ (ns.map (·.c));rw[qaB]at this;exact this
 have k:=zsy (k:=fun v=>(ns.map (·.c)).getD v 0) (G:=wtO ns (List.range ns.length)) (List.range ns.length) s;rw[e]at k;have hw:wtO ns (List.range ns.length)=wtO ns os:=by
  funext t
  exact zpL (ht.all.symm.map _)
 rw[k,zsP ht.all.symm qcr,hw,zpr h ht os [] s rfl (fun u hu=>by simp at hu),show wtO ns [] s=1 from rfl,qbf,ht.all.length_eq,qcV]
end Go.Dc
