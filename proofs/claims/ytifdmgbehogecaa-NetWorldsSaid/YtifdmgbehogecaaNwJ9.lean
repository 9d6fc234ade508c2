/-
 Plain laws: the values of a world. Conditions: none.
-/
import Derived.Test.YtifdmgbehogecaaNwJ8
set_option linter.unusedSimpArgs false
set_option linter.unusedVariables false
namespace Go.Dc
open Go Go.Mx Go.Lx
def zeG:List Nat→Nat→List Nat
 | [],_=>[]
 | c :: cs,w=>(w / zam cs):: zeG cs (w % zam cs)
theorem zfq:∀(cs:List Nat) (w:Nat),(zeG cs w).length=cs.length
 | [],_=>rfl
 | c :: cs,w=>by simp[zeG,zfq cs]
theorem zfe(c:Nat)(cs:List Nat):zam (c :: cs)=c * zam cs:=rfl
theorem zmc:∀ {cs:List Nat} {w:Nat},w<zam cs→∀(i:Nat) (h:i<cs.length),(zeG cs w).getD i 0<cs[i]
 | [],_,_,i,h=>absurd h (qak _)
 | c :: cs,w,hw,i,h=>by
  rw[zfe]at hw;have hp:0<zam cs:=Nat.pos_of_ne_zero fun h0=>by rw[h0,Nat.mul_zero]at hw; omega
  cases i with
  | zero=>
   show w / zam cs<c;exact(qce hp).2 hw
  | succ i=>
   show(zeG cs (w % zam cs)).getD i 0<cs[i]'(by simpa using h);exact zmc (qbF _ hp) i (by simpa using h)
theorem zkI:∀ {cs:List Nat} {c w:Nat},w<zam (cs ++ [c])→zeG (cs ++ [c]) w=zeG cs (w / c)++ [w % c]
 | [],c,w,h=>by
  have hw:w<c:=by simpa [zam]using h
  simp[zeG,zam,qbi hw]
 | x :: cs,c,w,h=>by
  rw[qbA,zfe]at h;have hp:0<zam (cs ++ [c]):=Nat.pos_of_ne_zero fun h0=>by rw[h0,Nat.mul_zero]at h; omega
  have ih:=zkI (cs:=cs) (c:=c) (qbF w hp);have e:=zcY cs c;show(w / zam (cs ++ [c])):: zeG (cs ++ [c]) (w % zam (cs ++ [c]))=((w / c) / zam cs)::(zeG cs ((w / c) % zam cs)++ [w % c]);rw[ih,e,Nat.div_div_eq_div_mul,qbL c (zam cs)];congr 2
  ·congr 1
   rw[qbL (zam cs) c,Nat.mod_mul_right_div_self]
  rw[Nat.mod_mul_left_mod]
def plc:Nat→List Nat→List (Int×Int)
 | _,[]=>[]
 | p,v :: vs=>((p:Int),(v:Int)):: plc (p+1) vs
theorem zlQ{a b:Nat}(hb:0<b)(ha:a<9223372036854775808):zm6 .i64 (a:Int) (b:Int)=some ((a / b:Nat):Int):=by
 unfold zm6;rw[show((b:Int)== 0)=false by rw[beq_eq_false_iff_ne]; omega,cond_false,show((a:Int).tdiv (b:Int))=((a / b:Nat):Int)from rfl];congr 1
 have:a / b≤a:=Nat.div_le_self a b;exact zaJ (by omega)
theorem zpe:∀ {cs:List Nat} {w p:Nat},(∀ c∈cs,1≤c)→w<zam cs→zam cs≤65536→zre (iL cs) ((zam cs:Nat):Int) (w:Int) p=some (plc p (zeG cs w))
 | [],_,_,_,_,_=>rfl
 | c :: cs,w,p,hc,hw,hb=>by
  rw[zfe]at hw hb;have hc1:=hc c qat;have hp:1≤zam cs:=zdF fun x hx=>hc x (qar _ hx)
  have hle:zam cs≤c * zam cs:=Nat.le_mul_of_pos_left _ hc1;have e:c * zam cs / c=zam cs:=Nat.mul_div_cancel_left _ hc1;show zre ((c:Int):: iL cs) ((c * zam cs:Nat):Int) (w:Int) p=_;unfold zre;rw[zlQ hc1 (by omega),qaa,e,zlQ hp (by omega),qaa,zji hp,qaa,zpe (fun x hx=>hc x (qar _ hx)) (qbF _ hp) (by omega)];rfl
theorem zlt{n:Nat}:∀(vs pre:List Nat),pre.length+vs.length≤1000→zaz n (plc pre.length vs) (iL (pre ++ List.replicate vs.length 0))=some (iL (pre ++ vs))
 | [],pre,_=>by simp[plc,zaz]
 | v :: vs,pre,h=>by
  have ih:=zlt (n:=n) vs (pre ++ [v]) (by simp at h ⊢; omega);rw[show(pre ++ [v]).length=pre.length+1 by simp,show pre ++ [v]++ List.replicate vs.length 0=pre ++ v :: List.replicate vs.length 0 by simp,show pre ++ [v]++ vs=pre ++ v :: vs by simp]at ih;show zaz n (((pre.length:Int),(v:Int)):: plc (pre.length+1) vs) _=_;unfold zaz;rw[qaM,qa2,zbR,qaa,zd4,qaa,ih]
structure CsOk (cs:List Nat):Prop where
 len:cs.length≤8
 card:∀ c∈cs,1≤c∧c≤4
 prod:zam cs≤1024
theorem zpj{cs:List Nat}(h:CsOk cs):∀(n:Nat) (xs ys:List Nat),xs ++ ys=cs→ys.length<n→zbA (iL cs) n ((zam xs:Nat):Int) (xs.length:Int)=some (((zam cs:Nat):Int),true)
 | 0,_,_,_,h=>absurd h (qak _)
 | n+1,xs,[],h1,h3=>by
  rw[qaF]at h1;subst h1;unfold zbA;rw[zat,zaq,decide_eq_false (by omega),cond_false]
 | n+1,xs,y :: ys,h1,h3=>by
  have hl:=h.len;have hxn:xs.length<cs.length:=by rw[← h1]; simp
  have hy:cs[xs.length]=y:=by simp[← h1]
  have hyc:=h.card y (by rw[← h1]; simp)
  have hb:zam (xs ++ [y])≤65536:=zjr (fun c hc=>h.card c (by
   rw[← h1];rcases qbd.1 hc with hc | hc
   ·exact qbV _ hc
   rw[qa1.1 hc]; simp)) (by rw[← h1]at hl; simp at hl ⊢; omega)
  have hb2:zam (xs ++ [y])≤zam cs:=by
   have:∀(ys:List Nat),(∀ c∈ys,1≤c)→∀ xs,zam xs≤zam (xs ++ ys):=by
    intro ys;induction ys with
    | nil=>intro _ xs; simp
    | cons z zs ih=>
     intro hz xs;have h6:=ih (fun c hc=>hz c (qar _ hc)) (xs ++ [z]);rw[zcY]at h6;have h7:=hz z qat;have h8:zam xs≤zam xs * z:=qaV _ h7;rw[show xs ++ [z]++ zs=xs ++ z :: zs by simp]at h6;omega
   have:=this ys (fun c hc=>(h.card c (by rw[← h1]; simp[hc])).1) (xs ++ [y]);rw[show xs ++ [y]++ ys=cs by rw[← h1]; simp]at this;exact this
  have hp:=h.prod;have ih:=zpj h n (xs ++ [y]) ys (by rw[← h1]; simp) (by simp at h3; omega);rw[show(xs ++ [y]).length=xs.length+1 by simp,zcY]at ih;rw[zcY]at hb hb2;unfold zbA
  rw[zat,zaq,decide_eq_true hxn,cond_true,zbB hxn,hy,qaa,show decide ((y:Int)<1)=false from decide_eq_false (by omega),cond_false,show decide ((8:Int)<(y:Int))=false from decide_eq_false (by omega),cond_false,
   ← qa8,zaJ (by omega),show decide ((4096:Int)<((zam xs * y:Nat):Int))=false from decide_eq_false (by omega),qaa,cond_false,zan (by omega),ih]
theorem znd{cs:List Nat}(h:CsOk cs):zcN (iL cs)=some (((zam cs:Nat):Int),true):=by
 have hl:=h.len;have e:=zpj h (cs.length+2) [] cs rfl (by omega);rw[qaL,show((0:Nat):Int)=0 from rfl,show((zam []:Nat):Int)=1 from rfl]at e;unfold zcN;rw[zat,show decide ((12:Int)<((cs.length:Nat):Int))=false from decide_eq_false (by omega),cond_false,zay,e,qaa]
theorem zp8{cs:List Nat}(h:CsOk cs){w:Nat}(hw:w<zam cs):zbh (iL cs) (w:Int)=some (iL (zeG cs w),0):=by
 have hl:=h.len;have hp:=h.prod;have e:=zlt (n:=cs.length) (zeG cs w) [] (by rw[zfq]; simp; omega);rw[qa9,qa9,qaL,zfq]at e;have hz:List.replicate cs.length (0:Int)=iL (List.replicate cs.length 0):=by simp[iL]
 unfold zbh;rw[znd h,qaa];simp only[];rw[cond_true,show decide ((w:Int)<0)=false from decide_eq_false (by omega),cond_false,show decide (((zam cs:Nat):Int)≤(w:Int))=false from decide_eq_false (by omega),qaa,cond_false];unfold zd7;rw[qaa];unfold zbQ;rw[zat,zfQ (by omega),qaa];unfold ztt;have hs:ze3 (iL cs)=some ():=by
  unfold ze3;rw[if_pos (by rw[zat]; omega)]
 simp only[];rw[hs,qaa,zpe (fun c hc=>(h.card c hc).1) hw (by omega),qaa,hz,e,qaa,qaa]
theorem zoF{cs:List Nat}(h:CsOk cs){w:Int}(hw:w<0∨((zam cs:Nat):Int)≤w):zbh (iL cs) w=some ([],2):=by
 unfold zbh;rw[znd h,qaa];simp only[];rw[cond_true];by_cases c1:w<0
 ·rw[decide_eq_true c1,cond_true,qaa,cond_true]
 rw[decide_eq_false c1,cond_false,show decide (((zam cs:Nat):Int)≤w)=true from decide_eq_true (by omega),qaa,cond_true]
theorem zqs:∀(xs:List Nat) (n w:Nat) (ys D:List Nat),(∀ c∈xs,1≤c)→w<zam xs→zam xs≤65536→xs.length≤1000→xs.length<n →
  zbP (iL (xs ++ ys)) n (w:Int) ((xs.length:Int) - 1) (iL (List.replicate xs.length 0 ++ D))=some (iL (zeG xs w ++ D)):=by
 intro xs;induction h:xs.length generalizing xs with
 | zero=>
  intro n w ys D _ _ _ _ hn;have:xs=[]:=qao h;subst this;cases n with
  | zero=>exact absurd hn (qak _)
  | succ n=>
   unfold zbP;rw[show decide ((0:Int)≤((0:Nat):Int) - 1)=false by decide,cond_false];rfl
 | succ m ih=>
  intro n w ys D hc hw hb hl hn;obtain⟨zs,c,rfl⟩:∃ zs c,xs=zs ++ [c]:=by
   rcases List.eq_nil_or_concat xs with h0 | ⟨zs,c,h0⟩
   ·rw[h0]at h; cases h
   exact⟨zs,c,by rw[h0,List.concat_eq_append]⟩
  have hzl:zs.length=m:=by simpa using h
  have hc1:=hc c (by simp);have hdig:=zkI hw;rw[zcY]at hw hb;have hwz:w / c<zam zs:=(qce hc1).2 hw;have hbz:zam zs≤zam zs * c:=qaV _ hc1;cases n with
  | zero=>exact absurd hn (qak _)
  | succ n=>
   have e:=ih zs hzl n (w / c) (c :: ys) (w % c :: D) (fun x hx=>hc x (qbV _ hx)) hwz (by omega) (by omega) (by omega);unfold zbP;have hm:((m+1:Nat):Int) - 1=((zs.length:Nat):Int):=by omega
   rw[hm,show decide ((0:Int)≤((zs.length:Nat):Int))=true from decide_eq_true (by omega),cond_true,show zs ++ [c]++ ys=zs ++ c :: ys by simp,zbR,qaa,zji hc1,qaa];have hrep:List.replicate (m+1) 0 ++ D=List.replicate m 0 ++ 0 :: D:=by rw[List.replicate_succ']; simp
   have hrl:((zs.length:Nat):Int)=(((List.replicate m 0:List Nat).length:Nat):Int):=by simp[hzl]
   rw[hrep]
   rw[show zaF (iL (List.replicate m 0 ++ 0 :: D)) ((zs.length:Nat):Int)=some ((0:Nat):Int) by rw[hrl]; exact zbR,qaa,
    show zgt (iL (List.replicate m 0 ++ 0 :: D)) ((zs.length:Nat):Int) ((w % c:Nat):Int)=some (iL (List.replicate m 0 ++ (w % c):: D)) by rw[hrl]; exact zd4,qaa,zlQ hc1 (by omega),qaa,
    show w64 (((zs.length:Nat):Int) - 1)=(m:Int) - 1 by rw[zgN (by omega) (by omega)]; omega,e,hdig]
   simp
theorem zoC{cs:List Nat}(h:CsOk cs){w:Nat}(hw:w<zam cs):zdg (iL cs) (w:Int)=some (iL (zeG cs w)):=by
 have hl:=h.len;have hp:=h.prod;have e:=zqs cs (((cs.length:Int) - 1) - 0+2).toNat w [] [] (fun c hc=>(h.card c hc).1) hw (by omega) (by omega) (by omega);rw[qaF,qaF,qaF]at e;have hz:List.replicate cs.length (0:Int)=iL (List.replicate cs.length 0):=by simp[iL]
 unfold zdg;rw[zat,zfQ (by omega),qaa,hz,zgN (by omega) (by omega),e,qaa]
def zj7:Nat→List (Nat×Nat)→Nat
 | a,[]=>a
 | a,(c,v):: r=>zj7 (a * c+v) r
theorem zld:∀(l:List (Nat×Nat)) (a c v:Nat),zj7 a (l ++ [(c,v)])=zj7 a l * c+v
 | [],_,_,_=>rfl
 |(d,u):: l,a,c,v=>zld l (a * d+u) c v
theorem zmE:∀(l:List (Nat×Nat)) (a:Nat),(∀ x∈l,x.2<x.1)→zj7 a l<(a+1)* zam (l.map (·.1))∧a≤zj7 a l
 | [],a,_=>by simp[zj7,zam]
 |(c,v):: l,a,h=>by
  have h1:v<c:=h (c,v) qat;obtain⟨g1,g2⟩:=zmE l (a * c+v) fun x hx=>h x (qar _ hx)
  have h2:a * c+v+1≤(a+1)* c:=by rw[qaQ]; omega
  constructor
  ·refine qbg g1 ?_;rw[qaE,zfe,← qbB];exact qaz _ h2
  have:a≤a * c:=qaV _ (by omega);exact qav (by omega) g2
def cvs(cs ds ps:List Nat):List (Nat×Nat):=ps.map fun p=>(cs.getD p 0,ds.getD p 0)
theorem ztS:∀(xs:List (Nat×Nat)) (n a u:Nat) (ys zs:List Nat),(∀ x∈xs,x.2<x.1)→zj7 0 xs * u+a<9223372036854775808→zam (xs.map (·.1))* u≤65536→xs.length≤1000→xs.length<n →
  zcc (iL (xs.map (·.2)++ ys)) (iL (xs.map (·.1)++ zs)) n (a:Int) (u:Int) ((xs.length:Int) - 1)=some ((zj7 0 xs * u+a:Nat):Int):=by
 intro xs;induction h:xs.length generalizing xs with
 | zero=>
  intro n a u ys zs _ _ _ _ hn;have:xs=[]:=qao h;subst this;cases n with
  | zero=>exact absurd hn (qak _)
  | succ n=>
   unfold zcc;rw[show decide ((0:Int)≤((0:Nat):Int) - 1)=false by decide,cond_false];simp[zj7]
 | succ m ih=>
  intro n a u ys zs hc hb hu hl hn;obtain⟨ws,⟨c,v⟩,rfl⟩:∃ ws c,xs=ws ++ [c]:=by
   rcases List.eq_nil_or_concat xs with h0 | ⟨ws,c,h0⟩
   ·rw[h0]at h; cases h
   exact⟨ws,c,by rw[h0,List.concat_eq_append]⟩
  have hwl:ws.length=m:=by simpa using h
  have hcv:v<c:=hc (c,v) (by simp);have e0:zj7 0 (ws ++ [(c,v)])* u+a=zj7 0 ws * (u * c)+(a+v * u):=by
   rw[zld,qaQ,qbB,qbL c u]; omega
  rw[e0]at hb ⊢;have hu2:zam (ws.map (·.1))* (u * c)≤65536:=by
   have:zam ((ws ++ [(c,v)]).map (·.1))* u=zam (ws.map (·.1))* (u * c):=by
    rw[qbr,qaE,qbu,zcY,qbB,qbL c u]
   omega
  have hpos:1≤zam (ws.map (·.1)):=zdF fun x hx=>by
   obtain⟨y,hy,rfl⟩:=qaA.1 hx;have:=hc y (qbV _ hy);omega
  have huc:u * c≤65536:=qav (Nat.le_mul_of_pos_left _ hpos) hu2;have hvu:v * u≤u * c:=by rw[qbL]; exact Nat.mul_le_mul_left _ (by omega)
  cases n with
  | zero=>exact absurd hn (qak _)
  | succ n=>
   have e:=ih ws hwl n (a+v * u) (u * c) (v :: ys) (c :: zs) (fun x hx=>hc x (qbV _ hx)) hb hu2 (by omega) (by omega);have hm:((m+1:Nat):Int) - 1=((ws.length:Nat):Int):=by omega
   have g1:zaF (iL (ws.map (·.2)++ v :: ys)) ((ws.length:Nat):Int)=some (v:Int):=by
    rw[show((ws.length:Nat):Int)=(((ws.map (·.2)).length:Nat):Int) by simp]; exact zbR
   have g2:zaF (iL (ws.map (·.1)++ c :: zs)) ((ws.length:Nat):Int)=some (c:Int):=by
    rw[show((ws.length:Nat):Int)=(((ws.map (·.1)).length:Nat):Int) by simp]; exact zbR
   unfold zcc
   rw[hm,show decide ((0:Int)≤((ws.length:Nat):Int))=true from decide_eq_true (by omega),cond_true,
    show(ws ++ [(c,v)]).map (·.2)++ ys=ws.map (·.2)++ v :: ys by simp,show(ws ++ [(c,v)]).map (·.1)++ zs=ws.map (·.1)++ c :: zs by simp,g1,qaa,g2,qaa,
    ← qa8,← qa8,zaJ (by omega),← qcc,zaJ (by omega),zaJ (by omega),show w64 (((ws.length:Nat):Int) - 1)=(m:Int) - 1 by rw[zgN (by omega) (by omega)]; omega,e]
theorem zrY{xs:List (Nat×Nat)}(h:∀ x∈xs,x.2<x.1)(hb:zam (xs.map (·.1))≤65536)(hl:xs.length≤1000):zdQ (iL (xs.map (·.1))) (iL (xs.map (·.2)))=some ((zj7 0 xs:Nat):Int):=by
 obtain⟨g1,_⟩:=zmE xs 0 h;rw[qaX,qb0]at g1;have e:=ztS xs (((xs.length:Int) - 1) - 0+2).toNat 0 1 [] [] h (by omega) (by omega) hl (by omega);rw[qaF,qaF,Nat.mul_one,qbD,show((0:Nat):Int)=0 from rfl,show((1:Nat):Int)=1 from rfl]at e;unfold zdQ;rw[zat,qaD,zgN (by omega) (by omega),e,qaa]
theorem zkf{x:S_api_Node}{r1:S_net_network×Int}{r4:List Int×Int}{cs ds ps:List Nat}(h1:r1.1.cards=iL cs)(h4:r4.1=iL ds)(hx:x.parents=iL ps)(hp:∀ p∈ps,p<cs.length)(hd:ds.length=cs.length)(hl:ps.length≤8)
  (hlt:∀ p∈ps,ds.getD p 0<cs.getD p 0):∀(n i a:Nat),i≤ps.length→(a+1)* zam ((ps.drop i).map fun p=>cs.getD p 0)≤65536→ps.length - i<n →
  zck x r1 r4 n (a:Int) (i:Int)=some ((zj7 a (cvs cs ds (ps.drop i)):Nat):Int)
 | 0,_,_,_,_,h=>absurd h (qak _)
 | n+1,i,a,h2,h5,h3=>by
  unfold zck;rw[hx,zat,zaq];by_cases hi:i<ps.length
  ·have hdr:ps.drop i=ps[i]:: ps.drop (i+1):=qap hi;have hpi:=qan hi;have h6:=hp _ hpi;have h7:=hlt _ hpi;have h5':(a+1)* (cs.getD ps[i] 0 * zam ((ps.drop (i+1)).map fun p=>cs.getD p 0))≤65536:=by rw[hdr]at h5; exact h5
   rw[← qbB]at h5';have hq:1≤zam ((ps.drop (i+1)).map fun p=>cs.getD p 0):=zdF fun c hc=>by
    obtain⟨p,hpm,rfl⟩:=qaA.1 hc;have:=hlt p (qbU hpm);omega
   have hac:(a+1)* cs.getD ps[i] 0≤65536:=qav (qaV _ hq) h5';have hac2:a * cs.getD ps[i] 0+ds.getD ps[i] 0+1≤(a+1)* cs.getD ps[i] 0:=by rw[qaQ]; omega
   have ih:=zkf h1 h4 hx hp hd hl hlt n (i+1) (a * cs.getD ps[i] 0+ds.getD ps[i] 0) hi (qav (qaz _ hac2) h5') (by omega);rw[decide_eq_true hi,cond_true,zbB hi,qaa,h1,ziv h6,qaa,h4,ziv (by omega),qaa,← qa8,zaJ (by omega),← qcc,zaJ (by omega),zan (by omega),ih,hdr];rfl
  rw[decide_eq_false hi,cond_false,qaH (by omega)];rfl
theorem RightN.cs{g:Nat}{ns:List NN}(h:RightN g ns):CsOk (ns.map (·.c)):=by
 refine⟨by have:=h.n2; simpa using this,fun c hc=>?_,h.prod⟩;obtain⟨x,hx,rfl⟩:=qaA.1 hc;exact h.card x hx
theorem zoG{g w v:Nat}{ns:List NN}(h:RightN g ns)(hw:w<zam (ns.map (·.c)))(hv:v<ns.length):
  ∃(row:List Nat) (x:Nat),ns[v].rows[zj7 0 (cvs (ns.map (·.c)) (zeG (ns.map (·.c)) w) ns[v].ps)]? = some row∧row[(zeG (ns.map (·.c)) w).getD v 0]? = some x ∧
   ze9 (zb2 g ns) (v:Int) (iL (zeG (ns.map (·.c)) w))=some (iL row):=by
 have hvm:=qan hv;have hcs:=h.cs;have hcl:(ns.map (·.c)).length=ns.length:=by simp
 have hdl:=zfq (ns.map (·.c)) w;have hn:=h.n2;have hdlt:∀ p,p<ns.length→(zeG (ns.map (·.c)) w).getD p 0<(ns.map (·.c)).getD p 0:=fun p hp=>by
  have:=zmc hw p (by omega);rw[show(ns.map (·.c)).getD p 0=(ns.map (·.c))[p]'(by omega) by simp[hp]];exact this
 have hcv:∀ x∈cvs (ns.map (·.c)) (zeG (ns.map (·.c)) w) ns[v].ps,x.2<x.1:=fun x hx=>by
  obtain⟨p,hp,rfl⟩:=qaA.1 hx;exact hdlt p (h.lt _ hvm p hp)
 have h1:(cvs (ns.map (·.c)) (zeG (ns.map (·.c)) w) ns[v].ps).map (·.1)=ns[v].ps.map fun p=>(ns.map (·.c)).getD p 0:=by simp[cvs,qaZ]
 have h2:(cvs (ns.map (·.c)) (zeG (ns.map (·.c)) w) ns[v].ps).map (·.2)=ns[v].ps.map fun p=>(zeG (ns.map (·.c)) w).getD p 0:=by simp[cvs,qaZ]
 have hlt:=(zmE _ 0 hcv).1;rw[qaX,qb0,h1]at hlt;have hrows:=h.rows _ hvm;have hil:zj7 0 (cvs (ns.map (·.c)) (zeG (ns.map (·.c)) w) ns[v].ps)<ns[v].rows.length:=by rw[hrows.len]; exact hlt
 have hrow:=hrows.row _ (qan hil);have hxl:(zeG (ns.map (·.c)) w).getD v 0<ns[v].rows[zj7 0 (cvs (ns.map (·.c)) (zeG (ns.map (·.c)) w) ns[v].ps)].length:=by
  rw[hrow.1];have:=hdlt v hv;simpa [hv]using this
 refine⟨_,_,qae hil,qae hxl,?_⟩;have hpl:=h.zwq hvm;have hix:=zrY hcv (by rw[h1]; exact h.zt4 hvm) (by simp[cvs]; omega);rw[h1,h2]at hix;have hpd:Pl (iL (zeG (ns.map (·.c)) w)).length ns[v].ps:=fun p hp=>by rw[zat,hdl,hcl]; exact h.lt _ hvm p hp
 have hat:=ztd hpd hpl;have hat2:(ns[v].ps.map fun p=>(iL (zeG (ns.map (·.c)) w)).getD p 0)=iL (ns[v].ps.map fun p=>(zeG (ns.map (·.c)) w).getD p 0):=by
  simp only[zl2];simp only[iL,qcI,qaZ]
 rw[hat2]at hat;unfold ze9;rw[show zb2 g ns=⟨(g:Int),ns.map nd⟩from rfl];simp only[];rw[zcs hv,qaa,zvr hn hv (fun p hp=>h.lt _ hvm p hp) hpl,qaa,show(nd ns[v]).parents=iL ns[v].ps from rfl,hat,qaa];unfold zc4;rw[hix,qaa,show(nd ns[v]).rows=ns[v].rows.map iL from rfl,zaw (by simpa using hil),qaa];simp
theorem zkX{g w:Nat}{ns:List NN}{r1:S_net_network×Int}{r4:List Int×Int}(h:RightN g ns)(hw:w<zam (ns.map (·.c)))(h1:r1.1.cards=iL (ns.map (·.c)))(h0:r1.1.net=zb2 g ns)(h4:r4.1=iL (zeG (ns.map (·.c)) w)):
  ∀(n m v:Nat) (a:Int),v≤ns.length→ns.length - v<n→ns.length - v<m →
  ∃ W,zci r1 r4 n a (v:Int)=some W∧zch (zb2 g ns) (iL (zeG (ns.map (·.c)) w)) m a (v:Int)=some W
 | 0,_,_,_,_,h,_=>absurd h (qak _)
 | _,0,_,_,_,_,h=>absurd h (qak _)
 | n+1,m+1,v,a,h2,h3,h5=>by
  unfold zci zch;have hnl:(zb2 g ns).nodes.length=ns.length:=by simp[zb2]
  have hn:=h.n2;have hcl:(ns.map (·.c)).length=ns.length:=by simp
  have hdl:=zfq (ns.map (·.c)) w;rw[h0,hnl,zaq];by_cases hv:v<ns.length
  ·obtain⟨row,x,q1,q2,q3⟩:=zoG h hw hv;have hvm:=qan hv;have hpl:=h.zwq hvm;have hdlt:∀ p,p<ns.length→(zeG (ns.map (·.c)) w).getD p 0<(ns.map (·.c)).getD p 0:=fun p hp=>by
    have:=zmc hw p (by omega);rw[show(ns.map (·.c)).getD p 0=(ns.map (·.c))[p]'(by omega) by simp[hp]];exact this
   have e:=zkf (x:=nd ns[v]) (r1:=r1) (r4:=r4) h1 h4 rfl (fun p hp=>by rw[hcl]; exact h.lt _ hvm p hp) hdl hpl (fun p hp=>hdlt p (h.lt _ hvm p hp)) (ns[v].ps.length+2) 0 0 (qau _)
    (by rw[qa4]; have:=h.zt4 hvm; omega) (by omega)
   rw[show((0:Nat):Int)=0 from rfl,qa4]at e;obtain⟨i,hi⟩:∃ i,zj7 0 (cvs (ns.map (·.c)) (zeG (ns.map (·.c)) w) ns[v].ps)=i:=⟨_,rfl⟩;rw[hi]at q1 e;obtain⟨W,g1,g2⟩:=zkX h hw h1 h0 h4 n m (v+1) (w64 (a * (x:Int))) hv (by omega) (by omega);have hrow:zaF (ns[v].rows.map iL) (i:Int)=some (iL row):=by
    obtain⟨hil,hir⟩:=qac.1 q1;rw[zaw (by simpa using hil)];simp[hir]
   have hx:zaF (iL row) (((zeG (ns.map (·.c)) w).getD v 0:Nat):Int)=some (x:Int):=by
    obtain⟨hil,hir⟩:=qac.1 q2;rw[zbB hil,hir]
   refine⟨W,?_,?_⟩
   ·rw[decide_eq_true hv,cond_true,show zaF (zb2 g ns).nodes (v:Int)=some (nd ns[v])from zcs hv,qaa,show(nd ns[v]).parents.length=ns[v].ps.length by simp[nd,zat],zay,e,qaa,
     show(nd ns[v]).rows=ns[v].rows.map iL from rfl,hrow,qaa,h4,ziv (by omega),qaa,hx,qaa,zan (by omega),g1]
   rw[decide_eq_true hv,cond_true,ziv (by omega),qaa,q3,qaa,hx,qaa,zan (by omega),g2]
  exact⟨a,by rw[decide_eq_false hv,cond_false],by rw[decide_eq_false hv,cond_false]⟩
theorem zkk{g:Nat}{ns:List NN}(h:RightN g ns):zb9 (zb2 g ns)=some (iL (ns.map (·.c))):=by
 have hn:=h.n2;rw[zjz (by simpa [zb2]using hn)];simp[zb2,nd,iL,qaZ]
theorem zrC{g w:Nat}{ns:List NN}(h:RightN g ns)(hw:w<zam (ns.map (·.c))):∃(vs:List Int) (W:Int),vs.length≤1000 ∧
  zbw (zb2 g ns) (w:Int)=some (vs,0)∧zcb (zb2 g ns) (w:Int)=some vs∧zbv (zb2 g ns) (w:Int)=some (W,0)∧zdd (zb2 g ns) (w:Int)=some W:=by
 obtain⟨os,_,_,e2⟩:=zmm h;have hv:=zp8 h.cs hw;have hrv:=zoC h.cs hw;have hn:=h.n2;have hnl:(zb2 g ns).nodes.length=ns.length:=by simp[zb2]
 obtain⟨W,g1,g2⟩:=zkX (r1:=(⟨zb2 g ns,iL (ns.map (·.c)),iL (zax ns),iL os⟩,0)) (r4:=(iL (zeG (ns.map (·.c)) w),0)) h hw rfl rfl rfl (ns.length+2) (ns.length+2) 0 1 (qau _) (by omega) (by omega);rw[show((0:Nat):Int)=0 from rfl]at g1 g2;have hR:zcb (zb2 g ns) (w:Int)=some (iL (zeG (ns.map (·.c)) w)):=by
  unfold zcb;rw[zkk h,qaa,hrv,qaa]
 refine⟨iL (zeG (ns.map (·.c)) w),W,by rw[zat,zfq,qaD]; omega,?_,hR,?_,?_⟩
 ·unfold zbw;rw[e2,qaa];simp only[];rw[show((0:Int)== 0)=true from rfl,cond_true,hv,qaa]
 ·unfold zbv;rw[e2,qaa];simp only[];rw[show((0:Int)== 0)=true from rfl,cond_true,hv,qaa];simp only[];rw[show((0:Int)== 0)=true from rfl,cond_true,hnl,zay,g1,qaa]
 unfold zdd;rw[hR,qaa,hnl,zay,g2,qaa]
theorem zpI{g:Nat}{ns:List NN}{w:Int}(h:RightN g ns)(hw:w<0∨((zam (ns.map (·.c)):Nat):Int)≤w):zbw (zb2 g ns) w=some ([],2)∧zbv (zb2 g ns) w=some (0,2):=by
 obtain⟨os,_,_,e2⟩:=zmm h;have hv:=zoF h.cs hw;constructor
 ·unfold zbw;rw[e2,qaa];simp only[];rw[show((0:Int)== 0)=true from rfl,cond_true,hv,qaa]
 unfold zbv;rw[e2,qaa];simp only[];rw[show((0:Int)== 0)=true from rfl,cond_true,hv,qaa];simp only[];rw[show((2:Int)== 0)=false from rfl,cond_false]
theorem zqB{g:Nat}{ns:List NN}(h:RightN g ns):zdj (zb2 g ns)=some ((zam (ns.map (·.c)):Nat):Int):=by
 have hcs:=h.cs;unfold zdj;rw[zkk h,qaa,zl0 (fun x hx=>(hcs.card x hx).1) hcs.len (by have:=hcs.prod; omega),qaa]
theorem zsR{g:Nat}{ns:List NN}{e:List Int}{r1:S_net_network×Int}(hc:r1.1.cards=iL (ns.map (·.c)))(hl:e.length=ns.length)(hn:ns.length≤8):∀(n m i:Nat),i≤e.length→e.length - i<n→e.length - i<m →
  (zaM e r1 n (i:Int)=some (.go ())∧zbm e (zb2 g ns) m (i:Int)=some (.go ()))∨
  (zaM e r1 n (i:Int)=some (.ret 2)∧zbm e (zb2 g ns) m (i:Int)=some (.ret false))
 | 0,_,_,_,h,_=>absurd h (qak _)
 | _,0,_,_,_,h=>absurd h (qak _)
 | n+1,m+1,i,h1,h3,h5=>by
  unfold zaM zbm;rw[zaq];by_cases hi:i<e.length
  ·obtain⟨x,hx⟩:∃ x,e[i]=x:=⟨_,rfl⟩;have hin:i<ns.length:=by omega
   rw[decide_eq_true hi,cond_true,cond_true,zaw hi,qaa,qaa,hx];by_cases c1:x < -1
   ·rw[decide_eq_true c1,cond_true,cond_true,qaa,qaa,cond_true,cond_true];exact .inr ⟨rfl,rfl⟩
   have hg:zaF (iL (ns.map (·.c))) (i:Int)=some ((ns[i].c:Nat):Int):=by rw[zbB (by simpa using hin)]; simp
   rw[decide_eq_false c1,cond_false,cond_false,hc,hg,show zaF (zb2 g ns).nodes (i:Int)=some (nd ns[i])from zcs hin];simp only[qaa,show(nd ns[i]).card=((ns[i].c:Nat):Int)from rfl];by_cases c2:((ns[i].c:Nat):Int)≤x
   ·rw[decide_eq_true c2,cond_true,cond_true];exact .inr ⟨rfl,rfl⟩
   rw[decide_eq_false c2,cond_false,cond_false,zan (by omega)];exact zsR hc hl hn n m (i+1) hi (by omega) (by omega)
  rw[decide_eq_false hi,cond_false,cond_false];exact .inl ⟨rfl,rfl⟩
theorem ztp{g:Nat}{ns:List NN}(h:RightN g ns)(e:List Int):∃ b:Bool,zcu (zb2 g ns) e=some b∧zaR (zb2 g ns) e=some (bif b then 0 else 2):=by
 obtain⟨os,_,_,e2⟩:=zmm h;have hn:=h.n2;have hnl:(zb2 g ns).nodes.length=ns.length:=by simp[zb2]
 unfold zcu zaR;rw[e2,qaa];simp only[];rw[show((0:Int)== 0)=true from rfl,cond_true,hnl];by_cases hl:e.length=ns.length
 ·rw[show(((e.length:Nat):Int)==((ns.length:Nat):Int))=true by rw[hl]; simp,cond_true,cond_true,zay];rcases zsR (g:=g) (e:=e) (r1:=(⟨zb2 g ns,iL (ns.map (·.c)),iL (zax ns),iL os⟩,0)) rfl hl hn (e.length+2) (e.length+2) 0 (qau _) (by omega) (by omega)with⟨g1,g2⟩| ⟨g1,g2⟩
  ·rw[show((0:Nat):Int)=0 from rfl]at g1 g2;rw[g1,g2,qaa,qaa];exact⟨true,rfl,rfl⟩
  rw[show((0:Nat):Int)=0 from rfl]at g1 g2;rw[g1,g2,qaa,qaa];exact⟨false,rfl,rfl⟩
 rw[show(((e.length:Nat):Int)==((ns.length:Nat):Int))=false by rw[beq_eq_false_iff_ne]; omega,cond_false,cond_false];exact⟨false,rfl,rfl⟩
theorem zx9{a:Int}{v:Nat}:∃ q,zi2 .u8 a (v:Int)=some q:=zm2 .u8 a
theorem zo8{ns:List NN}{g:Nat}{k:S_haruspexref05_Known}(hn:ns.length≤8)(hc:∀ x∈ns,1≤x.c):∀(n i:Nat) (acc:List Int),i≤ns.length→acc.length≤i→ns.length - i<n→∃ out,zbG (zb2 g ns) k n (i:Int) acc=some out
 | 0,_,_,_,_,h=>absurd h (qak _)
 | n+1,i,acc,h1,h2,h3=>by
  unfold zbG;have hnl:(zb2 g ns).nodes.length=ns.length:=by simp[zb2]
  rw[hnl,zaq];by_cases hi:i<ns.length
  ·obtain⟨q,hq⟩:=zx9 (a:=k.which) (v:=i);rw[decide_eq_true hi,cond_true,zt3 (by omega),hq,qaa];have key:∃ y:Int,((bif ((zlo .u8 q 1)== 1)then((zaF [k.v.a0,k.v.a1,k.v.a2,k.v.a3,k.v.a4,k.v.a5,k.v.a6,k.v.a7] (i:Int)).bind fun x5=>(zaF (zb2 g ns).nodes (i:Int)).bind fun x7=>(zj6 (w64 x5) x7.card).bind fun q9=>some q9)else some (-1)):Option Int)=some y:=by
    cases(zlo .u8 q 1)== 1 with
    | false=>exact⟨-1,rfl⟩
    | true=>
     obtain⟨x5,h5⟩:∃ x,zaF [k.v.a0,k.v.a1,k.v.a2,k.v.a3,k.v.a4,k.v.a5,k.v.a6,k.v.a7] (i:Int)=some x:=⟨_,zaw (by simp; omega)⟩;have hcx:=hc _ (qan hi);refine⟨(w64 x5).tmod ((ns[i].c:Nat):Int),?_⟩;rw[cond_true,h5,qaa,show zaF (zb2 g ns).nodes (i:Int)=some (nd ns[i])from zcs hi,qaa,show(nd ns[i]).card=((ns[i].c:Nat):Int)from rfl];unfold zj6;rw[show((((ns[i].c:Nat):Int))== 0)=false by rw[beq_eq_false_iff_ne]; omega,cond_false,qaa]
   obtain⟨y,hy⟩:=key;obtain⟨out,ho⟩:=zo8 (g:=g) (k:=k) hn hc n (i+1) (acc ++ [y]) hi (by simp; omega) (by omega);refine⟨out,?_⟩;rw[hy,qaa,zdN (by simp; omega),qaa,zan (by omega),ho]
  exact⟨acc,by rw[decide_eq_false hi,cond_false]⟩
theorem zsn{ns:List NN}{g:Nat}{k:S_haruspexref05_Known}(hn:ns.length≤8)(hc:∀ x∈ns,1≤x.c):∃ out,zcv k (zb2 g ns)=some out:=by
 obtain⟨out,e⟩:=zo8 (g:=g) (k:=k) hn hc (ns.length+2) 0 [] (qau _) (qau _) (by omega);refine⟨out,?_⟩;rw[show((0:Nat):Int)=0 from rfl]at e;unfold zcv;rw[show(zb2 g ns).nodes.length=ns.length by simp[zb2],zay,e,qaa]
theorem zvv(W:Int):zdl W 0 0 W=some true:=by
 unfold zdl;rw[show((0:Int)== 0)=true from rfl,cond_true,beq_self_eq_true,cond_true];rfl
theorem zkS{g:Nat}{ns:List NN}{p3 q:Int}(h:RightN g ns):∀(n i:Nat),i≤2→2 - i<n→za1 p3 q ((zam (ns.map (·.c)):Nat):Int) (zb2 g ns) n true (i:Int)=some (.go true)
 | 0,_,_,h=>absurd h (qak _)
 | n+1,i,h1,h3=>by
  have t0:((0:Int)== 0)=true:=rfl;have t2:((2:Int)== 0)=false:=rfl;have t22:((2:Int)== 2)=true:=rfl;unfold za1;by_cases hi:i<2
  ·obtain⟨x,hx⟩:∃ x,zaF [p3,q] (i:Int)=some x:=⟨_,zaw (by simpa using hi)⟩;have ih:=zkS (p3:=p3) (q:=q) h n (i+1) (by omega) (by omega);rw[show decide ((i:Int)<2)=true from decide_eq_true (by omega),cond_true,hx,qaa,zan (by omega),cond_true];by_cases c1:x<0∨((zam (ns.map (·.c)):Nat):Int)≤x
   ·obtain⟨k1,k2⟩:=zpI h c1;have hc:(bif decide (x<0)then some true else some (decide (((zam (ns.map (·.c)):Nat):Int)≤x)):Option Bool)=some true:=by
     by_cases c2:x<0
     ·rw[decide_eq_true c2,cond_true]
     rw[decide_eq_false c2,cond_false,decide_eq_true (by omega)]
    rw[hc,qaa,cond_true,qaa];simp only[k1,k2,qaa,t2,cond_false,qaL,Int.natCast_zero,Int.ofNat_zero,t0,cond_true,t22,qaW];exact ih
   obtain⟨w,rfl⟩:∃ w:Nat,x=(w:Int):=⟨x.toNat,by omega⟩;obtain⟨vs,W,k0,k1,k2,k3,k4⟩:=zrC h (w:=w) (by omega);rw[show decide ((w:Int)<0)=false from decide_eq_false (by omega),cond_false,show decide (((zam (ns.map (·.c)):Nat):Int)≤(w:Int))=false from decide_eq_false (by omega),qaa,cond_false,qaa];simp only[k1,k2,k3,k4,qaa,t0,cond_true,ztX k0,zvv,qaW,cond_false];exact ih
  rw[show decide ((i:Int)<2)=false from decide_eq_false (by omega),cond_false]
theorem zkz{g:Nat}{ns:List NN}{a b:List Int}(h:RightN g ns):∀(n i:Nat),i≤2→2 - i<n→za0 a b (zb2 g ns) n true (i:Int)=some (.go ())
 | 0,_,_,h=>absurd h (qak _)
 | n+1,i,h1,h3=>by
  unfold za0;by_cases hi:i<2
  ·obtain⟨x,hx⟩:∃ x,zaF [a,b] (i:Int)=some x:=⟨_,zaw (by simpa using hi)⟩;have ih:=zkz (a:=a) (b:=b) h n (i+1) (by omega) (by omega);obtain⟨r,k1,k2⟩:=ztp h x;rw[show decide ((i:Int)<2)=true from decide_eq_true (by omega),cond_true,hx,qaa,zan (by omega),cond_true,k1,qaa];cases r with
   | true=>
    simp only[k2,cond_true,qaa,show((0:Int)== 0)=true from rfl];exact ih
   | false=>
    simp only[k2,cond_false,cond_true,qaa,show((2:Int)== 2)=true from rfl];exact ih
  rw[show decide ((i:Int)<2)=false from decide_eq_false (by omega),cond_false]
theorem ziN{d:S_api_Net}{p3 q v:Int}(h:zaO d=some (zmB,50)):∀(n i:Nat),i≤2→2 - i<n→za1 p3 q v d n false (i:Int)=some (.go false)
 | 0,_,_,h=>absurd h (qak _)
 | n+1,i,h1,h3=>by
  have t50:((50:Int)== 0)=false:=rfl;have t55:((50:Int)== 50)=true:=rfl;have t0:((0:Int)== 0)=true:=rfl;unfold za1;by_cases hi:i<2
  ·obtain⟨x,hx⟩:∃ x,zaF [p3,q] (i:Int)=some x:=⟨_,zaw (by simpa using hi)⟩;have ih:=ziN (p3:=p3) (q:=q) (v:=v) h n (i+1) (by omega) (by omega);have k1:zbw d x=some ([],50):=by unfold zbw; rw[h,qaa]; simp only[]; rw[t50,cond_false]
   have k2:zbv d x=some (0,50):=by unfold zbv; rw[h,qaa]; simp only[]; rw[t50,cond_false]
   rw[show decide ((i:Int)<2)=true from decide_eq_true (by omega),cond_true,hx,qaa,zan (by omega),cond_false,qaa];simp only[k1,k2,qaa,t50,cond_false,qaL,Int.natCast_zero,Int.ofNat_zero,t0,cond_true,t55,qaW];exact ih
  rw[show decide ((i:Int)<2)=false from decide_eq_false (by omega),cond_false]
theorem zif{d:S_api_Net}{a b:List Int}(h:zaO d=some (zmB,50)):∀(n i:Nat),i≤2→2 - i<n→za0 a b d n false (i:Int)=some (.go ())
 | 0,_,_,h=>absurd h (qak _)
 | n+1,i,h1,h3=>by
  have t50:((50:Int)== 0)=false:=rfl;unfold za0;by_cases hi:i<2
  ·obtain⟨x,hx⟩:∃ x,zaF [a,b] (i:Int)=some x:=⟨_,zaw (by simpa using hi)⟩;have ih:=zif (a:=a) (b:=b) h n (i+1) (by omega) (by omega);have k1:zaR d x=some 50:=by unfold zaR; rw[h,qaa]; simp only[]; rw[t50,cond_false]
   rw[show decide ((i:Int)<2)=true from decide_eq_true (by omega),cond_true,hx,qaa,zan (by omega),cond_false,qaa];simp only[k1,qaa,show((50:Int)== 50)=true from rfl,cond_true];exact ih
  rw[show decide ((i:Int)<2)=false from decide_eq_false (by omega),cond_false]
theorem zkT{N:Nat}{r4:A3_S_api_Net}{p4 p3:Int}{p5:List Int}{dr:DraftN}{p6:S_haruspexref05_Known}(hN:1025≤N)(hd:DraftOk dr)(h0:Bnd r4.a0)(h1:Bnd r4.a1)(h2:Bnd r4.a2):∀(n i:Nat),i≤3→3 - i<n →
  zbt N r4 p4 p3 p5 (zcn dr) p6 n (i:Int)=some (.go ())
 | 0,_,_,h=>absurd h (qak _)
 | n+1,i,h4,h3=>by
  unfold zbt;by_cases hi:i<3
  ·obtain⟨d,hdb,hx⟩:∃ d,Bnd d∧zaF [r4.a0,r4.a1,r4.a2] (i:Int)=some d:=by
    have:i=0∨i=1∨i=2:=by omega
    rcases this with rfl | rfl | rfl
    ·exact⟨_,h0,rfl⟩
    ·exact⟨_,h1,rfl⟩
    exact⟨_,h2,rfl⟩
   have ih:=zkT (p4:=p4) (p3:=p3) (p5:=p5) (p6:=p6) hN hd h0 h1 h2 n (i+1) (by omega) (by omega);obtain⟨num,ns0,hok,hn5,e3⟩:=znt hd hN;obtain⟨kn,e4⟩:=zsn (g:=1+dr.grain % 60) (k:=p6) (ns:=ns0) (by omega) fun x hx=>(hok.card x hx).1
   obtain⟨y,e5,_,_⟩:=ze5 (xs:=p5) (k:=9);rw[show((9:Nat):Int)=9 from rfl]at e5;rw[show(⟨((1+dr.grain % 60:Nat):Int),ns0.map nd⟩:S_api_Net)=zb2 (1+dr.grain % 60) ns0 from rfl]at e3;have f4:(2 - 0+2:Int).toNat=4:=rfl;rw[show decide ((i:Int)<3)=true from decide_eq_true (by omega),cond_true,hx,qaa,zan (by omega),ih];rcases zpF hdb with⟨⟨g,ns,rfl,h⟩,hr⟩| ⟨hno,hr⟩
   ·have hp:1≤zam (ns.map (·.c)):=zdF fun c hc=>(h.cs.card c hc).1
    have hrem:zj6 (w64 p4) ((zam (ns.map (·.c)):Nat):Int)=some ((w64 p4).tmod ((zam (ns.map (·.c)):Nat):Int)):=by
     unfold zj6;rw[show((((zam (ns.map (·.c)):Nat):Int))== 0)=false by rw[beq_eq_false_iff_ne]; omega,cond_false]
    have hl2:=fun q=>zkS (p3:=p3) (q:=q) h 4 0 (by omega) (by omega)
    have hl3:=fun a b=>zkz (a:=a) (b:=b) h 4 0 (by omega) (by omega)
    rw[show((0:Nat):Int)=0 from rfl]at hl2 hl3;simp only[hr,qaa,cond_true,zqB h,hrem,f4,hl2,e5,e3,e4,hl3]
   rcases zue hdb with e | ⟨g,ns,rfl,h⟩
   ·have hrem:zj6 (w64 p4) 1=some ((w64 p4).tmod 1):=rfl;have hl2:=fun q=>ziN (p3:=p3) (q:=q) (v:=1) e 4 0 (by omega) (by omega)
    have hl3:=fun a b=>zif (a:=a) (b:=b) e 4 0 (by omega) (by omega)
    rw[show((0:Nat):Int)=0 from rfl]at hl2 hl3;simp only[hr,qaa,cond_false,hrem,f4,hl2,e5,e3,e4,hl3]
   exact absurd ⟨g,ns,rfl,h⟩ hno
  rw[show decide ((i:Int)<3)=false from decide_eq_false (by omega),cond_false]
theorem worlds_holds{raw:S_api_Net}{dr:DraftN}{b:S_haruspexref05_Bend}{p3 p4:Int}{p5:List Int}{p6:S_haruspexref05_Known}(hd:DraftOk dr)(hb:BendOk b):zcJ 1025 raw (zcn dr) b p3 p4 p5 p6=some true:=by
 obtain⟨r,e,h0,h1,h2⟩:=ztw (N:=1025) (raw:=raw) (qal _) hd hb;have e1:=zkT (p4:=p4) (p3:=p3) (p5:=p5) (p6:=p6) (N:=1025) (qal _) hd h0 h1 h2 5 0 (by omega) (by omega);rw[show((0:Nat):Int)=0 from rfl]at e1;unfold zcJ zlK;rw[qaa,cond_true,e,qaa,show(3 - 0+2:Int).toNat=5 from rfl,e1,qaa]
end Go.Dc
