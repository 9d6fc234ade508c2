/-
 Plain laws: the drawn net stands well. Conditions: none.
-/
import Derived.Test.YtbjogdohfhdaiaaCfJ6
set_option linter.unusedSimpArgs false
set_option linter.unusedVariables false
namespace Go.Dc
open Go Go.Mx Go.Lx
structure NodeOk (num:List Nat) (g:Nat) (cs:List Nat) (j:Nat) (x:NN):Prop where
 par:ParOk num j cs.length x.ps
 rows:RowsOk g x.c (zae (x.ps.map λp=>cs.getD p 0)) x.rows
structure NetOk (num:List Nat) (g:Nat) (ns:List NN):Prop where
 g1:1<=g
 g2:g<=60
 n1:1<=ns.length
 n2:ns.length<=8
 card:∀ x∈ns,1<=x.c/\x.c<=4
 prod:zae (ns.map (·.c))<=1024
 perm:PermOk ns.length num
 node:∀(j v:Nat) (x:NN),num[j]? = some v->ns[v]? = some x->NodeOk num g (ns.map (·.c)) j x
structure PieceN where
 card:Nat
 parents:Nat
 w:List Nat
structure DraftN where
 grain:Nat
 nodes:List PieceN
 order:List Nat
def zpv(x:PieceN):S_haruspexref05_Piece:=⟨x.card,x.parents,iL x.w⟩
def zcs(d:DraftN):S_haruspexref05_Draft:=⟨d.grain,d.nodes.map zpv,iL d.order⟩
structure DraftOk (d:DraftN):Prop where
 grain:d.grain<=255
 card:∀ x∈d.nodes,x.card<=255
 order:∀ x∈d.order,x<=255
def zlF(d:DraftN):Nat:=min (max d.nodes.length 1) 5
theorem znR(d:DraftN):zfN (zf8 ((zcs d).nodes.length:Int) 1) 5=((zlF d:Nat):Int):=by
 simp only[zfN,zf8,zlF,zcs,qaX];split<;>split<;>omega
def zmd(xs:List Nat):Nat:=xs.foldr (λx a=>max 1 x * a) 1
theorem zmX:∀ {xs:List Nat} {i c:Nat},xs[i]? = some 0->1<=c->zmd (xs.set i c)=zmd xs * c
 | [],i,c,h,hc=>by simp at h
 | x :: xs,0,c,h,hc=>by
  have:x=0:=by simpa using h
  subst this;simp only[qbK,zmd,qc7];rw[Nat.max_eq_right hc,Nat.max_eq_left (qaw _),qbS,qbx]
 | x :: xs,i+1,c,h,hc=>by
  have ih:=zmX (xs:=xs) (i:=i) (c:=c) (by simpa using h) hc;simp only[qbL,zmd,qc7]at ih ⊢;rw[ih,qbj]
theorem zpp:∀ {xs:List Nat},(∀ x∈xs,1<=x)->zmd xs=zae xs
 | [],_=>rfl
 | x :: xs,h=>by
  have ih:=zpp (xs:=xs) λy hy=>h y (qai _ hy)
  have hx:=h x qao;simp only[zmd,zae,qc7]at ih ⊢;rw[ih,Nat.max_eq_right hx]
variable{a v:Nat}
theorem zDp(h:a * 2 ^ v<9223372036854775808)(hv:v<64):zo9 .i64 (a:Int) (v:Int)=some ((a * 2 ^ v:Nat):Int):=by
 unfold zo9;rw[if_pos (qaF v)];congr 1
 have h1:min (v:Int).toNat IntKind.i64.bits=v:=by
  rw[show IntKind.i64.bits=64 from rfl,qaq]; exact qbd (by omega)
 rw[h1];have h2:(a:Int)* ((2:Int) ^ v)=((a * 2 ^ v:Nat):Int):=by simp
 rw[h2];exact zaF h
structure L1Ok (num:List Nat) (c j a:Nat) (ns:List NN):Prop where
 len:ns.length=c
 bare:∀ x∈ns,x.ps=[]/\x.rows=[]
 prod:zmd (ns.map (·.c))=a
 low:a * 2 ^ (c - j)<=100
 done:∀(k v:Nat),k<j->num[k]? = some v->∃ x,ns[v]? = some x/\2<=x.c/\x.c<=3
 left:∀(k v:Nat),j<=k->num[k]? = some v->∃ x,ns[v]? = some x/\x.c=0
theorem zlW{d:DraftN}(hd:DraftOk d){j:Nat}:∃(card parents:Nat) (w:List Nat),card<=255 /\
  ((bif (decide ((j:Int)<((zcs d).nodes.length:Int)))then(
(zaC (zcs d).nodes (j:Int)).bind λx9=>
some (x9.card,x9.parents,x9.w))
else(
some (0,0,[])):Option ((Int×Int×(List Int)))))=some ((card:Int),(parents:Int),iL w):=by
 have hl:(zcs d).nodes.length=d.nodes.length:=by simp[zcs]
 by_cases hj:j<d.nodes.length
 .refine⟨d.nodes[j].card,d.nodes[j].parents,d.nodes[j].w,hd.card _ (qas hj),?_⟩;rw[hl,zaq,qdn hj,qdl,zax (by rw[hl]; exact hj),qaa];simp[zcs,zpv]
 refine⟨0,0,[],by omega,?_⟩;rw[hl,zaq,qdo hj,qdm];rfl
theorem zxl{d:DraftN}(hd:DraftOk d){num:List Nat}{c:Nat}(hc:zlF d=c)(hp:PermOk c num):∀(n j a:Nat) (ns:List NN),L1Ok num c j a ns->j<=c->c - j<n ->
  ∃(ns':List NN) (a':Nat),L1Ok num c c a' ns'/\zbb (zcs d) (iL num) n (a:Int) (j:Int) (ns.map nd)=some (ns'.map nd)
 | 0,_,_,_,_,_,h=>absurd h (qan _)
 | n+1,j,a,ns,h1,h2,h3=>by
  have hc5:c<=5:=by rw[<- hc]; exact qcb _ _
  unfold zbb;rw[znR,hc];by_cases hj:j<c
  .rw[zaq,qdn hj,qdl];obtain⟨card,parents,w,hcard,e⟩:=zlW hd (j:=j);rw[e,qaa];simp only[];have hjn:j<num.length:=by rw[hp.len]; exact hj
   have hv:num[j]<ns.length:=by rw[h1.len]; exact hp.lt _ (qas hjn)
   obtain⟨x0,hx0,hx00⟩:=h1.left j num[j] (qap _) (qac hjn);have hx1:ns[num[j]]=x0:=by rw[qac hv]at hx0; exact qal hx0
   have hbare:=h1.bare _ (qas hv);have hpow:1<=2 ^ (c - 1 - j):=Nat.one_le_two_pow;have hsplit:2 ^ (c - j)=2 * 2 ^ (c - 1 - j):=by rw[show c - j=(c - 1 - j)+1 by omega,Nat.pow_succ,qbx]
   have hlow:=h1.low;have hle:a * 2 ^ (c - 1 - j)<=100:=qax (qcy a (by omega)) hlow;have ha:a<=100:=qax (qa7 a hpow) hle;have step:∀ b:Nat,2<=b->b<=3->a * b * 2 ^ (c - 1 - j)<=100->∃(ns':List NN) (a':Nat),L1Ok num c c a' ns' /\
     ((zaC (iL num) (j:Int)).bind λx14=>(zaC (ns.map nd) x14).bind λx16=>(zd2 (ns.map nd) x14 (S_api_Node.mk (b:Int) x16.parents x16.rows)).bind λy18=>
      zbb (zcs d) (iL num) n (w64 ((a:Int)* (b:Int))) (w64 ((j:Int)+1)) y18)=some (ns'.map nd):=by
    intro b hb1 hb2 hb3;have hab:a * b<=100:=qax (qa7 _ hpow) hb3
    obtain⟨ns',a',f1,f2⟩:=zxl hd hc hp n (j+1) (a * b) (ns.set num[j] ⟨b,ns[num[j]].ps,ns[num[j]].rows⟩) {
     len:=by simpa using h1.len
     bare:=λy hy=>by
      rcases qbg hy with hy | hy
      .exact h1.bare y hy
      subst hy; exact hbare
     prod:=by
      rw[qct,zmX (c:=b) (by rw[qaO,qac hv,hx1]; simp[hx00]) (by omega),h1.prod]
     low:=by rw[show c - (j+1)=c - 1 - j by omega]; exact hb3
     done:=λk v hk hkv=>by
      by_cases hkj:k=j
      .subst hkj;rw[qac hjn]at hkv;have:=qal hkv;subst this;exact⟨_,qaC hv,hb1,hb2⟩
      obtain⟨x,g1,g2⟩:=h1.done k v (by omega) hkv;refine⟨x,?_,g2⟩;rw[qar,g1];intro hh;have hk':=(qab.1 hkv);have hkl:k<num.length:=hk'.1;exact qbr.1 hp.nod k j hkl hjn (by omega) (by rw[hk'.2]; exact hh.symm)
     left:=λk v hk hkv=>by
      obtain⟨x,g1,g2⟩:=h1.left k v (by omega) hkv;refine⟨x,?_,g2⟩;rw[qar,g1];intro hh;have hk':=(qab.1 hkv);have hkl:k<num.length:=hk'.1
      exact qbr.1 hp.nod j k hjn hkl (by omega) (by rw[hk'.2]; exact hh) } hj (by omega)
    refine⟨ns',a',f1,?_⟩
    rw[zaz hjn,qaa,zcq hv,qaa,show S_api_Node.mk (b:Int) (nd ns[num[j]]).parents (nd ns[num[j]]).rows=nd ⟨b,ns[num[j]].ps,ns[num[j]].rows⟩from rfl,
     zgH hv,qaa,<- qa4,zaF (by omega),zak (by omega),f2]
   have hw1:w64 (2+w64 ((card:Int).tmod 2))=((2+card % 2:Nat):Int):=by
    rw[show((card:Int).tmod 2)=((card % 2:Nat):Int)from rfl,zaF (by omega),show(2:Int)+((card % 2:Nat):Int)=((2+card % 2:Nat):Int) by omega,zaF (by omega)]
   have hac:a * (2+card % 2)<=100 * 3:=qa9 ha (by omega);have hbig:a * (2+card % 2)* 2 ^ (c - 1 - j)<=300 * 2 ^ 4:=qa9 hac (qbu (by decide) (by omega));have hcc:w64 (((c:Nat):Int) - 1)=((c - 1:Nat):Int):=by rw[show((c:Nat):Int) - 1=((c - 1:Nat):Int) by omega,zaF (by omega)]
   have hcj:w64 (((c - 1:Nat):Int) - (j:Int))=((c - 1 - j:Nat):Int):=by rw[show((c - 1:Nat):Int) - (j:Int)=((c - 1 - j:Nat):Int) by omega,zaF (by omega)]
   rw[hw1,hcc,hcj,zbu (by omega),<- qa4,zaF (by omega),zDp (by omega) (by omega),qaa];by_cases hbg:100<a * (2+card % 2)* 2 ^ (c - 1 - j)
   .obtain⟨ns',a',f1,f2⟩:=step 2 (by omega) (by omega) (by rw[qbj,<- hsplit]; exact hlow);refine⟨ns',a',f1,?_⟩;rw[show decide ((100:Int)<((a * (2+card % 2)* 2 ^ (c - 1 - j):Nat):Int))=true from qdn (by omega),qdl,qaa];exact f2
   obtain⟨ns',a',f1,f2⟩:=step (2+card % 2) (by omega) (by omega) (by omega);refine⟨ns',a',f1,?_⟩;rw[show decide ((100:Int)<((a * (2+card % 2)* 2 ^ (c - 1 - j):Nat):Int))=false from qdo (by omega),qdm,qaa];exact f2
  have:j=c:=by omega
  subst this;exact⟨ns,a,h1,by rw[zaq,qdo hj,qdm]⟩
def zrv(i:Int):Int->List Int->Bool
 | _,[]=>true
 | b,a :: ar=>decide (b<a) && decide (a<i) && zrv i a ar
theorem zsp(g:S_api_Gate)(i:Int)(hl:g.args.length<4611686018427387904):∀(n k:Nat) (b:Int),k<=g.args.length->g.args.length - k<n ->
  zaZ g i n b (k:Int)=some (bif zrv i b (g.args.drop k)then .go ()else .ret false)
 | 0,_,_,_,h=>absurd h (qan _)
 | n+1,k,b,h1,h2=>by
  unfold zaZ;rw[zaq];by_cases hk:k<g.args.length
  .rw[qdn hk,qdl,zax hk,qaa,qat hk];simp only[zrv];by_cases h3:g.args[k]<=b
   .rw[qdn h3,qdl,qaa,qdl,qdo (show ¬ b<g.args[k] by omega)]; rfl
   rw[qdo h3,qdm,qaa,qdn (show b<g.args[k] by omega)];by_cases h4:i<=g.args[k]
   .rw[qdn h4,qdl,qdo (show ¬ g.args[k]<i by omega)]; rfl
   rw[qdo h4,qdm,qdn (show g.args[k]<i by omega),zak (by omega),zsp g i hl n (k+1) _ hk (by omega)]; rfl
  rw[qdo hk,qdm,qaD (by omega)]; rfl
def znM(cards:List Int)(i:Int)(g:S_api_Gate):Bool:=
 bif g.kind == 1 then decide (0<=g.n) && (decide (g.n<=4611686018427387903) && ((g.var == 0) && ((g.val == 0) && ((g.args.length:Int)== 0))))
 else bif g.kind == 2 then decide (0<=g.var) && (decide (g.var<(cards.length:Int)) && (decide (0<=g.val) && (decide (g.val<cards.getD g.var.toNat 0) && ((g.n == 0) && ((g.args.length:Int)== 0)))))
 else bif (g.kind == 3 || g.kind == 4)then(g.var == 0) && ((g.val == 0) && ((g.n == 0) && (!((g.args.length:Int)== 0) && zrv i (-1) g.args)))
 else false
theorem ztt{cards:List Int}{v:Int}(h1:0<=v)(h2:v<(cards.length:Int)):zaC cards v=some (cards.getD v.toNat 0):=by
 unfold zaC;rw[if_pos h1,qaj,qac (by omega)]; rfl
theorem zon(c:S_api_Circuit)(i:Int)(g:S_api_Gate)(hl:g.args.length<4611686018427387904):zbh c i g=some (znM c.cards i g):=by
 have hr:=zsp g i hl (g.args.length+2) 0 (-1) (qaw _) (by omega);unfold zbh znM;rw[zaJ];rw[show((0:Nat):Int)=0 from rfl,qa8]at hr;rw[hr];cases h1:(g.kind == 1)with
 | true=>
  simp only[qdl];cases decide (0<=g.n)<;> cases decide (g.n<=4611686018427387903)<;> cases(g.var == 0)<;> cases(g.val == 0)<;> rfl
 | false=>
  simp only[qdm];cases h2:(g.kind == 2)with
  | true=>
   simp only[qdl];by_cases h3:0<=g.var
   .by_cases h4:g.var<(c.cards.length:Int)
    .rw[ztt h3 h4];simp only[qaa];cases decide (0<=g.var)<;> cases decide (g.var<(c.cards.length:Int))<;> cases decide (0<=g.val)<;> cases decide (g.val<c.cards.getD g.var.toNat 0)<;> cases(g.n == 0)<;> rfl
    rw[qdo h4];cases decide (0<=g.var)<;> rfl
   .rw[qdo h3]; rfl
  | false=>
   simp only[qdm];cases(g.kind == 3)<;> cases(g.kind == 4)<;> cases(g.var == 0)<;> cases(g.val == 0)<;> cases(g.n == 0)<;> cases((g.args.length:Int)== 0)<;> cases zrv i (-1) g.args<;>rfl
def zxq(cs:List Int):Bool:=cs.all λc=>decide (1<=c) && decide (c<=4)
def prZ(cs:List Int):Int:=cs.foldr (· * ·) 1
theorem zzS{a b:Int}{k:Nat}(h1:1<=a)(h2:a<=(4:Int) ^ k)(h3:1<=b)(h4:b<=4)(hk:k<8):1<=a * b/\a * b<=(4:Int) ^ (k+1)/\a * b<=65536:=by
 have e1:a * b<=(4:Int) ^ k * 4:=Int.mul_le_mul h2 h4 (by omega) (Int.le_trans (by omega) h2);have e2:(4:Int) ^ k * 4=(4:Int) ^ (k+1):=(Int.pow_succ 4 k).symm;have e3:(1:Int)* 1<=a * b:=Int.mul_le_mul h1 h3 (by omega) (by omega);have e4:(4:Int) ^ (k+1)<=65536:=by
  have:k=0\/k=1\/k=2\/k=3\/k=4\/k=5\/k=6\/k=7:=by omega
  rcases this with rfl | rfl | rfl | rfl | rfl | rfl | rfl | rfl<;>decide
 rw[e2]at e1;exact⟨by omega,e1,by omega⟩
theorem zo2(c:S_api_Circuit)(hl:c.cards.length<=8):∀(n k:Nat) (a:Int),1<=a->a<=(4:Int) ^ k->k<=c.cards.length->c.cards.length - k<n ->
  zbp c n a (k:Int)=some (bif zxq (c.cards.drop k)then .go (a * prZ (c.cards.drop k))else .ret 150)
 | 0,_,_,_,_,_,h=>absurd h (qan _)
 | n+1,k,a,ha,hb,h1,h2=>by
  unfold zbp;rw[zaq];by_cases hk:k<c.cards.length
  .rw[qdn hk,qdl,zax hk,qaa,qat hk];unfold zxq prZ;rw[qb5,qc7];by_cases h3:c.cards[k]<1
   .rw[qdn h3,qdl,qaa,qdl,qdo (show ¬ 1<=c.cards[k] by omega)]; rfl
   rw[qdo h3,qdm,qaa,qdn (show 1<=c.cards[k] by omega)];by_cases h4:4<c.cards[k]
   .rw[qdn h4,qdl,qdo (show ¬ c.cards[k]<=4 by omega)]; rfl
   obtain⟨p1,p2,p3⟩:=zzS ha hb (show 1<=c.cards[k] by omega) (show c.cards[k]<=4 by omega) (by omega);rw[qdo h4,qdm,qdn (show c.cards[k]<=4 by omega),zak (by omega),zfV (by omega) (by omega),zo2 c hl n (k+1) _ p1 p2 hk (by omega)];rw[Int.mul_assoc]; rfl
  rw[qdo hk,qdm,qaD (by omega)];show some (Out.go a)=some (Out.go (a * 1));rw[Int.mul_one]
def zf0(cards:List Int):Int->List S_api_Gate->Bool
 | _,[]=>true
 | i,g :: gs=>znM cards i g && zf0 cards (i+1) gs
theorem zp9(c:S_api_Circuit)(hl:c.gates.length<=4000)(ha:∀ g∈c.gates,g.args.length<4611686018427387904):∀(n k:Nat),k<=c.gates.length->c.gates.length - k<n ->
  zbq c n (k:Int)=some (bif zf0 c.cards (k:Int) (c.gates.drop k)then .go ()else .ret 150)
 | 0,_,_,h=>absurd h (qan _)
 | n+1,k,h1,h2=>by
  unfold zbq;rw[zaq];by_cases hk:k<c.gates.length
  .rw[qdn hk,qdl,zax hk,qaa,zon _ _ _ (ha _ (qas hk)),qaa,qat hk];simp only[zf0];cases znM c.cards (k:Int) c.gates[k]with
   | false=>rfl
   | true=>rw[qdl,zak (by omega),zp9 c hl ha n (k+1) hk (by omega)]; rfl
  rw[qdo hk,qdm,qaD (by omega)]; rfl
def zwd(cs:List Int):Bool:=decide (1<=cs.length) && decide (cs.length<=8) && zxq cs && decide (prZ cs<=1024)
def ziN(c:S_api_Circuit):Bool:=zwd c.cards && (decide (1<=c.gates.length) && decide (c.gates.length<=4000)) && zf0 c.cards 0 c.gates
theorem zpz(c:S_api_Circuit)(ha:∀ g∈c.gates,g.args.length<4611686018427387904):zca c=some (bif ziN c then 0 else 150):=by
 unfold zca ziN zwd;by_cases h1:1<=c.cards.length
 .rw[qdo (show ¬ (c.cards.length:Int)<1 by omega),qdm,qdn h1];by_cases h2:c.cards.length<=8
  .rw[qdo (show ¬ 8<(c.cards.length:Int) by omega),qdm,qdn h2];have hr:=zo2 c h2 (c.cards.length+2) 0 1 (qbC _) (by decide) (qaw _) (by omega);rw[show((0:Nat):Int)=0 from rfl,qa8,Int.one_mul]at hr;by_cases h3:1<=c.gates.length
   .rw[qdo (show ¬ (c.gates.length:Int)<1 by omega),qdm,qaa,qdn h3];by_cases h4:c.gates.length<=4000
    .rw[qdo (show ¬ 4000<(c.gates.length:Int) by omega),qdm,zaJ,hr,qdn h4];cases zxq c.cards with
     | false=>rfl
     | true=>
      rw[qdl,qaa];simp only;by_cases h5:prZ c.cards<=1024
      .have hq:=zp9 c h4 ha (c.gates.length+2) 0 (qaw _) (by omega);rw[show((0:Nat):Int)=0 from rfl,qa8]at hq;rw[qdo (show ¬ 1024<prZ c.cards by omega),qdm,zaJ,hq,qdn h5];cases zf0 c.cards 0 c.gates<;>rfl
      rw[qdn (show 1024<prZ c.cards by omega),qdl,qdo h5]; rfl
    rw[qdn (show 4000<(c.gates.length:Int) by omega),qdl,qdo h4,qcf,qcf]; rfl
   rw[qdn (show(c.gates.length:Int)<1 by omega),qdl,qaa,qdl,qdo h3,Bool.false_and,qcf]; rfl
  rw[qdn (show 8<(c.cards.length:Int) by omega),qdl,qaa,qdl,qdo h2]; rfl
 rw[qdn (show(c.cards.length:Int)<1 by omega),qdl,qaa,qdl,qdo h1]; rfl
structure COk (cs:List Nat) (c:S_api_Circuit):Prop where
 cards:c.cards=iL cs
 one:1<=cs.length
 len:cs.length<=8
 card:∀ k∈cs,1<=k/\k<=8
 prod:zae cs<=1024
 gone:1<=c.gates.length
 glen:c.gates.length<=4000
 gate:∀ i (h:i<c.gates.length),GtOk cs i c.gates[i]
theorem zpq:∀ {cs:List Int},zxq cs=true->∃ ns:List Nat,cs=iL ns/\(∀ k∈ns,1<=k/\k<=8)/\prZ cs=(zae ns:Nat)
 | [],_=>⟨[],rfl,(λk h=>nomatch h),rfl⟩
 | c :: cs,h=>by
  unfold zxq at h;rw[qb5,qae,qae,qdr,qdr]at h;obtain⟨ns,rfl,h1,h2⟩:=zpq (cs:=cs) h.2;refine⟨c.toNat :: ns,?_,λk hk=>?_,?_⟩
  .simp only[iL,qaS,qdi,and_true]; omega
  .rcases qbc.1 hk with rfl | hk
   .omega
   exact h1 k hk
  show c * prZ (iL ns)=((c.toNat * zae ns:Nat):Int);rw[h2,qa4,show((c.toNat:Nat):Int)=c by omega]
theorem zp4:∀ {ar:List Int} {i:Nat} {b:Int},-1<=b->zrv (i:Int) b ar=true->∃ ns:List Nat,ar=iL ns/\ns.Pairwise (· < ·)/\∀ a∈ns,a<i/\b<(a:Int)
 | [],i,b,_,_=>⟨[],rfl,List.Pairwise.nil,λa h=>nomatch h⟩
 | a :: ar,i,b,hb,h=>by
  simp only[zrv,qae,qdr]at h;obtain⟨ns,rfl,h1,h2⟩:=zp4 (ar:=ar) (b:=a) (by omega) h.2;refine⟨a.toNat :: ns,?_,qbp.2 ⟨λx hx=>?_,h1⟩,λx hx=>?_⟩
  .simp only[iL,qaS,qdi,and_true]; omega
  .have:=(h2 x hx).2; omega
  rcases qbc.1 hx with rfl | hx
  .omega
  have:=h2 x hx; omega
variable{i:Nat}
theorem zvA{cs:List Nat}{g:S_api_Gate}(h:znM (iL cs) (i:Int) g=true):GtOk cs i g:=by
 obtain⟨kind,var,val,n,args⟩:=g;unfold znM at h;simp only at h;cases h1:(kind == 1)with
 | true=>
  rw[h1,qdl]at h;simp only[qae,qdr,qdp]at h h1;obtain⟨g1,g2,rfl,rfl,g3⟩:=h;obtain rfl:args=[]:=qa5.1 (by omega);have:=GtOk.num (cs:=cs) (i:=i) n.toNat (by omega);rw[show((n.toNat:Nat):Int)=n by omega]at this;rw[h1]; exact this
 | false=>
  rw[h1,qdm]at h;cases h2:(kind == 2)with
  | true=>
   rw[h2,qdl]at h;simp only[qae,qdr,qdp]at h h2;obtain⟨g1,g2,g3,g4,rfl,g5⟩:=h;obtain rfl:args=[]:=qa5.1 (by omega);rw[zam]at g2;have hv:var.toNat<cs.length:=by omega
   have e:(iL cs).getD var.toNat 0=((cs.getD var.toNat 0:Nat):Int):=by
    rw[zap (by rw[zam]; exact hv),zm1 hv,zap hv]
   have:=GtOk.is (cs:=cs) (i:=i) var.toNat val.toNat hv (by rw[e]at g4; omega);rw[show((var.toNat:Nat):Int)=var by omega,show((val.toNat:Nat):Int)=val by omega]at this;rw[h2]; exact this
  | false=>
   rw[h2,qdm]at h;cases h3:(kind == 3 || kind == 4)with
   | true=>
    rw[h3,qdl]at h;simp only[qae,qdp,qby]at h h3;obtain⟨rfl,rfl,rfl,g1,g2⟩:=h;obtain⟨ns,rfl,g3,g4⟩:=zp4 (by omega) g2;refine GtOk.op kind h3 ns ?_ g3 λa ha=>(g4 a ha).1
    rintro rfl;exact absurd g1 (by decide)
   | false=>rw[h3,qdm]at h; exact absurd h (by decide)
theorem zl0{cs:List Nat}:∀ {gs:List S_api_Gate} {i:Nat},zf0 (iL cs) (i:Int) gs=true->∀ k (h:k<gs.length),GtOk cs (i+k) gs[k]
 | [],_,_,k,h=>absurd h (qan _)
 | g :: gs,i,h,0,_=>by
  simp only[zf0,qae]at h;exact zvA h.1
 | g :: gs,i,h,k+1,hk=>by
  simp only[zf0,qae]at h;have:=zl0 (gs:=gs) (i:=i+1) h.2 k (by simpa using hk);rw[show i+(k+1)=i+1+k by omega];exact this
variable{c:S_api_Circuit}
theorem zwm(h:ziN c=true):∃ cs,COk cs c:=by
 unfold ziN zwd at h;simp only[qae,qdr]at h;obtain⟨⟨⟨⟨⟨h1,h2⟩,h3⟩,h4⟩,h5,h6⟩,h7⟩:=h;obtain⟨ns,e,g1,g2⟩:=zpq h3;refine⟨ns,e,?_,?_,g1,?_,h5,h6,λi hi=>?_⟩
 .rw[e,zam]at h1; exact h1
 .rw[e,zam]at h2; exact h2
 .omega
 rw[e]at h7;have:=zl0 (i:=0) h7 i hi;rw[qaK]at this;exact this
theorem GtOk.ar{cs:List Nat}{i:Nat}{g:S_api_Gate}(h:GtOk cs i g):∃ ar:List Nat,g.args=iL ar/\(∀ a∈ar,a<i)/\ar.length<=i:=by
 cases h with
 | num n h=>exact⟨[],rfl,(λa h=>nomatch h),qaw _⟩
 | is v x hv hx=>exact⟨[],rfl,(λa h=>nomatch h),qaw _⟩
 | op k hk ar ne inc lt=>exact⟨ar,rfl,lt,by have:=zgW (b:=0) inc λa h=>⟨qaw _,lt a h⟩; omega⟩
def vw(acc:List Nat)(g:S_api_Gate):Nat:=g.args.foldl (λs a=>s ||| acc.getD a.toNat 0) (bif g.kind == 2 then 2 ^ g.var.toNat else 0)
def zsj:List S_api_Gate->List Nat->List Nat
 | [],acc=>acc
 | g :: gs,acc=>zsj gs (acc ++ [vw acc g])
theorem fold_congr{acc acc':List Nat}:∀(ar:List Nat) (s:Nat),(∀ a∈ar,acc.getD a 0=acc'.getD a 0)->(iL ar).foldl (λs a=>s ||| acc.getD a.toNat 0) s=(iL ar).foldl (λs a=>s ||| acc'.getD a.toNat 0) s
 | [],_,_=>rfl
 | a :: ar,s,h=>by
  show(iL ar).foldl _ (s ||| acc.getD a 0)=(iL ar).foldl _ (s ||| acc'.getD a 0);rw[h a qao];exact fold_congr ar _ λx hx=>h x (qai _ hx)
theorem zvF{acc acc':List Nat}{g:S_api_Gate}{ar:List Nat}(e:g.args=iL ar)(h:∀ a∈ar,acc.getD a 0=acc'.getD a 0):vw acc g=vw acc' g:=by
 unfold vw;rw[e];exact fold_congr ar _ h
theorem zoA{acc:List Nat}(h:∀ w∈acc,w<U64):∀(ar:List Nat) (s:Nat),s<U64->(iL ar).foldl (λs a=>s ||| acc.getD a.toNat 0) s<U64
 | [],_,hs=>hs
 | a :: ar,s,hs=>by
  show(iL ar).foldl _ (s ||| acc.getD a 0)<U64;refine zoA h ar _ (qbV (n:=64) hs ?_);rw[qaj];by_cases ha:a<acc.length
  .rw[qac ha]; exact h _ (qas ha)
  rw[qaP (by omega)]; decide
theorem zCB{cs:List Nat}(hc:cs.length<=8){acc:List Nat}(h:∀ w∈acc,w<U64){g:S_api_Gate}(hg:GtOk cs i g):vw acc g<U64:=by
 unfold vw;cases hg with
 | num n h=>exact(by decide:(0:Nat)<U64)
 | is v x hv hx=>
  show 2 ^ ((v:Nat):Int).toNat<U64;rw[qaq];exact qbJ (n:=64) (by decide) (by omega)
 | op k hk ar ne inc lt=>
  rcases hk with rfl | rfl
  .exact zoA h ar 0 (by decide)
  exact zoA h ar 0 (by decide)
theorem zjU{α:Type}{xs ys:List α}{d:α}(h:i<xs.length):(xs ++ ys).getD i d=xs.getD i d:=by
 rw[qaj,qaf h,<- qaj]
theorem zt4{cs:List Nat}(hc:cs.length<=8):∀(gs:List S_api_Gate) (acc:List Nat),(∀ w∈acc,w<U64)->(∀ k (h:k<gs.length),GtOk cs (acc.length+k) gs[k])->
  (zsj gs acc).length=acc.length+gs.length/\(∀ t,t<acc.length->(zsj gs acc).getD t 0=acc.getD t 0)/\(∀ w∈zsj gs acc,w<U64)/\∀ k (h:k<gs.length),(zsj gs acc).getD (acc.length+k) 0=vw (zsj gs acc) gs[k]
 | [],acc,hw,_=>⟨rfl,λ_ _=>rfl,hw,λk h=>absurd h (qan _)⟩
 | g :: gs,acc,hw,hg=>by
  have h0:GtOk cs acc.length g:=hg 0 (qdc _);have hw':∀ w∈acc ++ [vw acc g],w<U64:=λw hm=>by
   rcases qbv.1 hm with hm | hm
   .exact hw w hm
   rw[qbf.1 hm]; exact zCB hc hw h0
  have hl:(acc ++ [vw acc g]).length=acc.length+1:=by simp
  obtain⟨a1,a2,a3,a4⟩:=zt4 hc gs (acc ++ [vw acc g]) hw' λk h=>by
   have:=hg (k+1) (by simpa using h);rw[hl,show acc.length+1+k=acc.length+(k+1) by omega];exact this
  refine⟨?_,λt ht=>?_,a3,λk hk=>?_⟩
  .show(zsj gs (acc ++ [vw acc g])).length=_;rw[a1,hl,qaH]; omega
  .show(zsj gs (acc ++ [vw acc g])).getD t 0=_;rw[a2 t (by omega),zjU ht]
  show(zsj gs (acc ++ [vw acc g])).getD _ 0=vw (zsj gs (acc ++ [vw acc g])) _;cases k with
  | zero=>
   rw[qbo,a2 acc.length (by omega),qaj,qak (qap _),qbw];show vw acc g=vw _ g;obtain⟨ar,e,q,_⟩:=GtOk.ar h0;refine zvF e λa ha=>?_
   have:=q a ha;rw[a2 a (by omega),zjU (by omega)]
  | succ k=>
   have:=a4 k (by simpa using hk);rw[hl,show acc.length+1+k=acc.length+(k+1) by omega]at this;exact this
structure VsOk (gs:List S_api_Gate) (V:List Nat):Prop where
 len:V.length=gs.length
 lt:∀ w∈V,w<U64
 get:∀ k (h:k<gs.length),V.getD k 0=vw V gs[k]
theorem COk.vars{cs:List Nat}(h:COk cs c):∃ V,VsOk c.gates V:=by
 obtain⟨a1,_,a3,a4⟩:=zt4 h.len c.gates [] (λw h=>nomatch h) λk hk=>by
  rw[qaN,qaK]; exact h.gate k hk
 refine⟨zsj c.gates [],by rw[a1,qaN,qaK],a3,λk hk=>?_⟩;have:=a4 k hk;rw[qaN,qaK]at this;exact this
theorem VsOk.lt'{gs:List S_api_Gate}{V:List Nat}(h:VsOk gs V)(a:Nat):V.getD a 0<U64:=by
 rw[qaj];by_cases ha:a<V.length
 .rw[qac ha]; exact h.lt _ (qas ha)
 rw[qaP (by omega)]; decide
theorem VsOk.zCA{gs:List S_api_Gate}{V:List Nat}(h:VsOk gs V)(ha:a<gs.length):zaC (iL V) (a:Int)=some ((V.getD a 0:Nat):Int):=by
 have ha':a<V.length:=by rw[h.len]; exact ha
 rw[zaz ha',zap ha']
theorem zr5{V:List Nat}(h:i<V.length):V.take (i+1)=V.take i ++ [V.getD i 0]:=by
 rw[qda,qac h,zap h]; rfl
theorem zy8(hv:v<8):zo9 .u64 1 (v:Int)=some ((2 ^ v:Nat):Int)/\IntKind.u64.wrap (v:Int)=(v:Int):=⟨zBQ (by omega),zbu (by omega)⟩
theorem ziC{b:Nat}(ha:a<U64)(hb:b<U64):zbY [(a:Int),(b:Int)]=some ((a ||| b:Nat):Int):=by
 unfold zbY;show(zbk [(a:Int),(b:Int)] 4 0 0).bind _=_;have e1:zbk [(a:Int),(b:Int)] 4 0 0=some (orI .u64 (orI .u64 0 (a:Int)) (b:Int)):=by
  simp only[zbk];rfl
 rw[e1,qaa,show(0:Int)=((0:Nat):Int)from rfl,orU (by decide) ha,Nat.zero_or,orU ha hb]
theorem zpI{gs:List S_api_Gate}{V:List Nat}(hV:VsOk gs V){i:Nat}(hi:i<gs.length)(h4:gs.length<=4000){c:S_api_Circuit}{g:S_api_Gate}{ar:List Nat}(e:g.args=iL ar)(hl:ar.length<=i)(ha:∀ a∈ar,a<i)(zs:List Nat):∀(n k:Nat) (s:Nat),s<U64->k<=ar.length->ar.length - k<n ->
  zaX g (i:Int) c n (k:Int) (iL (V.take i ++ s :: zs))=some (iL (V.take i ++ ((iL (ar.drop k)).foldl (λs a=>s ||| V.getD a.toNat 0) s):: zs))
 | 0,_,_,_,_,h=>absurd h (qan _)
 | n+1,k,s,hs,h1,h2=>by
  have hti:(V.take i).length=i:=by rw[qbh,hV.len]; omega
  unfold zaX;rw[e,zam,zaq];by_cases hk:k<ar.length
  .have h3:=ha _ (qas hk);have h6:zaC (iL (V.take i ++ s :: zs)) ((ar[k]:Nat):Int)=some ((V.getD ar[k] 0:Nat):Int):=by
    rw[zaz (by simp[hti]; omega),List.getElem_append_left (by omega),List.getElem_take,zap (by rw[hV.len]; omega)]
   rw[qdn hk,qdl,zaz hk,qaa,zcO hti,qaa,h6,qaa,ziC hs (hV.lt' _),qaa,zfC hti,qaa,zak (by omega),
    zpI hV hi h4 e hl ha zs n (k+1) _ (qbV (n:=64) hs (hV.lt' _)) hk (by omega),qat hk]
   rfl
  rw[qdo hk,qdm,qaD (by omega)]; rfl
theorem zp5{cs:List Nat}{c:S_api_Circuit}(hc:COk cs c){V:List Nat}(hV:VsOk c.gates V):∀(n i:Nat),i<=c.gates.length->c.gates.length - i<n ->
  zaY c n (i:Int) (iL (V.take i ++ List.replicate (c.gates.length - i) 0))=some (iL V)
 | 0,_,_,h=>absurd h (qan _)
 | n+1,i,h1,h2=>by
  have h4:=hc.glen;unfold zaY;rw[zaq];by_cases hi:i<c.gates.length
  .have hti:(V.take i).length=i:=by rw[qbh,hV.len]; omega
   obtain⟨m,hm⟩:∃ m,c.gates.length - i=m+1:=⟨c.gates.length - i - 1,by omega⟩;have hg:=hc.gate i hi;obtain⟨ar,e,ha,hl⟩:=hg.ar;have hv:=hV.get i hi;rw[qdn hi,qdl,zax hi,qaa,hm,qaU];have hs:∃ s:Nat,s<U64/\((bif (c.gates[i].kind == 2)then(zo9 .u64 1 c.gates[i].var).bind λq7=>(zaC (iL (V.take i ++ 0 :: List.replicate m 0)) (i:Int)).bind λx9=>(zd2 (iL (V.take i ++ 0 :: List.replicate m 0)) (i:Int) q7).bind λy11=>some y11 else some (iL (V.take i ++ 0 :: List.replicate m 0))):Option (List Int))=some (iL (V.take i ++ s :: List.replicate m 0))/\s=(bif c.gates[i].kind == 2 then 2 ^ c.gates[i].var.toNat else 0):=by
    generalize c.gates[i]=g at hg;have hh:=hc.len;cases hg with
    | num n h=>exact⟨0,by decide,rfl,rfl⟩
    | is v x hv hx=>
     obtain⟨s1,s2⟩:=zy8 (v:=v) (by omega);refine⟨2 ^ v,qbJ (n:=64) (by decide) (by omega),?_,?_⟩
     .show(zo9 .u64 1 (v:Int)).bind (λq7=>(zaC (iL (V.take i ++ 0 :: List.replicate m 0)) (i:Int)).bind λx9=>(zd2 (iL (V.take i ++ 0 :: List.replicate m 0)) (i:Int) q7).bind λy11=>some y11)=_;rw[s1,qaa,zcO hti,qaa,zfC hti]; rfl
     .show 2 ^ v=2 ^ ((v:Nat):Int).toNat;rw[qaq]
    | op k hk ar ne inc lt=>
     rcases hk with rfl | rfl
     .exact⟨0,by decide,rfl,rfl⟩
     exact⟨0,by decide,rfl,rfl⟩
   obtain⟨s,hs1,hs2,hs3⟩:=hs;have hr:=zpI (c:=c) hV hi h4 e hl ha (List.replicate m 0) (ar.length+2) 0 s hs1 (qaw _) (by omega);rw[show((0:Nat):Int)=0 from rfl,qa8]at hr;rw[hs2,qaa,show c.gates[i].args.length=ar.length by rw[e,zam],zaJ,hr,qaa];unfold vw at hv;rw[e,<- hs3]at hv;have hlt:i<V.length:=by rw[hV.len]; exact hi
   rw[<- hv,zak (by omega)];have:=zp5 hc hV n (i+1) hi (by omega);rw[zr5 hlt,show c.gates.length - (i+1)=m by omega,qaI]at this;exact this
  rw[qdo hi,qdm,qaV (by rw[hV.len]; omega),show c.gates.length - i=0 by omega];simp
theorem zy3{cs:List Nat}(hc:COk cs c){V:List Nat}(hV:VsOk c.gates V):zbj c=some (iL V):=by
 have h4:=hc.glen;have:=zp5 hc hV (c.gates.length+2) 0 (qaw _) (by omega);unfold zbj;rw[zdT (by omega),qaa,zaJ,<- zuu];rw[show((0:Nat):Int)=0 from rfl,qcD,qcI]at this;rw[show(iL (List.replicate c.gates.length 0))=iL ([]++ List.replicate c.gates.length 0)from rfl,this]; rfl
def ga(g:S_api_Gate):List Nat:=g.args.map Int.toNat
theorem zew{g:S_api_Gate}{ar:List Nat}(e:g.args=iL ar):ga g=ar:=by
 unfold ga;rw[e];simp[iL,qbG]
def zfX:Nat->List Nat->Bool
 | _,[]=>true
 | m,w :: l=>(w &&& m == 0) && zfX (m ||| w) l
def smG(V:List Nat)(g:S_api_Gate):Bool:=bif g.kind == 3 then(ga g).all (λa=>V.getD a 0 == V.getD ((ga g).headD 0) 0)else true
def dcG(V:List Nat)(g:S_api_Gate):Bool:=bif g.kind == 3 then true else zfX 0 ((ga g).map λa=>V.getD a 0)
theorem zmg{gs:List S_api_Gate}{V:List Nat}(hV:VsOk gs V)(h4:gs.length<=4000){g:S_api_Gate}(hk:(g.kind == 3)=true){ar:List Nat}(e:g.args=iL ar)(ne:ar≠[])(ha:∀ a∈ar,a<gs.length)(hl:ar.length<=4000)(dc:Bool):∀(n k:Nat) (sm:Bool) (met:Nat),met<U64->k<=ar.length->ar.length - k<n ->
  zaM g (iL V) n sm dc (met:Int) (k:Int)=some (sm && (ar.drop k).all (λa=>V.getD a 0 == V.getD (ar.headD 0) 0),dc)
 | 0,_,_,_,_,_,h=>absurd h (qan _)
 | n+1,k,sm,met,hm,h1,h2=>by
  unfold zaM;rw[e,zam,zaq];by_cases hlt:k<ar.length
  .have h0:0<ar.length:=by omega
   have e0:ar.headD 0=ar[0]:=by
    cases ar with
    | nil=>exact absurd rfl ne
    | cons a l=>rfl
   have h3:=ha _ (qas hlt);have h5:=ha _ (qas h0);rw[qdn hlt,qdl,zaz hlt,qaa,hk,qdl,hV.zCA h3,qaa,qat hlt,qb5,e0];have hr:=λb:Bool=>zmg hV h4 hk e ne ha hl dc n (k+1) b (met ||| V.getD ar[k] 0) (qbV (n:=64) hm (hV.lt' _)) hlt (by omega)
   rw[e0]at hr;cases sm with
   | true=>
    rw[qdl,show(0:Int)=((0:Nat):Int)from rfl,zaz h0,qaa,hV.zCA h5,qaa,qaa];simp only;rw[qaa,ziC hm (hV.lt' _),qaa,zak (by omega),hr,zxn,qbB]
   | false=>
    rw[qdm,qaa];simp only;rw[qaa,ziC hm (hV.lt' _),qaa,zak (by omega),hr];rfl
  rw[qdo hlt,qdm,qaD (by omega)];cases sm<;>rfl
theorem zni{gs:List S_api_Gate}{V:List Nat}(hV:VsOk gs V)(h4:gs.length<=4000){g:S_api_Gate}(hk:(g.kind == 3)=false){ar:List Nat}(e:g.args=iL ar)(ha:∀ a∈ar,a<gs.length)(hl:ar.length<=4000)(sm:Bool):∀(n k:Nat) (dc:Bool) (met:Nat),met<U64->k<=ar.length->ar.length - k<n ->
  zaM g (iL V) n sm dc (met:Int) (k:Int)=some (sm,dc && zfX met ((ar.drop k).map λa=>V.getD a 0))
 | 0,_,_,_,_,_,h=>absurd h (qan _)
 | n+1,k,dc,met,hm,h1,h2=>by
  unfold zaM;rw[e,zam,zaq];by_cases hlt:k<ar.length
  .have h3:=ha _ (qas hlt);rw[qdn hlt,qdl,zaz hlt,qaa,hk,qdm,hV.zCA h3,qaa,qat hlt,qaS];have hr:=λb:Bool=>zni hV h4 hk e ha hl sm n (k+1) b (met ||| V.getD ar[k] 0) (qbV (n:=64) hm (hV.lt' _)) hlt (by omega)
   simp only[zfX];cases dc with
   | true=>
    rw[qdl,qaa];simp only;rw[qaa,ziC hm (hV.lt' _),qaa,zak (by omega),hr,zBk (hV.lt' _) hm,zpb,qbB]
   | false=>
    rw[qdm,qaa];simp only;rw[qaa,ziC hm (hV.lt' _),qaa,zak (by omega),hr];rfl
  rw[qdo hlt,qdm,qaD (by omega)];cases dc<;>rfl
theorem GtOk.ne{cs:List Nat}{i:Nat}{g:S_api_Gate}(hg:GtOk cs i g){ar:List Nat}(e:g.args=iL ar)(hk:(g.kind == 3)=true):ar≠[]:=by
 rintro rfl;cases hg with
 | num n h=>exact absurd hk (by decide:¬ ((1:Int)== 3)=true)
 | is v x hv hx=>exact absurd hk (by decide:¬ ((2:Int)== 3)=true)
 | op k hk ar ne inc lt=>exact ne (List.map_eq_nil_iff.1 e)
theorem zoN{cs:List Nat}{c:S_api_Circuit}(hc:COk cs c){V:List Nat}(hV:VsOk c.gates V):∀(n i:Nat) (sm dc:Bool),i<=c.gates.length->c.gates.length - i<n ->
  zbo c (iL V) n sm dc (i:Int)=some (sm && (c.gates.drop i).all (smG V),dc && (c.gates.drop i).all (dcG V))
 | 0,_,_,_,_,h=>absurd h (qan _)
 | n+1,i,sm,dc,h1,h2=>by
  have h4:=hc.glen;unfold zbo;rw[zaq];by_cases hi:i<c.gates.length
  .have hg:=hc.gate i hi;obtain⟨ar,e,ha,hl⟩:=hg.ar;have ha':∀ a∈ar,a<c.gates.length:=λa h=>Nat.lt_trans (ha a h) hi
   have hq:zaM c.gates[i] (iL V) (((c.gates[i].args.length:Int) - 0+2:Int).toNat) sm dc 0 0=some (sm && smG V c.gates[i],dc && dcG V c.gates[i]):=by
    rw[zaJ,e,zam];unfold smG dcG;rw[zew e];cases hk:(c.gates[i].kind == 3)with
    | true=>
     have ne:=hg.ne e hk;have:=zmg hV h4 hk e ne ha' (by omega) dc (ar.length+2) 0 sm 0 (by decide) (qaw _) (by omega);rw[qa8]at this;rw[qdl,qdl,qcn];exact this
    | false=>
     have:=zni hV h4 hk e ha' (by omega) sm (ar.length+2) 0 dc 0 (by decide) (qaw _) (by omega);rw[qa8]at this;rw[qdm,qdm,qcn];exact this
   rw[qdn hi,qdl,zax hi,qaa,hq,qaa];simp only;rw[zak (by omega),zoN hc hV n (i+1) _ _ hi (by omega),qat hi,qb5,qb5,Bool.and_assoc,Bool.and_assoc]
  rw[qdo hi,qdm,qaD (by omega)];cases sm<;>cases dc<;>rfl
theorem zpR{V:List Nat}{w:Nat}:∀(ar:List Nat) (s:Nat),(∀ a∈ar,V.getD a 0=w)->ar≠[]->(iL ar).foldl (λs a=>s ||| V.getD a.toNat 0) s=s ||| w
 | [],_,_,h=>absurd rfl h
 | [a],s,h,_=>by
  show s ||| V.getD a 0=s ||| w;rw[h a qao]
 | a :: b :: l,s,h,_=>by
  show(iL (b :: l)).foldl _ (s ||| V.getD a 0)=s ||| w;rw[zpR (b :: l) _ (λx hx=>h x (qai _ hx)) (List.cons_ne_nil _ _),h a qao,Nat.or_assoc,Nat.or_self]
theorem zrF{gs:List S_api_Gate}{V:List Nat}{g:S_api_Gate}{ar:List Nat}(hk:(g.kind == 3)=true)(e:g.args=iL ar)(ne:ar≠[])(hv:V.getD i 0=vw V g):
  ar.all (λa=>V.getD a 0 == V.getD i 0)=ar.all (λa=>V.getD a 0 == V.getD (ar.headD 0) 0):=by
 have hh:ar.headD 0∈ar:=by
  cases ar with
  | nil=>exact absurd rfl ne
  | cons a l=>exact qao
 have h2:(g.kind == 2)=false:=by rw[beq_iff_eq.1 hk]; rfl
 unfold vw at hv;rw[h2,qdm,e]at hv;rw[qbE,qa2,qa2];constructor
 .intro h a ha;rw[beq_iff_eq.1 (h a ha),beq_iff_eq.1 (h _ hh)];exact qdq _
 intro h a ha;rw[hv,zpR (w:=V.getD (ar.headD 0) 0) ar 0 (λa ha=>beq_iff_eq.1 (h a ha)) ne,Nat.zero_or];exact h a ha
def zkr(V:List Nat)(pre:List Nat):List Nat->Bool
 | []=>true
 | a :: l=>pre.all (λb=>V.getD a 0 &&& V.getD b 0 == 0) && zkr V (pre ++ [a]) l
theorem zpd{V:List Nat}(w:Nat):∀(pre:List Nat) (s:Nat),(w &&& pre.foldl (λs b=>s ||| V.getD b 0) s == 0)=((w &&& s == 0) && pre.all λb=>w &&& V.getD b 0 == 0)
 | [],s=>by simp
 | b :: pre,s=>by
  rw[qbO,zpd w pre,qb5,<- Bool.and_assoc];congr 1
  rw[Nat.and_or_distrib_left,qbE,qae,qdp,qdp,qdp,Nat.or_eq_zero_iff]
theorem zkt{V:List Nat}:∀(l pre:List Nat),zfX (pre.foldl (λs b=>s ||| V.getD b 0) 0) (l.map λa=>V.getD a 0)=zkr V pre l
 | [],_=>rfl
 | a :: l,pre=>by
  have:=zkt (V:=V) l (pre ++ [a]);rw[List.foldl_append]at this;simp only[qaS,zfX,zkr];rw[<- this,zpd,Nat.and_zero];rfl
structure L2Ok (num:List Nat) (g c:Nat) (cs:List Nat) (i:Nat) (ns:List NN):Prop where
 len:ns.length=c
 cards:ns.map (·.c)=cs
 done:∀(k v:Nat) (x:NN),k<i->num[k]? = some v->ns[v]? = some x->NodeOk num g cs k x
 left:∀(k v:Nat) (x:NN),i<=k->num[k]? = some v->ns[v]? = some x->x.ps=[]/\x.rows=[]
theorem zhY{m:Nat}(hm:1<=m):∀ {xs:List Nat},(∀ x∈xs,x<=m)->zae xs<=m ^ xs.length
 | [],_=>qap 1
 | x :: xs,h=>by
  have ih:=zhY hm (xs:=xs) λy hy=>h y (qai _ hy)
  rw[qaH,Nat.pow_succ,qbx];exact qa9 (h x qao) ih
theorem zwU{xs:List Nat}(h:xs.Nodup){j w:Nat}(hi:xs[i]? = some v)(hj:xs[j]? = some w)(hne:i≠j):v≠w:=by
 obtain⟨h1,h2⟩:=qab.1 hi;obtain⟨h3,h4⟩:=qab.1 hj;intro he;rcases Nat.lt_or_gt_of_ne hne with hlt | hlt
 .exact qbr.1 h i j h1 h3 hlt (by rw[h2,h4,he])
 exact qbr.1 h j i h3 h1 hlt (by rw[h2,h4,he])
theorem zxo{d:DraftN}(hd:DraftOk d){num:List Nat}{c N:Nat}{cs:List Nat}(hc:zlF d=c)(hp:PermOk c num)(hs:∀ x∈cs,1<=x/\x<=3)(hN:1025<=N):∀(n i:Nat) (ns:List NN),L2Ok num (1+d.grain % 60) c cs i ns->i<=c->c - i<n ->
  ∃ ns':List NN,L2Ok num (1+d.grain % 60) c cs c ns'/\zbr N (zcs d) (iL num) n (i:Int) (ns.map nd)=some (ns'.map nd)
 | 0,_,_,_,_,h=>absurd h (qan _)
 | n+1,i,ns,h1,h2,h3=>by
  have hc5:c<=5:=by rw[<- hc]; exact qcb _ _
  unfold zbr;rw[znR,hc];by_cases hi:i<c
  .rw[zaq,qdn hi,qdl];obtain⟨card,parents,w,hcard,e⟩:=zlW hd (j:=i);rw[e,qaa];simp only[];have hin:i<num.length:=by rw[hp.len]; exact hi
   have hget:num[i]? = some num[i]:=qac hin;have hlen:=h1.len;have hcl:cs.length=c:=by rw[<- h1.cards,qaX,h1.len]
   have hv:num[i]<ns.length:=by rw[h1.len]; exact hp.lt _ (qas hin)
   obtain⟨b1,b2⟩:=h1.left i num[i] ns[num[i]] (qap _) hget (qac hv);obtain⟨qs,e2,hq⟩:=zzu (num:=num) (ps8:=(parents:Int)) (i:=i) (ns:=ns) (v:=num[i]) (by omega) (by rw[hp.len]; omega) (by omega) hp.nod hv b1;rw[h1.len]at e2 hq;have hg:w64 (1+w64 ((zcs d).grain.tmod 60))=((1+d.grain % 60:Nat):Int):=by
    rw[show((zcs d).grain.tmod 60)=((d.grain % 60:Nat):Int)from rfl,zaF (by omega),show(1:Int)+((d.grain % 60:Nat):Int)=((1+d.grain % 60:Nat):Int) by omega,zaF (by omega)]
   have hset:(ns.set num[i] ⟨ns[num[i]].c,qs,ns[num[i]].rows⟩)[num[i]]'(by simpa using hv)=⟨ns[num[i]].c,qs,ns[num[i]].rows⟩:=by simp
   have hcs1:(ns.set num[i] ⟨ns[num[i]].c,qs,ns[num[i]].rows⟩).map (·.c)=cs:=by rw[zi4 (x:=⟨ns[num[i]].c,qs,ns[num[i]].rows⟩) hv rfl,h1.cards]
   have hcv:1<=ns[num[i]].c/\ns[num[i]].c<=3:=hs _ (by rw[<- h1.cards]; exact qaJ.2 ⟨_,qas hv,rfl⟩);have hco:zdu (ns.set num[i] ⟨ns[num[i]].c,qs,ns[num[i]].rows⟩) qs=qs.map λp=>cs.getD p 0:=by unfold zdu; rw[hcs1]
   have hqs:∀ x∈(qs.map λp=>cs.getD p 0),1<=x/\x<=3:=by
    intro x hx;obtain⟨p,hpq,rfl⟩:=qaJ.1 hx;have hpl:p<cs.length:=by rw[hcl]; exact hq.lt p hpq
    refine hs _ ?_;simp[hpl]
   have hprod:zae (qs.map λp=>cs.getD p 0)<=3 ^ 3:=by
    refine qax (zhY (m:=3) (by omega) λx hx=>(hqs x hx).2) ?_;rw[qaX];exact qbu (by decide) hq.len
   obtain⟨rows,r1,r2⟩:=zys (g:=1+d.grain % 60) (N:=N) (W:=w) (ns:=ns.set num[i] ⟨ns[num[i]].c,qs,ns[num[i]].rows⟩) (v:=num[i]) (by omega) (by simp; omega) (by simpa using hv)
    (by rw[hset]; intro p hpq; rw[qaG,h1.len]; exact hq.lt p hpq) (by rw[hset]; have:=hq.len; simp; omega) (by rw[hset]; exact hcv.1) (by rw[hset]; have:=hcv.2; simp; omega)
    (by rw[hset,hco]; exact λx hx=>(hqs x hx).1) (by rw[hset,hco]; exact qax hprod (by decide)) (by rw[hset]; exact b2) hN
   simp only[hset,hco,List.set_set]at r1 r2
   obtain⟨ns',f1,f2⟩:=zxo hd hc hp hs hN n (i+1) (ns.set num[i] ⟨ns[num[i]].c,qs,rows⟩) {
    len:=by simpa using h1.len
    cards:=by rw[zi4 (x:=⟨ns[num[i]].c,qs,rows⟩) hv rfl,h1.cards]
    done:=λk v x hk hkv hx=>by
     by_cases hki:k=i
     .subst hki;rw[hget]at hkv;have:=qal hkv;subst this;rw[qaC hv]at hx;have:=qal hx;subst this;exact⟨by rw[hcl]; exact hq,r1⟩
     rw[qar (zwU hp.nod hget hkv (by omega))]at hx;exact h1.done k v x (by omega) hkv hx
    left:=λk v x hk hkv hx=>by
     rw[qar (zwU hp.nod hget hkv (by omega))]at hx
     exact h1.left k v x (by omega) hkv hx } hi (by omega)
   refine⟨ns',f1,?_⟩;rw[zaz hin,qaa,e2,qaa,hg,r2,qaa,zak (by omega),f2]
  have:i=c:=by omega
  subst this;exact⟨ns,h1,by rw[zaq,qdo hi,qdm]⟩
theorem zu7{d:DraftN}(hd:DraftOk d){N:Nat}(hN:1025<=N):
  ∃(num:List Nat) (ns:List NN),NetOk num (1+d.grain % 60) ns/\ns.length<=5/\zbH N (zcs d)=some ⟨((1+d.grain % 60:Nat):Int),ns.map nd⟩:=by
 have hc5:zlF d<=5:=qcb _ _;have hc1:1<=zlF d:=by unfold zlF; omega
 obtain⟨num,hp,e1⟩:=zzc (c:=zlF d) (N:=N) (os:=d.order) (wh:=0) hc5 (by omega) hd.order;have hpl:=hp.len;have h0:∀ v,v<zlF d->(List.replicate (zlF d) (⟨0,[],[]⟩:NN))[v]? = some ⟨0,[],[]⟩:=λv hv=>by simp[hv]
 obtain⟨ns1,a,h1,e2⟩:=zxl hd rfl hp (zlF d+2) 0 1 (List.replicate (zlF d) ⟨0,[],[]⟩) {
  len:=by simp
  bare:=λx hx=>by rw[(qcE.1 hx).2]; exact⟨rfl,rfl⟩
  prod:=by
   rw[qcF];generalize zlF d=c;induction c with
   | zero=>rfl
   | succ c ih=>rw[qaU]; simp only[zmd,qc7]at ih ⊢; rw[ih]; rfl
  low:=by
   have:2 ^ (zlF d - 0)<=2 ^ 5:=qbu (by decide) (by omega);omega
  done:=λk v hk hkv=>absurd hk (qan _)
  left:=λk v hk hkv=>⟨_,h0 v (hp.lt v (qay hkv)),rfl⟩ } (qaw _) (by omega)
 have hcards:∀ x∈ns1,2<=x.c/\x.c<=3:=by
  intro x hx;obtain⟨v,hv⟩:=qbH hx;have hvl:v<zlF d:=by rw[<- h1.len]; exact(qab.1 hv).1
  obtain⟨k,hk⟩:=qbH (hp.all v hvl);obtain⟨y,g1,g2⟩:=h1.done k v (by rw[<- hpl]; exact(qab.1 hk).1) hk;rw[hv]at g1;have:=qal g1;subst this;exact g2
 have hcs:∀ x∈ns1.map (·.c),1<=x/\x<=3:=by
  intro x hx;obtain⟨y,hy,rfl⟩:=qaJ.1 hx;have:=hcards y hy;exact⟨by omega,this.2⟩
 obtain⟨ns2,h2,e3⟩:=zxo hd rfl hp hcs hN (zlF d+2) 0 ns1 ⟨h1.len,rfl,λk v x hk=>absurd hk (qan _),λk v x hk hkv hx=>h1.bare x (qay hx)⟩ (qaw _) (by omega);have hl2:=h2.len;have hlow:=h1.low;refine⟨num,ns2,⟨by omega,by omega,by omega,by omega,?_,?_,by rw[h2.len]; exact hp,?_⟩,by omega,?_⟩
 .intro x hx;have:=hcs x.c (by rw[<- h2.cards]; exact qaJ.2 ⟨x,hx,rfl⟩);omega
 .rw[h2.cards,<- zpp λx hx=>(hcs x hx).1,h1.prod];rw[qbw,Nat.pow_zero]at hlow;omega
 .intro j v x hj hx;rw[h2.cards];exact h2.done j v x (by rw[<- hpl]; exact(qab.1 hj).1) hj hx
 have hg:w64 (1+w64 ((zcs d).grain.tmod 60))=((1+d.grain % 60:Nat):Int):=by
  rw[show((zcs d).grain.tmod 60)=((d.grain % 60:Nat):Int)from rfl,zaF (by omega),show(1:Int)+((d.grain % 60:Nat):Int)=((1+d.grain % 60:Nat):Int) by omega,zaF (by omega)]
 have hz:List.replicate (zlF d) (S_api_Node.mk 0 [] [])=(List.replicate (zlF d) (⟨0,[],[]⟩:NN)).map nd:=by rw[qcF]; rfl
 have e2':=e2;have e3':=e3;rw[show((0:Nat):Int)=0 from rfl]at e2' e3';rw[show((1:Nat):Int)=1 from rfl]at e2';unfold zbH;rw[znR,zdT (by omega),qaa,zdT (by omega),qaa,show(zcs d).order=iL d.order from rfl,e1,qaa,zaJ,hz,e2',qaa,e3',qaa,hg]
def zd3(xs:List Nat):Nat:=xs.foldl (λm p=>m ||| 2 ^ p) 0
theorem zvP(xs:List Nat)(p:Nat):zd3 (xs ++ [p])=zd3 xs ||| 2 ^ p:=by simp[zd3]
theorem zm9:∀(xs:List Nat) (m i:Nat),(xs.foldl (λm p=>m ||| 2 ^ p) m).testBit i=(m.testBit i || decide (i∈xs))
 | [],m,i=>by simp
 | x :: xs,m,i=>by
  rw[qbO,zm9 xs,Nat.testBit_or,qcx,Bool.or_assoc];congr 1
  by_cases h:x=i
  .simp[h]
  simp[h,show ¬ i=x from λq=>h q.symm]
theorem zlj(xs:List Nat)(i:Nat):(zd3 xs).testBit i=decide (i∈xs):=by
 unfold zd3; rw[zm9]; simp
theorem zpK:∀(xs:List Nat) (m:Nat),m<18446744073709551616->(∀ x∈xs,x<64)->xs.foldl (λm p=>m ||| 2 ^ p) m<18446744073709551616
 | [],m,h,_=>h
 | x :: xs,m,h,hx=>zpK xs _ (qbV (n:=64) h (qbJ (by decide) (hx x qao))) λy hy=>hx y (qai _ hy)
theorem zkh{xs:List Nat}(h:∀ x∈xs,x<64):zd3 xs<18446744073709551616:=zpK xs 0 (by decide) h
def Sub(a b:Nat):Prop:=∀ i,a.testBit i=true->b.testBit i=true
theorem zuA{b:Nat}(ha:a<18446744073709551616)(hb:b<18446744073709551616):diff a b=0↔Sub a b:=by
 constructor
 .intro h i hi;have:=zqg (i:=i) ha hb;rw[h,hi]at this;simpa using this
 intro h;apply qcS;intro i;rw[zqg ha hb,qck];cases hi:a.testBit i with
 | false=>rfl
 | true=>rw[h i hi]; rfl
theorem zma{cs ps:List Nat}{nodes:S_api_Net}{sets order:List Int}{x:S_api_Node}(hx:x.parents=iL ps)(hp:Pl cs.length ps)(hl:ps.length<=8)(hc:∀ p∈ps,1<=cs.getD p 0):∀(n i a:Nat),i<=ps.length ->
  a * zae ((ps.drop i).map λp=>cs.getD p 0)<=65536->ps.length - i<n ->
  zaN x ⟨nodes,iL cs,sets,order⟩ n (a:Int) (i:Int)=some ((a * zae ((ps.drop i).map λp=>cs.getD p 0):Nat):Int)
 | 0,_,_,_,_,h=>absurd h (qan _)
 | n+1,i,a,h1,h2,h3=>by
  unfold zaN;rw[hx,zam];by_cases hi:i<ps.length
  .have e2:a * zae ((ps.drop i).map λp=>cs.getD p 0)=a * cs.getD ps[i] 0 * zae ((ps.drop (i+1)).map λp=>cs.getD p 0):=by
    rw[qat hi]; exact(qbj _ _ _).symm
   rw[e2]at h2;have hb:ps[i]<cs.length:=hp _ (qas hi);have hq:1<=zae ((ps.drop (i+1)).map λp=>cs.getD p 0):=zdH λx hx=>by
    obtain⟨p,hp1,rfl⟩:=qaJ.1 hx;exact hc p (qcc hp1)
   have hle:a * cs.getD ps[i] 0<=65536:=qax (qa7 _ hq) h2;have he:cs[ps[i]]=cs.getD ps[i] 0:=by simp[hb]
   rw[zaq,qdn hi,qdl,zaz hi,qaa,zaz hb,qaa,he,<- qa4,zaF (by omega),zak (by omega),
    zma hx hp hl hc n (i+1) _ hi h2 (by omega),e2]
  rw[zaq,qdo hi,qdm,qaD (by omega)];simp[zae]
theorem zmc{y:Int×List Int}{zs:List Nat}(hy:y.2=iL zs)(hl:zs.length<=8):∀(n i r:Nat),i<=zs.length->(zs.drop i).sum<=r->r<=65536->zs.length - i<n ->
  zaO y n (r:Int) (i:Int)=some (.go ((r - (zs.drop i).sum:Nat):Int))
 | 0,_,_,_,_,_,h=>absurd h (qan _)
 | n+1,i,r,h1,h2,hr,h3=>by
  unfold zaO;rw[hy,zam];by_cases hi:i<zs.length
  .have e:(zs.drop i).sum=zs[i]+(zs.drop (i+1)).sum:=by rw[qat hi,qc6]
   rw[e]at h2
   rw[zaq,qdn hi,qdl,zaz hi,qaa,show decide (((zs[i]:Nat):Int)<0)=false from qdo (by omega),qdm,qaa,
    show decide ((r:Int)<((zs[i]:Nat):Int))=false from qdo (by omega),qdm,show((r:Int) - ((zs[i]:Nat):Int))=((r - zs[i]:Nat):Int) by omega,zaF (by omega),zak (by omega),
    zmc hy hl n (i+1) _ hi (by omega) (by omega) (by omega),e,Nat.sub_sub]
  rw[zaq,qdo hi,qdm,qaD (by omega)];simp
theorem zl9{g c:Nat}{nw:S_net_network}{x:S_api_Node}(hg:nw.net.grain=(g:Int))(hg2:g<=60)(hc:x.card=(c:Int))(hc8:c<=8):∀(L:List (Int×List Int)),(∀ y∈L,∃ zs:List Nat,y.2=iL zs/\zs.length=c/\zs.sum=g)->
  zaH nw x L=some (.go ())
 | [],_=>rfl
 | y :: L,h=>by
  obtain⟨zs,h1,h2,h3⟩:=h y qao;unfold zaH;have e:=zmc h1 (by omega) (zs.length+2) 0 g (qaw _) (by rw[qa8]; omega) (by omega) (by omega);rw[qa8,h3,qbw,show((0:Nat):Int)=0 from rfl]at e;rw[hg,h1,zam,zaJ,e,qaa];simp only[];rw[hc,h2,show((c:Int)==(c:Int))=true by simp,qdl,qaa,show(!((0:Int)== 0))=false from rfl,qdm];exact zl9 hg hg2 hc hc8 L λy hy=>h y (qai _ hy)
variable{g:Nat}
theorem ztU{cs:List Nat}{nodes:List S_api_Node}{sets order:List Int}{x:NN}(hg2:g<=60)(hp:Pl cs.length x.ps)(hl:x.ps.length<=8)(hc:∀ p∈x.ps,1<=cs.getD p 0)(hc8:x.c<=8)(hm:zae (x.ps.map λp=>cs.getD p 0)<=65536)(hr:RowsOk g x.c (zae (x.ps.map λp=>cs.getD p 0)) x.rows):zbd ⟨⟨(g:Int),nodes⟩,iL cs,sets,order⟩ (nd x)=some true:=by
 unfold zbd;have e:=zma (x:=nd x) (nodes:=⟨(g:Int),nodes⟩) (sets:=sets) (order:=order) rfl hp hl hc (x.ps.length+2) 0 1 (qaw _) (by simpa using hm) (by omega);rw[show((0:Nat):Int)=0 from rfl,show((1:Nat):Int)=1 from rfl,qa8,qbS]at e;have hrl:(nd x).rows.length=x.rows.length:=by simp[nd]
 rw[show(nd x).parents=iL x.ps from rfl,zam,zaJ,e,qaa,hrl,hr.len,show(((zae (x.ps.map λp=>cs.getD p 0):Nat):Int)==((zae (x.ps.map λp=>cs.getD p 0):Nat):Int))=true by simp,qdl];unfold zhh;rw[qaa];have hs:zeh (nd x).rows=some ():=by
  unfold zeh;rw[if_pos (by rw[hrl,hr.len]; omega)]
 rw[hs,qaa,zl9 (g:=g) (c:=x.c) rfl hg2 rfl hc8,qaa];intro y hy;unfold zxk at hy;obtain⟨q,hq,rfl⟩:=qaJ.1 hy;have hq1:q.1∈(nd x).rows:=by
  have:=List.mem_zipIdx' hq;rw[this.2]; exact qas _
 obtain⟨zs,hz,hz2⟩:=qaJ.1 hq1;exact⟨zs,hz2.symm,hr.row zs hz⟩
def zcS(g:Nat)(ns:List NN):S_api_Net:=⟨(g:Int),ns.map nd⟩
theorem zuw{g P:Nat}{ns:List NN}(hn:ns.length<=8)(hc:∀ x∈ns,1<=x.c/\x.c<=4)(hP:P<=65536):∀(n:Nat) (xs ys:List NN) (a:Nat),xs ++ ys=ns->a * zae (ys.map (·.c))=P->ys.length<n ->
  zcy (zcS g ns) n (a:Int) (xs.length:Int) (iL (xs.map (·.c)++ List.replicate ys.length 0))=some (.go ((P:Int),iL (ns.map (·.c))))
 | 0,_,_,_,_,_,h=>absurd h (qan _)
 | n+1,xs,[],a,h1,h2,h3=>by
  unfold zcy;rw[qaY]at h1;subst h1;have:a=P:=by rw[<- h2]; simp[zae]
  subst this;rw[show(zcS g xs).nodes.length=xs.length by simp[zcS],zaq,qdo (by omega),qdm];simp
 | n+1,xs,y :: ys,a,h1,h2,h3=>by
  unfold zcy;have hl:(zcS g ns).nodes.length=ns.length:=by simp[zcS]
  have hxn:xs.length<ns.length:=by rw[<- h1]; simp
  have hy:ns[xs.length]=y:=by subst h1; simp
  have hyc:=hc y (by rw[<- h1]; simp);have e2:a * y.c * zae (ys.map (·.c))=P:=by rw[<- h2]; exact qbj _ _ _
  have hq:1<=zae (ys.map (·.c)):=zdH λc hcm=>by
   obtain⟨z,hz,rfl⟩:=qaJ.1 hcm;exact(hc z (by rw[<- h1]; simp[hz])).1
  have hle:a * y.c<=P:=by rw[<- e2]; exact qa7 _ hq
  have ih:=zuw hn hc hP (g:=g) n (xs ++ [y]) ys (a * y.c) (by rw[<- h1]; simp) e2 (by simp at h3; omega)
  rw[hl,zaq,qdn hxn,qdl,show zaC (zcS g ns).nodes (xs.length:Int)=some (nd y) by rw[<- hy]; exact zcq hxn,qaa,
   show(nd y).card=(y.c:Int)from rfl,show decide ((y.c:Int)<1)=false from qdo (by omega),qdm,qaa,show decide ((4:Int)<(y.c:Int))=false from qdo (by omega),qdm]
  have hxl:((xs.length:Nat):Int)=(((xs.map (·.c)).length:Nat):Int):=by simp
  rw[qaH,qaU,hxl,zdw,qaa,zgX,qaa,<- qa4,zaF (by omega),zak (by simp; omega),<- ih];simp
theorem zsw{g v:Nat}{ns:List NN}{x:S_api_Node}{ps xs ys:List Nat}(hx:x.parents=iL ps)(hn:ns.length<=8)(hv:xs.length=v)(hp:∀ p∈ps,p<ns.length/\p≠v)(hinc:ps.Pairwise (· < ·)):∀(n i:Nat) (m:Nat) (lo:Int),i<=ps.length->m<18446744073709551616 ->
  (∀ p∈ps.drop i,lo<(p:Int))->ps.length - i<n ->
  zc8 x (zcS g ns) (v:Int) n lo (i:Int) (iL (xs ++ m :: ys))=some (.go (iL (xs ++ ((ps.drop i).foldl (λm p=>m ||| 2 ^ p) m):: ys)))
 | 0,_,_,_,_,_,_,h=>absurd h (qan _)
 | n+1,i,m,lo,h1,h2,h4,h3=>by
  have hps:ps.length<=9223372036854775806\/True:=.inr trivial;unfold zc8;have hl:(zcS g ns).nodes.length=ns.length:=by simp[zcS]
  rw[hx,zam,hl];by_cases hi:i<ps.length
  .have hd:ps.drop i=ps[i]:: ps.drop (i+1):=qat hi;obtain⟨hp1,hp2⟩:=hp _ (qas hi);have hlo:=h4 ps[i] (by rw[hd]; exact qao);have hsm:i<=ps[i]:=by
    have:∀(j:Nat) (hj:j<ps.length),j<=ps[j]:=by
     intro j;induction j with
     | zero=>intro hj; exact qaw _
     | succ j ih=>
      intro hj;have h6:=ih (by omega);have h7:=qbr.1 hinc j (j+1) (by omega) hj (by omega);omega
    exact this i hi
   have hgt:∀ p∈ps.drop (i+1),((ps[i]:Nat):Int)<(p:Int):=by
    intro p hp;obtain⟨k,hk,rfl⟩:=qbl.1 hp;rw[List.getElem_drop];have:=qbr.1 hinc i (i+1+k) hi (by simp at hk; omega) (by omega);omega
   have hpw:2 ^ ps[i]<18446744073709551616:=qbJ (n:=64) (by decide) (by omega);have hm:m ||| 2 ^ ps[i]<18446744073709551616:=qbV (n:=64) h2 hpw;have ih:=zsw (g:=g) (ys:=ys) hx hn hv hp hinc n (i+1) (m ||| 2 ^ ps[i]) (ps[i]:Int) hi hm hgt (by omega)
   rw[zaq,qdn hi,qdl,zaz hi,qaa,show decide (((ps[i]:Nat):Int)<=lo)=false from qdo (by omega),qdm,
    show decide (((ns.length:Nat):Int)<=((ps[i]:Nat):Int))=false from qdo (by omega),qdm,qaa,show(((ps[i]:Nat):Int)==(v:Int))=false by simp; omega,qdm,
    <- hv,zdw,qaa,zBQ (by omega),qaa,orU h2 hpw,zgX,qaa,zak (by omega),hv,ih,hd,qbO]
  rw[zaq,qdo hi,qdm,qaD (by omega)];rfl
structure RightN (g:Nat) (ns:List NN):Prop where
 g1:1<=g
 g2:g<=60
 n1:1<=ns.length
 n2:ns.length<=8
 card:∀ x∈ns,1<=x.c/\x.c<=4
 prod:zae (ns.map (·.c))<=1024
 inc:∀ x∈ns,x.ps.Pairwise (· < ·)
 lt:∀ x∈ns,∀ p∈x.ps,p<ns.length
 rows:∀ x∈ns,RowsOk g x.c (zae (x.ps.map λp=>(ns.map (·.c)).getD p 0)) x.rows
 rk:∃ rk:Nat->Nat,(∀ v,rk v<=8)/\∀ v x,ns[v]? = some x->∀ p∈x.ps,rk p<rk v
theorem zyo{n:Nat}{ps:List Nat}(h:ps.Pairwise (· < ·))(hp:∀ p∈ps,p<n):ps.length<=n:=by
 have:∀(j:Nat) (hj:j<ps.length),j<=ps[j]:=by
  intro j;induction j with
  | zero=>intro hj; exact qaw _
  | succ j ih=>
   intro hj;have h6:=ih (by omega);have h7:=qbr.1 h j (j+1) (by omega) hj (by omega);omega
 cases hl:ps.length with
 | zero=>exact qaw _
 | succ m=>
  have h1:=this m (by omega);have h2:=hp _ (qas (show m<ps.length by omega));omega
variable{ns:List NN}
theorem RightN.zCz(h:RightN g ns){x:NN}(hx:x∈ns):x.ps.length<=8:=by
 have:=zyo (h.inc x hx) (h.lt x hx);have:=h.n2;omega
theorem RightN.ne(h:RightN g ns){x:NN}(hx:ns[v]? = some x):∀ p∈x.ps,p≠v:=by
 obtain⟨rk,_,h2⟩:=h.rk;intro p hp he;subst he;exact qce _ (h2 p x hx p hp)
theorem RightN.zz8(h:RightN g ns){x:NN}(hx:x∈ns):∀ p∈x.ps,1<=(ns.map (·.c)).getD p 0/\(ns.map (·.c)).getD p 0<=4:=by
 intro p hp;have hp1:=h.lt x hx p hp;have:=h.card ns[p] (qas hp1);simpa [hp1]using this
theorem RightN.zz1(h:RightN g ns){x:NN}(hx:x∈ns):zae (x.ps.map λp=>(ns.map (·.c)).getD p 0)<=65536:=by
 refine qax (zhY (m:=4) (by omega) λy hy=>?_) ?_
 .obtain⟨p,hp,rfl⟩:=qaJ.1 hy;exact(h.zz8 hx p hp).2
 rw[qaX];exact qax (qbu (by decide) (h.zCz hx)) (by decide)
theorem zuS{g:Nat}{ns:List NN}(h:RightN g ns):∀(n:Nat) (xs ys:List NN),xs ++ ys=ns->ys.length<n ->
  zcA (zcS g ns) (iL (ns.map (·.c))) n (xs.length:Int) (iL (xs.map (λx=>zd3 x.ps)++ List.replicate ys.length 0))=some (.go (iL (ns.map λx=>zd3 x.ps)))
 | 0,_,_,_,h=>absurd h (qan _)
 | n+1,xs,[],h1,h3=>by
  unfold zcA;rw[qaY]at h1;subst h1;rw[show(zcS g xs).nodes.length=xs.length by simp[zcS],zaq,qdo (by omega),qdm];simp
 | n+1,xs,y :: ys,h1,h3=>by
  unfold zcA;have hl:(zcS g ns).nodes.length=ns.length:=by simp[zcS]
  have hxn:xs.length<ns.length:=by rw[<- h1]; simp
  have hn:=h.n2;have hy:ns[xs.length]=y:=by subst h1; simp
  have hyg:ns[xs.length]? = some y:=by rw[qac hxn,hy]
  have hym:y∈ns:=qay hyg;have hcl:(ns.map (·.c)).length=ns.length:=by simp
  have hlt:∀ p∈y.ps,p<ns.length/\p≠xs.length:=λp hp=>⟨h.lt y hym p hp,h.ne hyg p hp⟩
  have hcs:=h.zz8 hym;have hpl:=h.zCz hym;have hprod:=h.zz1 hym;have hyc:=h.card y (by rw[<- h1]; simp);have ih:=zuS h n (xs ++ [y]) ys (by rw[<- h1]; simp) (by simp at h3; omega);have e3:=zsw (g:=g) (ns:=ns) (x:=nd y) (xs:=xs.map λx=>zd3 x.ps) (ys:=List.replicate ys.length 0) (v:=xs.length) rfl hn (by simp) hlt (h.inc y hym) (y.ps.length+2) 0 0 (-1) (qaw _) (by decide) (λp hp=>by omega) (by omega);rw[show((0:Nat):Int)=0 from rfl,qa8]at e3;have e4:=ztU (g:=g) (cs:=ns.map (·.c)) (nodes:=ns.map nd) (sets:=iL (xs.map (λx=>zd3 x.ps)++ zd3 y.ps :: List.replicate ys.length 0)) (order:=[]) (x:=y) h.g2 (by rw[hcl]; exact λp hp=>(hlt p hp).1) (by omega) (λp hp=>(hcs p hp).1) (by omega) hprod (h.rows y hym)
  rw[hl,zaq,qdn hxn,qdl,show zaC (zcS g ns).nodes (xs.length:Int)=some (nd y) by rw[<- hy]; exact zcq hxn,qaa,qaH,qaU,
   show(nd y).parents.length=y.ps.length by simp[nd,zam],zaJ,e3,qaa]
  simp only[];rw[show(y.ps.foldl (λm p=>m ||| 2 ^ p) 0)=zd3 y.ps from rfl];rw[show zcS g ns=⟨(g:Int),ns.map nd⟩from rfl]at ih ⊢;rw[e4,qaa,qdl,zak (by omega),<- ih];simp
theorem NetOk.right{num:List Nat}(h:NetOk num g ns):RightN g ns:=by
 have at_v:∀ v (hv:v<ns.length),∃ j,num[j]? = some v/\NodeOk num g (ns.map (·.c)) j ns[v]:=by
  intro v hv;obtain⟨j,hj,hjv⟩:=qbl.1 (h.perm.all v hv);exact⟨j,by rw[qac hj,hjv],h.node j v ns[v] (by rw[qac hj,hjv]) (qac hv)⟩
 have at_x:∀ x∈ns,∃ j v,num[j]? = some v/\NodeOk num g (ns.map (·.c)) j x:=by
  intro x hx;obtain⟨v,hv,rfl⟩:=qbl.1 hx;obtain⟨j,h1,h2⟩:=at_v v hv;exact⟨j,v,h1,h2⟩
 refine⟨h.g1,h.g2,h.n1,h.n2,h.card,h.prod,λx hx=>?_,λx hx p hp=>?_,λx hx=>?_,?_⟩
 .obtain⟨j,v,_,h2⟩:=at_x x hx;exact h2.par.inc
 .obtain⟨j,v,_,h2⟩:=at_x x hx;have:=h2.par.lt p hp;simpa using this
 .obtain⟨j,v,_,h2⟩:=at_x x hx;exact h2.rows
 refine⟨λv=>min (num.idxOf v) 8,λv=>qcb _ _,λv x hx p hp=>?_⟩;obtain⟨hv,rfl⟩:=qab.1 hx;obtain⟨j,h1,h2⟩:=at_v v hv;have hin:=h2.par.mem p hp;obtain⟨hj,ej⟩:=qab.1 h1;obtain⟨k,hk,ek0⟩:=hin;obtain⟨hk2,ek⟩:=qab.1 ek0;have i1:num.idxOf v=j:=by rw[<- ej]; exact h.perm.nod.idxOf_getElem j hj
 have i2:num.idxOf p=k:=by rw[<- ek]; exact h.perm.nod.idxOf_getElem k hk2
 have hn:=h.perm.len;have hn8:=h.n2;simp only[i1,i2];omega
def zlX(ms:List Nat)(mask v:Nat):Prop:=mask.testBit v=false/\Sub (ms.getD v 0) mask
structure First (ms:List Nat) (mask v:Nat):Prop where
 lt:v<ms.length
 ready:zlX ms mask v
 least:∀ u,u<v->¬ zlX ms mask u
def zgI(ms os:List Nat):Prop:=∀ k v,os[k]? = some v->First ms (zd3 (os.take k)) v
variable{os:List Nat}
theorem zgI.app{ms:List Nat}(h:zgI ms os)(hv:First ms (zd3 os) v):zgI ms (os ++ [v]):=by
 intro k u hk;by_cases hl:k<os.length
 .rw[qaf hl]at hk;rw[qcA (by omega)];exact h k u hk
 have hk2:k=os.length:=by
  have:=(qab.1 hk).1;simp at this;omega
 subst hk2;have hu:u=v:=by simpa using hk.symm
 subst hu;simpa using hv
theorem zgI.lt{ms os:List Nat}(h:zgI ms os):∀ x∈os,x<ms.length:=by
 intro x hx;obtain⟨k,hk⟩:=qbH hx;exact(h k x hk).lt
theorem zxE:∀ {xs ys:List Nat},xs.Nodup->(∀ x∈xs,x∈ys)->xs.length<=ys.length
 | [],_,_,_=>qaw _
 | x :: xs,ys,h,hs=>by
  obtain⟨h1,h2⟩:=qc4.1 h;have hx:=hs x qao;have ih:=zxE (xs:=xs) (ys:=ys.erase x) h2 λy hy=>(List.mem_erase_of_ne (λq:y=x=>h1 (by rw[<- q]; exact hy))).2 (hs y (qai _ hy))
  rw[List.length_erase_of_mem hx]at ih;have:=List.length_pos_of_mem hx;simp only[qaH];omega
theorem zvU{ms:List Nat}{mask:Nat}:∀ v,v<ms.length->zlX ms mask v->∃ u,First ms mask u:=by
 intro v;induction v using Nat.strongRecOn with
 | ind v ih=>
  intro hv hr;by_cases h:∃ u,u<v/\zlX ms mask u
  .obtain⟨u,hu,hur⟩:=h;exact ih u hu (by omega) hur
  exact⟨v,hv,hr,λu hu hur=>h ⟨u,hu,hur⟩⟩
def zbT(ns:List NN):List Nat:=ns.map λx=>zd3 x.ps
theorem RightN.zkh{g:Nat}{ns:List NN}(h:RightN g ns):∀ m∈zbT ns,m<18446744073709551616:=by
 intro m hm;obtain⟨x,hx,rfl⟩:=qaJ.1 hm;refine Go.Dc.zkh λp hp=>?_
 have:=h.lt x hx p hp;have:=h.n2;omega
theorem RightN.ready(h:RightN g ns)(os:List Nat){rk:Nat->Nat}(hrk:∀ v x,ns[v]? = some x->∀ p∈x.ps,rk p<rk v):∀(j v:Nat),rk v=j->v<ns.length->v ∉ os->∃ u,u<ns.length/\zlX (zbT ns) (zd3 os) u:=by
 intro j;induction j using Nat.strongRecOn with
 | ind j ih=>
  intro v hj hvl hv;by_cases hp:∃ p,p∈ns[v].ps/\p ∉ os
  .obtain⟨p,hp1,hp2⟩:=hp;have:=hrk v _ (qac hvl) p hp1;exact ih (rk p) (by omega) p rfl (h.lt _ (qas hvl) p hp1) hp2
  refine⟨v,hvl,by rw[zlj]; simp[hv],λi hi=>?_⟩;rw[show(zbT ns).getD v 0=zd3 ns[v].ps by simp[zbT,hvl],zlj]at hi;rw[zlj];have hi2:=qds hi;refine qdn ?_;exact qcV λhno=>hp ⟨i,hi2,hno⟩
theorem RightN.next(h:RightN g ns)(hl:os.length<ns.length):∃ v,First (zbT ns) (zd3 os) v:=by
 obtain⟨rk,_,hrk⟩:=h.rk;by_cases hs:∀ x∈List.range ns.length,x∈os
 .have:=zxE List.nodup_range hs;rw[List.length_range]at this;omega
 have:∃ x,x∈List.range ns.length/\x ∉ os:=qcV λhno=>hs λx hx=>qcV λhx2=>hno ⟨x,hx,hx2⟩
 obtain⟨x,hx,hxo⟩:=this;obtain⟨u,hu,hr⟩:=h.ready os hrk _ x rfl (qbq.1 hx) hxo;exact zvU u (by simpa [zbT]using hu) hr
theorem zsz{ms:List Nat}{mask:Nat}{β:Type}(hm:∀ m∈ms,m<18446744073709551616)(hk:mask<18446744073709551616)(hi:i<ms.length)(h64:i<64)(l:β):
  ∃ b:Bool,(b=true↔zlX ms mask i)/\((zkk .u64 (mask:Int) (i:Int)).bind λq7=>bif ((ziu .u64 q7 1)== 0)then some (((zBP .u64 ((ms[i]:Nat):Int) (mask:Int))== 0),l)else some (false,l))=some (b,l)/\
   ((zkk .u64 (mask:Int) (i:Int)).bind λq7=>bif ((ziu .u64 q7 1)== 0)then some ((zBP .u64 ((ms[i]:Nat):Int) (mask:Int))== 0)else some false)=some b:=by
 obtain⟨q,h1,h2⟩:=zD1 (a:=mask) (v:=i) hk h64;have hmi:=hm _ (qas hi);have hg:ms.getD i 0=ms[i]:=by simp[hi]
 simp only[h1,qaa,h2,zDm];cases hb:mask.testBit i with
 | true=>exact⟨false,by simp[zlX,hb],rfl,rfl⟩
 | false=>
  refine⟨(((diff ms[i] mask:Nat):Int)== 0),?_,rfl,rfl⟩;rw[zlX,hb,hg,<- zuA hmi hk];simp
theorem zmt{ms os:List Nat}{mask C v:Nat}(hn:ms.length<=8)(hm:∀ m∈ms,m<18446744073709551616)(hk:mask<18446744073709551616)(hC:os.length+1<=C)(hv:First ms mask v):∀(n i:Nat),i<=v->v - i<n ->
  zch (iL ms) (mask:Int) C n (i:Int) (iL os)=some (.brk (((mask ||| 2 ^ v:Nat):Int),iL (os ++ [v])))
 | 0,_,_,h=>absurd h (qan _)
 | n+1,i,h1,h3=>by
  unfold zch;have hvl:=hv.lt;have hi:i<ms.length:=by omega
  obtain⟨b,hb,e,_⟩:=zsz hm hk hi (by omega) (iL os);rw[zam,zaq,qdn hi,qdl,zaz hi,qaa,e,qaa];simp only[];by_cases hiv:i=v
  .subst hiv;have hpw:2 ^ i<18446744073709551616:=qbJ (n:=64) (by decide) (by omega);rw[hb.2 hv.ready,qdl];unfold zoa;rw[if_pos (by simp[zam]; omega),qaa,zBQ (by omega),qaa,orU hk hpw];simp[iL]
  have:b=false:=by
   cases b with
   | false=>rfl
   | true=>exact absurd (hb.1 rfl) (hv.least i (by omega))
  rw[this,qdm,zak (by omega),zmt hn hm hk hC hv n (i+1) (by omega) (by omega)]
theorem zmo{g:Nat}{ns:List NN}(h:RightN g ns):∀(n:Nat) (os:List Nat),zgI (zbT ns) os->os.length<=ns.length->ns.length - os.length<n ->
  ∃ os',zgI (zbT ns) os'/\os'.length=ns.length/\zcd (iL (zbT ns)) ns.length n ((zd3 os:Nat):Int) (iL os)=some (.go (iL os'))
 | 0,_,_,_,h=>absurd h (qan _)
 | n+1,os,h1,h2,h3=>by
  unfold zcd;have hml:(zbT ns).length=ns.length:=by simp[zbT]
  have hn:=h.n2;rw[zam,zam,hml,zaq];by_cases hl:os.length<ns.length
  .obtain⟨v,hv⟩:=h.next hl;have hvl:=hv.lt;have hk:zd3 os<18446744073709551616:=Go.Dc.zkh λx hx=>by
    have:=h1.lt x hx;omega
   have e:=zmt (os:=os) (C:=ns.length) (by omega) h.zkh hk (by omega) hv (ns.length+2) 0 (qaw _) (by omega);rw[show((0:Nat):Int)=0 from rfl]at e;obtain⟨os',g1,g2,g3⟩:=zmo h n (os ++ [v]) (h1.app hv) (by simp; omega) (by simp; omega);refine⟨os',g1,g2,?_⟩;rw[qdn hl,qdl,zaJ,e,qaa];simp only[];rw[<- zvP,g3]
  exact⟨os,h1,by omega,by rw[qdo hl,qdm]⟩
theorem ztk(h:RightN g ns):
  ∃ os,zgI (zbT ns) os/\os.length=ns.length/\zdm (iL (zbT ns))=some (iL os,true):=by
 have hml:(zbT ns).length=ns.length:=by simp[zbT]
 have hn:=h.n2;obtain⟨os,g1,g2,g3⟩:=zmo h (ns.length+2) [] (λk v hk=>by simp at hk) (qaw _) (by simp);refine⟨os,g1,g2,?_⟩;unfold zdm;rw[zam,hml];have hcap:zzA 8 ((ns.length:Nat):Int)=some ns.length:=by
  unfold zzA;rw[if_pos ⟨qaF _,by simp only[zah]; omega⟩,qaq]
 rw[hcap,qaa,show(((ns.length:Nat):Int) - ((([]:List Int).length:Nat):Int)+2).toNat=ns.length+2 by simp; omega];rw[show((zd3 []:Nat):Int)=0 from rfl,show iL []=[]from rfl]at g3;rw[g3,qaa]
theorem zuO(h:RightN g ns):
  ∃ os,zgI (zbT ns) os/\os.length=ns.length/\zc0 (zcS g ns)=some (⟨zcS g ns,iL (ns.map (·.c)),iL (zbT ns),iL os⟩,0):=by
 obtain⟨os,g1,g2,g3⟩:=ztk h;refine⟨os,g1,g2,?_⟩;have h1:=h.g1;have h2:=h.g2;have h3:=h.n1;have h4:=h.n2;have hl:(zcS g ns).nodes.length=ns.length:=by simp[zcS]
 have hp:=h.prod;have e1:=zuw (g:=g) (P:=zae (ns.map (·.c))) h.n2 h.card (by omega) (ns.length+2) [] ns 1 rfl (qbS _) (by omega);have e2:=zuS h (ns.length+2) [] ns rfl (by omega);simp only[qc1,qbe,qaN]at e1 e2;rw[show((0:Nat):Int)=0 from rfl]at e1 e2;rw[show((1:Nat):Int)=1 from rfl]at e1;have hz:List.replicate ns.length (0:Int)=iL (List.replicate ns.length 0):=by simp[iL]
 unfold zc0
 rw[hl,show(zcS g ns).grain=(g:Int)from rfl,show decide ((g:Int)<1)=false from qdo (by omega),qdm,show decide ((60:Int)<(g:Int))=false from qdo (by omega),qdm,
  show decide (((ns.length:Nat):Int)<1)=false from qdo (by omega),qdm,qaa,show decide ((8:Int)<((ns.length:Nat):Int))=false from qdo (by omega),qdm,
  zdT (by omega),qaa,zaJ,hz,e1,qaa]
 simp only[];rw[show decide ((1024:Int)<((zae (ns.map (·.c)):Nat):Int))=false from qdo (by omega),qdm,e2,qaa];simp only[];rw[show(ns.map λx=>zd3 x.ps)=zbT ns from rfl,g3,qaa];simp only[];rw[qdl]
end Go.Dc
