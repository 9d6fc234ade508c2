/-
 Trees: what an operation that makes or writes memory of one's own yields. Conditions: none.
-/
import Derived.Test.YtbjogdohfhdaiaaCfJ23
set_option linter.unusedSimpArgs false
set_option linter.unusedVariables false
namespace Go.Lx
open Go Go.Mx
def zpr(L:List LB)(n:Nat):D->Option (List (List D))
 | .lit (.slice none 0 0)=>some []
 | .sl β s n' len cap st=>if n=n' then(match zeg L β n st with
  | some es=>if s+len<=es.length then some ((es.drop s).take len)else none
  | none=>none)else none
 | .fz _ n' els=>if n=n' then some els else none
 | .z0 _ n'=>if n=n' then some []else none
 | _=>none
def zk3(E:List (Nat×D))(n:Nat)(es:List (List D)):List (Nat×X)->Option (List (List D))
 | []=>some es
 |(i,x):: r=>match zcl (evD E x)with
  | some l=>if l.length=n/\i<es.length then zk3 E n (es.set i l) r else none
  | none=>none
def zfj(L:List LB)(n:Nat)(l:List D):D->Option (List LB)
 | .ptr β o=>(match L[β]? with
  | some (.cells ds)=>if l.length=n/\o+n<=ds.length then some (L.set β (.cells (zox ds o l)))else none
  | _=>none)
 | .eptr β n' i off st=>(match L[β]? with
  | some (.els n'' es)=>if n'=n''/\st=es.length then(match es[i]? with
   | some cells=>if l.length=n/\off+n<=cells.length then some (L.set β (.els n' (es.set i (zox cells off l))))else none
   | none=>none)else none
  | some (.grow n'' es)=>if n'=n''/\st=es.length then(match es[i]? with
   | some cells=>if l.length=n/\off+n<=cells.length then some (L.set β (.grow n' (es.set i (zox cells off l))))else none
   | none=>none)else none
  | _=>none)
 | _=>none
def znu(L:List LB)(n bytes:Nat)(src:List (List D)):D->Option (D×List LB)
 | .lit (.slice none 0 0)=>if 0<n/\src.length * bytes<=zah then some (.sl L.length 0 n src.length none src.length,L ++ [.grow n src])else none
 | .sl β s n' len cap st=>(match L[β]? with
  | some (.grow n'' es)=>if n=n'/\n=n''/\s=0/\st=es.length/\len=es.length/\cap=none/\(len+src.length)* bytes<=zah then
    some (.sl β 0 n (len+src.length) none (len+src.length),L.set β (.grow n (es ++ src)))else none
  | some (.els n'' es)=>if n=n'/\n=n''/\st=es.length then(match cap with
   | some k=>if len+src.length<=k then(if s+len+src.length<=es.length then some (.sl β s n (len+src.length) cap st,L.set β (.els n (es.take (s+len)++ src ++ es.drop (s+len+src.length))))else none)
     else if 0<src.length/\s+len<=es.length/\(len+src.length)* bytes<=zah then some (.sl L.length 0 n (len+src.length) none (len+src.length),L ++ [.grow n ((es.drop s).take len ++ src)])else none
   | none=>if s=0/\len=es.length/\(len+src.length)* bytes<=zah then some (.sl β 0 n (len+src.length) none (len+src.length),L.set β (.els n (es ++ src)))else none)else none
  | _=>none)
 | .fz t n' els=>if n=n'/\els.length=0/\src.length=0 then some (.fz t n els,L)else none
 | .z0 t n'=>if n=n'/\0<n/\0<src.length/\src.length * bytes<=zah then some (.sl L.length 0 n src.length none src.length,L ++ [.grow n src])else none
 | _=>none
def zhQ(L:List LB)(E:List (Nat×D)):I->Option (D×List LB)
 | .alloc z=>some (.ptr L.length 0,L ++ [.cells (z.map .lit)])
 | .box x=>(match zcl (evD E x)with
  | some l=>some (.ptr L.length 0,L ++ [.cells l])
  | none=>none)
 | .bsl n len z parts=>if 0<n/\z.length=n then(match zk3 E n (List.replicate len (z.map .lit)) parts with
  | some es=>some (.sl L.length 0 n len (some len) len,L ++ [.els n es])
  | none=>none)else none
 | .store n a x=>(match evD E a with
  | some d=>(match zcl (evD E x)with
   | some l=>(match zfj L n l d with
    | some L'=>some (.any,L')
    | none=>none)
   | none=>none)
  | none=>none)
 | .mk n bytes z l k=>(match zjB (evD E l)with
  | some l=>(match zjB (evD E k)with
   | some k=>if(0<n/\z.length=n)/\0<=l/\l<=k/\k * bytes<=zah then some (.sl L.length 0 n l.toNat (some k.toNat) k.toNat,L ++ [.els n (List.replicate k.toNat (z.map .lit))])else none
   | none=>none)
  | none=>none)
 | .app n bytes s x=>(match evD E s with
  | some d=>(match evD E x with
   | some e=>(match zpr L n e with
    | some src=>znu L n bytes src d
    | none=>none)
   | none=>none)
  | none=>none)
 | .copy n d s=>(match evD E d with
  | some (.sl β s0 n' len cap st)=>(match evD E s with
   | some e=>(match zpr L n e with
    | some src=>(match L[β]? with
     | some (.els n'' es)=>(match cap with
      | some _=>if n=n'/\n=n''/\st=es.length/\s0+len<=es.length then
       some (.lit (.int .i64 (min src.length len:Nat)),L.set β (.els n (es.take s0 ++ src.take (min src.length len)++ es.drop (s0+min src.length len))))else none
      | none=>none)
     | _=>none)
    | none=>none)
   | none=>none)
  | _=>none)
 | _=>none
section
variable {c:Cx} {S:LSt} {M:St} {L:List LB} {H:zaj} {B:Nat}
theorem zoq.mono{c':Cx}{H':zaj}{β:Nat}{lb:LB}(hl:c.le c')(hρ:c'.ρ β=c.ρ β)(hH:∀ x b,c.ρ β=some x->x.blk=some b->H'[b]? = H[b]?)(h:zoq c H β lb):zoq c' H' β lb:=by
 cases lb with
 | cells ds=>
  obtain⟨b,vs,h1,h2,h3⟩:=h;exact⟨b,vs,by rw[hρ]; exact h1,(hH _ b h1 rfl).trans h2,h3.mono hl⟩
 | els n es=>
  obtain⟨h0,⟨g1,g2⟩| ⟨b,vs,h1,h2,h3⟩⟩:=h
  .exact⟨h0,.inl ⟨g1,by rw[hρ]; exact g2⟩⟩
  .exact⟨h0,.inr ⟨b,vs,by rw[hρ]; exact h1,(hH _ b h1 rfl).trans h2,h3.mono hl⟩⟩
 | grow n es=>
  obtain⟨h0,⟨g1,g2⟩| ⟨g0,b,vs,h1,h2,h3⟩⟩:=h
  .exact⟨h0,.inl ⟨g1,by rw[hρ]; exact g2⟩⟩
  .exact⟨h0,.inr ⟨g0,b,vs,by rw[hρ]; exact h1,(hH _ b h1 rfl).trans h2,h3.mono hl⟩⟩
 | gone=>exact hρ.trans h
 | lp st pend N E ps asg body=>
  obtain⟨b,env,h1,h2,h3,h4⟩:=h;exact⟨b,env,by rw[hρ]; exact h1,(hH _ b h1 rfl).trans h2,h3,h4.mono hl⟩
 | lost=>
  obtain⟨b,h1,h2⟩:=h;exact⟨b,by rw[hρ]; exact h1,(hH _ b h1 rfl).trans h2⟩
def Cx.put(c:Cx)(β:Nat)(x:Lc):Cx:={ c with ρ:=λk=>if k=β then some x else c.ρ k }
theorem zat(c:Cx)(β:Nat)(x:Lc):(c.put β x).ρ β=some x:=by simp[Cx.put]
variable{β:Nat}
theorem zb4(c:Cx){k:Nat}(x:Lc)(h:k≠β):(c.put β x).ρ k=c.ρ k:=by simp[Cx.put,h]
variable{lb:LB}
theorem RelH.new(h:RelH c L H){x:Lc}{o:List Ob}(hx:x=.ghost/\o=[]\/∃ vs,x.blk=some H.length/\o=[.blk vs])(hb:∀ c',c.le c'->c'.ρ L.length=some x->zoq c' (H ++ o) L.length lb):
  RelH (c.put L.length x) (L ++ [lb]) (H ++ o)/\Step c H (c.put L.length x) (H ++ o)/\c.le (c.put L.length x):=by
 have hne:∀ β y,c.ρ β=some y->β≠L.length:=λβ y hy=>Nat.ne_of_lt (h.scope β y hy)
 have hle:c.le (c.put L.length x):=⟨λ_ _ h=>h,λ_ _ h=>h,λβ y hy=>⟨y,by rw[zb4 c x (hne β y hy)]; exact hy,Lc.up.refl y⟩,h.apart⟩;have hgrow:∀ b,b<H.length->(H ++ o)[b]? = H[b]?:=λb hb=>qaf hb
 have hblk:∀ b,x.blk=some b->b=H.length/\H.length<(H ++ o).length:=by
  intro b hb';rcases hx with⟨rfl,_⟩| ⟨vs,h1,rfl⟩
  .cases hb'
  rw[h1]at hb'; cases hb'; exact⟨rfl,by simp⟩
 refine⟨⟨?_,?_,?_,?_,?_,?_,?_⟩,⟨by simp,rfl,rfl,λ_ _ h=>h,λb hb' _=>hgrow b hb',?_,λb hb'=>hb'.zev (hgrow b hb'.lt)⟩,hle⟩
 .have:=h.base; simp only[qav]; exact qax this (qbQ _ _)
 .intro b cs hz;obtain⟨h1,h2⟩:=h.za b cs hz;exact⟨h1,by rw[hgrow b (qab.1 h2).1]; exact h2⟩
 .intro b cs hz;obtain⟨h1,h2⟩:=h.zf b cs hz;exact⟨h1,by rw[hgrow b (qab.1 h2).1]; exact h2⟩
 .intro β y b hy hyb;by_cases hβ:β=L.length
  .subst hβ;rw[zat]at hy;cases hy;obtain⟨rfl,h2⟩:=hblk b hyb;refine⟨h.base,h2,?_⟩;cases hz:c.zf H.length with
   | none=>exact hz
   | some cs=>have:=(qab.1 (h.zf _ cs hz).2).1; omega
  rw[zb4 c x hβ]at hy;obtain⟨h1,h2,h3⟩:=h.own β y b hy hyb;exact⟨h1,by simp only[qav]; omega,h3⟩
 .intro β β' y y' b hy hy' hyb hyb';by_cases hβ:β=L.length
  .by_cases hβ':β'=L.length
   .rw[hβ,hβ']
   subst hβ;rw[zat]at hy;cases hy;rw[zb4 c x hβ']at hy';have h1:=(h.own β' y' b hy' hyb').2.1;have h2:=(hblk b hyb).1;omega
  rw[zb4 c x hβ]at hy;by_cases hβ':β'=L.length
  .subst hβ';rw[zat]at hy';cases hy';have h1:=(h.own β y b hy hyb).2.1;have h2:=(hblk b hyb').1;omega
  rw[zb4 c x hβ']at hy';exact h.inj β β' y y' b hy hy' hyb hyb'
 .intro β y hy;by_cases hβ:β=L.length
  .subst hβ; simp
  rw[zb4 c x hβ]at hy;have:=h.scope β y hy;simp only[qav,qaH,qaN];omega
 .intro β lb' hlb;by_cases hβ:β<L.length
  .rw[qaf hβ]at hlb;refine(h.obj β lb' hlb).mono hle (zb4 c x (by omega)) λy b hy hyb=>hgrow b (h.own β y b hy hyb).2.1
  rw[qak (by omega)]at hlb;have:β=L.length:=by
   have:=(qab.1 hlb).1;simp at this;omega
  subst this;simp at hlb;subst hlb;exact hb _ hle (zat c _ x)
 intro β y b hy hyb;by_cases hβ:β=L.length
 .subst hβ;rw[zat]at hy;cases hy;exact .inr (by rw[(hblk b hyb).1]; exact qap _)
 rw[zb4 c x hβ]at hy;exact .inl ⟨β,y,hy,hyb⟩
theorem RelH.write(h:RelH c L H){b:Nat}{x:Lc}(hx:c.ρ β=some x)(hxb:x.blk=some b){ws:List V}(hold:H[b]? = some (.blk ws)){vs:List V}(hb:∀ H':zaj,H'[b]? = some (.blk vs)->zoq c H' β lb):
  RelH c (L.set β lb) (H.set b (.blk vs))/\Step c H c (H.set b (.blk vs)):=by
 obtain⟨o1,o2,o3⟩:=h.own β x b hx hxb;have hself:(H.set b (.blk vs))[b]? = some (.blk vs):=by rw[qaC o2]
 refine⟨⟨by rw[qaG]; exact h.base,?_,?_,?_,h.inj,?_,?_⟩,⟨by simp,rfl,rfl,λ_ _ h=>h,?_,λβ' y b' hy hyb=>.inl ⟨β',y,hy,hyb⟩,λb' hb'=>hb'.zev (qar (λhe=>by
  subst he;obtain⟨_,_,_,_,_,_,h9⟩:=hb';rw[hold]at h9
  cases h9))⟩⟩
 .intro b' cs hz;obtain⟨h1,h2⟩:=h.za b' cs hz;exact⟨h1,by rw[qar (by omega)]; exact h2⟩
 .intro b' cs hz;obtain⟨h1,h2⟩:=h.zf b' cs hz;have:b≠b':=by rintro rfl; rw[o3]at hz; cases hz
  exact⟨h1,by rw[qar this]; exact h2⟩
 .intro β' y b' hy hyb;obtain⟨h1,h2,h3⟩:=h.own β' y b' hy hyb;exact⟨h1,by rw[qaG]; exact h2,h3⟩
 .intro β' y hy;rw[qaG];exact h.scope β' y hy
 .intro β' lb' hlb;by_cases hβ:β=β'
  .subst hβ;rw[qaC (h.scope β x hx)]at hlb;cases hlb;exact hb _ hself
  rw[qar hβ]at hlb;refine(h.obj β' lb' hlb).mono ⟨λ_ _ h=>h,λ_ _ h=>h,λβ y hy=>⟨y,hy,Lc.up.refl y⟩,h.apart⟩ rfl λy b' hy hyb=>?_
  exact qar (λhe=>by subst he; exact hβ (h.inj β β' x y b hx hy hxb hyb))
 intro b' hb' hn;exact qar (λhe=>by subst he; exact hn β x hx hxb)
theorem RelH.move(h:RelH c L H){m:Nat}{x:Lc}(hx:c.ρ β=some x)(hup:x.up (.list H.length m)){vs:List V}{H1:zaj}(hH1:H1.length=H.length)(hH:∀ b,x.blk≠some b->H1[b]? = H[b]?)(hold:∀ b,x.blk=some b->∃ ws,H[b]? = some (.blk ws))(hb:∀ c',c.le c'->c'.ρ β=some (.list H.length m)->zoq c' (H1 ++ [.blk vs]) β lb):
  RelH (c.put β (.list H.length m)) (L.set β lb) (H1 ++ [.blk vs])/\Step c H (c.put β (.list H.length m)) (H1 ++ [.blk vs])/\c.le (c.put β (.list H.length m)):=by
 have hle:c.le (c.put β (.list H.length m)):=by
  refine⟨λ_ _ h=>h,λ_ _ h=>h,λβ' y hy=>?_,h.apart⟩;by_cases hβ:β'=β
  .subst hβ;rw[hx]at hy;cases hy;exact⟨_,zat _ _ _,hup⟩
  exact⟨y,by rw[zb4 c _ hβ]; exact hy,Lc.up.refl y⟩
 have hgrow:∀ b,b<H.length->x.blk≠some b->(H1 ++ [Ob.blk vs])[b]? = H[b]?:=λb hb' hn=>by
  rw[qaf (by omega)]; exact hH b hn
 have hnz:∀ b cs,c.zf b=some cs->x.blk≠some b:=λb cs hz hxb=>by
  rw[(h.own β x b hx hxb).2.2]at hz; cases hz
 have hna:∀ b cs,c.za b=some cs->x.blk≠some b:=λb cs hz hxb=>by
  have h1:=(h.own β x b hx hxb).1;have h2:=(h.za b cs hz).1;omega
 refine⟨⟨?_,?_,?_,?_,?_,?_,?_⟩,⟨by simp; omega,rfl,rfl,λ_ _ h=>h,?_,?_,λb hb'=>hb'.zev (hgrow b hb'.lt (λhe=>by
  obtain⟨ws,h8⟩:=hold b he;obtain⟨_,_,_,_,_,_,h9⟩:=hb';rw[h8]at h9
  cases h9))⟩,hle⟩
 .have:=h.base; simp only[qav,hH1]; exact qax this (qbQ _ _)
 .intro b cs hz;obtain⟨h1,h2⟩:=h.za b cs hz;exact⟨h1,by rw[hgrow b (qab.1 h2).1 (hna b cs hz)]; exact h2⟩
 .intro b cs hz;obtain⟨h1,h2⟩:=h.zf b cs hz;exact⟨h1,by rw[hgrow b (qab.1 h2).1 (hnz b cs hz)]; exact h2⟩
 .intro β' y b hy hyb;by_cases hβ:β'=β
  .subst hβ;rw[zat]at hy;cases hy;cases hyb;refine⟨h.base,by simp; omega,?_⟩;cases hz:c.zf H.length with
   | none=>exact hz
   | some cs=>have:=(qab.1 (h.zf _ cs hz).2).1; omega
  rw[zb4 c _ hβ]at hy;obtain⟨h1,h2,h3⟩:=h.own β' y b hy hyb;exact⟨h1,by simp only[qav,hH1]; omega,h3⟩
 .intro β1 β2 y y' b hy hy' hyb hyb';by_cases hβ:β1=β
  .by_cases hβ':β2=β
   .rw[hβ,hβ']
   subst hβ;rw[zat]at hy;cases hy;cases hyb;rw[zb4 c _ hβ']at hy';have h1:=(h.own β2 y' _ hy' hyb').2.1;omega
  rw[zb4 c _ hβ]at hy;by_cases hβ':β2=β
  .subst hβ';rw[zat]at hy';cases hy';cases hyb';have h1:=(h.own β1 y _ hy hyb).2.1;omega
  rw[zb4 c _ hβ']at hy';exact h.inj β1 β2 y y' b hy hy' hyb hyb'
 .intro β' y hy;rw[qaG];by_cases hβ:β'=β
  .subst hβ; exact h.scope _ x hx
  rw[zb4 c _ hβ]at hy; exact h.scope β' y hy
 .intro β' lb' hlb;by_cases hβ:β=β'
  .subst hβ;rw[qaC (h.scope β x hx)]at hlb;cases hlb;exact hb _ hle (zat c _ _)
  rw[qar hβ]at hlb;refine(h.obj β' lb' hlb).mono hle (zb4 c _ (Ne.symm hβ)) λy b hy hyb=>hgrow b (h.own β' y b hy hyb).2.1 λhxb=>?_
  exact hβ (h.inj β β' x y b hx hy hxb hyb)
 .intro b hb' hn;exact hgrow b hb' (hn β x hx)
 intro β' y b hy hyb;by_cases hβ:β'=β
 .subst hβ;rw[zat]at hy;cases hy;cases hyb;exact .inr (qap _)
 rw[zb4 c _ hβ]at hy;exact .inl ⟨β',y,hy,hyb⟩
end
section
variable {c:Cx} {S:LSt} {M:St} {L:List LB} {H:zaj} {B:Nat}
variable{n:Nat}{cap:Option Nat}{v:V}
theorem zBr{β s len st:Nat}(hr:R c (.sl β s n len cap st) v):(∃ b m,c.ρ β=some (.list b m)/\((st<m/\v.one=true)\/(st=m/\v=.sl b (s * n) n len cap)))\/(c.ρ β=some .ghost/\v=.lit (.slice none 0 0)):=by
 cases hr with
 | sl g1 g2=>exact .inl ⟨_,_,g1,g2⟩
 | slg g1=>exact .inr ⟨g1,rfl⟩
theorem zh2{β s len st b:Nat}(hr:R c (.sl β s n len cap st) v)(hρ:c.ρ β=some (.list b st)):v=.sl b (s * n) n len cap:=by
 rcases zBr hr with⟨b',m,h1,h2⟩| ⟨h1,_⟩
 .rw[hρ]at h1;cases h1;rcases h2 with⟨h2,_⟩| ⟨_,h2⟩
  .omega
  exact h2
 rw[hρ]at h1; cases h1
theorem zfI{α:Type}{l:List α}{i:Nat}{x:α}(h:l[i]? = some x):l.set i x=l:=by
 apply qcM;intro j;by_cases hj:i=j
 .subst hj;rw[qaC (qab.1 h).1,h]
 rw[qar hj]
theorem zrU{n:Nat}:∀ {es:List (List D)},(∀ cells,cells∈es->cells.length=n)->∀ {j:Nat} {d:D},es.flatten[j]? = some d->∃(i:Nat) (cells:List D) (k:Nat),es[i]? = some cells/\cells[k]? = some d/\j=i * n+k
 | [],_,j,d,h=>by simp at h
 | e :: es,hu,j,d,h=>by
  have he:=hu e (by simp);rw[qbn]at h;by_cases hj:j<e.length
  .rw[qaf hj]at h;exact⟨0,e,j,rfl,h,by omega⟩
  rw[qak (by omega)]at h;obtain⟨i,cells,k,h1,h2,h3⟩:=zrU (λx hx=>hu x (qai _ hx)) h;refine⟨i+1,cells,k,by simpa using h1,h2,?_⟩;rw[qb7];omega
variable{o:Nat}
theorem zwV(h:RelH c L H){t:Bool}{els:List (List D)}{b:Nat}{cs:List V}(h4:o+els.length * n<=cs.length)(h5:∀(i:Nat) (cells:List D),els[i]? = some cells->cells.length=n)(h6:∀(i:Nat) (cells:List D) (k:Nat) d v,els[i]? = some cells->cells[k]? = some d->cs[o+i * n+k]? = some v->R (c.frz t) d v):
  Els c n els ((cs.drop o).take (els.length * n)):=by
 have hu:∀ cells,cells∈els->cells.length=n:=λcells hm=>by
  obtain⟨i,hi⟩:=qbH hm;exact h5 i cells hi
 refine⟨hu,⟨by rw[zhU hu]; simp; omega,λj d v g1 g2=>?_⟩⟩;obtain⟨i,cells,k,k1,k2,rfl⟩:=zrU hu g1;simp only[qaA,qaB]at g2;split at g2
 .refine(h6 i cells k d v k1 k2 ?_).zwM h.apart;rw[qbi];exact g2
 cases g2
variable{src:List (List D)}
theorem zel(h:RelH c L H){e:D}(hr:R c e v)(hs:zpr L n e=some src):∃ l,zeR H n v=some (src.length,l)/\Els c n src l:=by
 cases e with
 | lit u=>
  cases zhJ hr;unfold zpr at hs;split at hs<;>first | (cases hs; done)| skip
  .rename_i heq; cases heq; cases hs; exact⟨[],rfl,Els.nil n⟩
  all_goals (rename_i heq; cases heq)
 | sl β s n' len cap st=>
  simp only[zpr]at hs;split at hs
  .rename_i hn;subst hn;cases he:zeg L β n st with
   | none=>rw[he]at hs; cases hs
   | some es=>
    rw[he]at hs;simp only at hs;split at hs
    .rename_i hle;cases hs;rcases slR h he hr with⟨b,vs,q1,rfl,q2,q3⟩| ⟨rfl,rfl,rfl,_,_,rfl,_⟩
     .have hl:((es.drop s).take len).length=len:=by simp; omega
      rw[hl];by_cases h0:len=0
      .subst h0;exact⟨[],by simp[zeR],by simpa using Els.nil n⟩
      refine⟨_,?_,q3.sub s len⟩;have h1:s * n+len * n<=vs.length:=by rw[q3.zlE,<- qaT]; exact qaE n hle
      simp only[zeR,qdq,qdl];rw[show(len == 0)=false by simp[h0],qdm,zbt q2,qaa];simp[slot,qau h1]
     exact⟨[],by simp[zeR],by simpa using Els.nil n⟩
    cases hs
  .cases hs
 | fz t n' els=>
  simp only[zpr]at hs;split at hs
  .rename_i hn;subst hn;cases hs;cases hr with
   | fz h1 h2 h3 h4 h5 h6=>
    rename_i b o cap cs;by_cases h0:src.length=0
    .have:src=[]:=qaz h0;subst this;exact⟨[],by simp[zeR],Els.nil n⟩
    .refine⟨_,?_,zwV h (b:=b) h4 h5 h6⟩;simp only[zeR,qdq,qdl];rw[show(src.length == 0)=false by simpa using h0,qdm,zbt (h.look h1),qaa];simp[slot,qau h4]
   | fz0=>exact⟨[],by simp[zeR],Els.nil n⟩
   | fzn=>exact⟨[],rfl,Els.nil n⟩
  .cases hs
 | z0 t n'=>
  simp only[zpr]at hs;split at hs
  .rename_i hn;subst hn;cases hs;cases hr with
   | z0 h1 h2=>exact⟨[],by simp[zeR],Els.nil n⟩
   | z0n=>exact⟨[],rfl,Els.nil n⟩
  .cases hs
 | _=>cases hs
variable{vs l:List V}
theorem Els.set{es:List (List D)}(h:Els c n es vs){i:Nat}(hi:i<es.length){cells:List D}(hc:cells.length=n)(hr:Rs c cells l):Els c n (es.set i cells) (za7 vs (i * n) l):=by
 have h1:=((h.take i).append (hc ▸ Els.one hr)).append (h.drop (i+1));rw[List.set_eq_take_append_cons_drop,if_pos hi];rw[qaI,qcm]at h1;unfold za7;rw[<- hr.1,hc];rw[show i * n+n=(i+1)* n by rw[qb7]];exact h1
theorem ztM(h:o+l.length<=vs.length):(za7 vs o l).length=vs.length:=by simp[za7]; omega
theorem zo6(n len:Nat)(z:List Value)(hz:z.length=n):Els c n (List.replicate len (z.map D.lit)) (zj6 len (z.map V.lit)):=by
 refine⟨λcells hm=>by rw[(qcE.1 hm).2]; simpa using hz,?_⟩;unfold zj6;induction len with
 | zero=>exact Rs.nil c
 | succ k ih=>rw[qaU,qaU,qbn,qbn]; exact(Rs.lits z).append ih
theorem ziQ(h:Rel c S M){n:Nat}:∀(parts:List (Nat×X)) {es es':List (List D)} {vs:List V},zk3 S.env n es parts=some es'->Els c n es vs->∃ vs',zi8 M.env n vs parts=some vs'/\Els c n es' vs'/\es'.length=es.length
 | [],es,es',vs,he,hr=>by cases he; exact⟨vs,rfl,hr,rfl⟩
 |(i,x):: r,es,es',vs,he,hr=>by
  simp only[zk3]at he;cases h1:zcl (evD S.env x)with
  | none=>rw[h1]at he; cases he
  | some k=>
   rw[h1]at he;simp only at he;split at he
   .rename_i hc;obtain⟨k',g1,g2⟩:=zd6 h h1;obtain⟨vs',g3,g4,g5⟩:=ziQ h r he (hr.set hc.2 hc.1 g2);refine⟨vs',?_,g4,by rw[g5,qaG]⟩;rw[zi8,g1];have e1:(k'.length == n)=true:=by rw[<- g2.1,hc.1]; simp
    have e2:Nat.ble (i * n+n) vs.length=true:=qau (by rw[hr.zlE,show i * n+n=(i+1)* n by rw[qb7]]; exact qaE n hc.2);simp only[e1,e2,qcn,qdl];exact g3
   cases he
theorem zA5{ds l:List D}{l':List V}(h:Rs c ds vs)(hl:Rs c l l')(o:Nat):Rs c (zox ds o l) (za7 vs o l'):=by
 unfold zox za7;rw[<- hl.1];exact((h.take o).append hl).append (h.drop _)
theorem zAw{a m:Nat}(h:o+l.length<=m)(hm:a+m<=vs.length):za7 vs a (za7 ((vs.drop a).take m) o l)=za7 vs (a+o) l:=by
 have hlen:(za7 ((vs.drop a).take m) o l).length=m:=by rw[ztM]<;>simp<;>omega
 apply qcM;intro j;unfold za7 at hlen ⊢;rw[hlen];simp only[qbk,qav,qbh,qaA,qaB,qca]
 repeat' split
 all_goals first | rfl | omega | (congr 1; omega)
variable{L':List LB}
theorem zog(h:RelH c L H)(hB:B<=c.base){d:D}{l:List D}{l':List V}(hr:R c d v)(hl:Rs c l l')(hs:zfj L n l d=some L'):
  ∃ β o cs,v=.ptr β o/\H[β]? = some (.blk cs)/\B<=β/\l'.length=n/\o+n<=cs.length/\RelH c L' (H.set β (.blk (za7 cs o l')))/\Step c H c (H.set β (.blk (za7 cs o l'))):=by
 cases d with
 | ptr β o=>
  simp only[zfj]at hs;split at hs
  .rename_i ds heq;split at hs
   .rename_i hc;cases hs;obtain⟨b,vs,k1,k2,k3⟩:=h.obj β _ heq;cases hr with
    | ptr g1=>
     rw[k1]at g1;cases g1;have hw:=h.write k1 rfl k2 (lb:=.cells (zox ds o l)) (vs:=za7 vs o l') λH' hH'=>⟨b,_,k1,hH',zA5 k3 hl o⟩
     exact⟨b,o,vs,rfl,k2,qax hB (h.own β _ b k1 rfl).1,by rw[<- hl.1]; exact hc.1,by rw[<- k3.1]; exact hc.2,hw.1,hw.2⟩
   cases hs
  .cases hs
 | eptr β n' i off st=>
  have key:∀ es,zeg L β n' st=some es->∀ cells,es[i]? = some cells->l.length=n->off+n<=cells.length->∀ lb,(∀ H' b vs,c.ρ β=some (.list b st)->st=es.length->H'[b]? = some (.blk vs)->0<n'->Els c n' (es.set i (zox cells off l)) vs->zoq c H' β lb)->
    ∃ β' o cs,v=.ptr β' o/\H[β']? = some (.blk cs)/\B<=β'/\l'.length=n/\o+n<=cs.length/\RelH c (L.set β lb) (H.set β' (.blk (za7 cs o l')))/\Step c H c (H.set β' (.blk (za7 cs o l'))):=by
   intro es he cells hi hln hoff lb hlb;obtain⟨b,vs,k1,k2,k3,k4⟩:=zq6 h he hr;obtain⟨e1,e2,_⟩:=zdF h he;have hil:=(qab.1 hi).1;have hcl:cells.length=n':=k4.len cells (qay hi);have hroom:i * n'+n'<=vs.length:=by rw[k4.zlE,show i * n'+n'=(i+1)* n' by rw[qb7]]; exact qaE n' hil
   have hE:=k4.set hil (cells:=zox cells off l) (l:=za7 ((vs.drop (i * n')).take n') off l') (by simp[zox]; omega) (zA5 (k4.at_ hi) hl off);rw[zAw (by rw[<- hl.1]; omega) hroom]at hE;have hw:=h.write k1 rfl k3 (lb:=lb) (vs:=za7 vs (i * n'+off) l') λH' hH'=>hlb H' b _ k1 e2 hH' e1 hE
   exact⟨b,_,vs,k2,k3,qax hB (h.own β _ b k1 rfl).1,by rw[<- hl.1]; exact hln,by omega,hw.1,hw.2⟩
  simp only[zfj]at hs;split at hs
  .rename_i n'' es heq;split at hs
   .rename_i hc;obtain⟨rfl,hc2⟩:=hc;split at hs
    .rename_i cells hi;split at hs
     .rename_i hcc;cases hs;exact key es (by simp[zeg,heq,hc2]) cells hi hcc.1 hcc.2 _ λH' b vs g1 g2 g3 g4 g5=>⟨g4,.inr ⟨b,vs,by rw[qaG,<- g2]; exact g1,g3,g5⟩⟩
     cases hs
    cases hs
   cases hs
  .rename_i n'' es heq;split at hs
   .rename_i hc;obtain⟨rfl,hc2⟩:=hc;split at hs
    .rename_i cells hi;split at hs
     .rename_i hcc;cases hs;refine key es (by simp[zeg,heq,hc2]) cells hi hcc.1 hcc.2 _ λH' b vs g1 g2 g3 g4 g5=>⟨g4,.inr ⟨?_,b,vs,by rw[qaG,<- g2]; exact g1,g3,g5⟩⟩
      have hil:=(qab.1 hi).1;intro h0;have:=congrArg List.length h0;simp at this;subst this;simp at hil
     cases hs
    cases hs
   cases hs
  .cases hs
 | _=>cases hs
theorem zsC(h:RelH c L H){es:List (List D)}(hn:0<n)(he:Els c n es vs)(hne:es≠[]):
  RelH (c.put L.length (.list H.length es.length)) (L ++ [.grow n es]) (H ++ [.blk vs])/\Step c H (c.put L.length (.list H.length es.length)) (H ++ [.blk vs])/\c.le (c.put L.length (.list H.length es.length))/\
   R (c.put L.length (.list H.length es.length)) (.sl L.length 0 n es.length none es.length) (.sl H.length 0 n es.length none):=by
 obtain⟨g1,g2,g3⟩:=h.new (x:=.list H.length es.length) (lb:=.grow n es) (o:=[.blk vs]) (.inr ⟨vs,rfl,rfl⟩) λc' hle hρ=>⟨hn,.inr ⟨hne,_,vs,hρ,by simp,he.mono hle⟩⟩
 exact⟨g1,g2,g3,.sl (zat _ _ _) (.inr ⟨rfl,by simp⟩)⟩
theorem zrE(h:RelH c L H)(hB:B<=c.base){bytes:Nat}{d d':D}{w:V}{env:List V}{s x:X}(hv:ev env s=some v)(hx:(ev env x).bind (zeR H n)=some (src.length,l))(hr:R c d v)(hl:Els c n src l)(hs:znu L n bytes src d=some (d',L')):
  ∃ v' H' c',eff B H env (.app n bytes s x)=some (v',H')/\RelH c' L' H'/\Step c H c' H'/\c.le c'/\R c' d' v':=by
 have hle0:c.le c:=⟨λ_ _ h=>h,λ_ _ h=>h,λβ y hy=>⟨y,hy,Lc.up.refl y⟩,h.apart⟩;have hnil:v=.lit (.slice none 0 0)->0<n->src.length * bytes<=zah->∃ v' H' c',eff B H env (.app n bytes s x)=some (v',H')/\RelH c' (L ++ [.grow n src]) H'/\Step c H c' H'/\c.le c'/\R c' (.sl L.length 0 n src.length none src.length) v':=by
  intro hv0 hn hb;subst hv0;by_cases h0:src=[]
  .subst h0;obtain⟨g1,g2,g3⟩:=h.new (x:=.ghost) (lb:=.grow n []) (o:=[]) (.inl ⟨rfl,rfl⟩) λc' hle hρ=>⟨hn,.inl ⟨rfl,hρ⟩⟩
   rw[qaY]at g1 g2;exact⟨_,_,_,by simp[eff,hv,hx],g1,g2,g3,.slg (zat _ _ _)⟩
  obtain⟨g1,g2,g3,g4⟩:=zsC h hn hl h0;have h0':(src.length == 0)=false:=by
   cases src with
   | nil=>exact absurd rfl h0
   | cons _ _=>rfl
  exact⟨_,_,_,by simp only[eff,hv,hx,h0',qdm,qau hb,qdl],g1,g2,g3,g4⟩
 cases d with
 | lit u=>
  cases zhJ hr;unfold znu at hs;split at hs<;>first | (cases hs; done)| skip
  .rename_i heq;cases heq;split at hs
   .rename_i hc; cases hs; exact hnil rfl hc.1 hc.2
   cases hs
  all_goals (rename_i heq; cases heq)
 | z0 t n'=>
  simp only[znu]at hs;split at hs
  .rename_i hc;obtain⟨rfl,hc1,hc2,hc3⟩:=hc;cases hs;cases hr with
   | z0n=>exact hnil rfl hc1 hc3
   | z0 h1 h2=>
    rename_i b o cs;have h0:src≠[]:=by rintro rfl; simp at hc2
    obtain⟨g1,g2,g3,g4⟩:=zsC h hc1 hl h0;have h0':(src.length == 0)=false:=by simp; exact h0
    have h1':Nat.ble (0+src.length) 0=false:=by
     cases hb:Nat.ble (0+src.length) 0 with
     | false=>rfl
     | true=>have:=qah hb; omega
    have h1'':Nat.ble src.length 0=false:=by rw[<- h1',qaK]
    refine⟨.sl H.length 0 n src.length none,_,_,?_,g1,g2,g3,g4⟩;simp only[eff,hv,hx,qdq,qba,qdm,h0',zbt (h.look h1),h1',qbZ,qbo,qau h2,qaK,h1'',qau hc3,qcw,qdl,qcD,qbe]
  .cases hs
 | fz t n' els=>
  simp only[znu]at hs;split at hs
  .rename_i hc;obtain⟨rfl,hc1,hc2⟩:=hc;cases hs;have:els=[]:=qaz hc1;subst this;refine⟨v,H,c,?_,h,Step.refl _ _,hle0,hr⟩;rw[hc2]at hx;cases hr with
   | fz h1 h2 h3 h4 h5 h6=>simp[eff,hv,hx]
   | fz0=>simp[eff,hv,hx]
   | fzn=>simp[eff,hv,hx]
  .cases hs
 | sl β s0 n' len cap st=>
  simp only[znu]at hs;split at hs
  .rename_i n'' es heq;split at hs
   .rename_i hc;obtain⟨rfl,rfl,rfl,rfl,rfl,rfl,hc⟩:=hc;cases hs;obtain⟨hn,hg⟩:=h.obj β _ heq;rcases hg with⟨rfl,hρ⟩| ⟨hne,b,vs,hρ,hH,hE⟩
    .cases hr with
     | sl g1 g2=>rw[hρ]at g1; cases g1
     | slg g1=>
      simp only[qaN,qaK,qbe]at hc ⊢;by_cases h0:src=[]
      .subst h0;rw[zfI heq];exact⟨_,H,c,by simp[eff,hv,hx],h,Step.refl _ _,hle0,.slg hρ⟩
      have hpos:0<src.length:=by
       cases src with
       | nil=>exact absurd rfl h0
       | cons _ _=>simp
      obtain⟨g1,g2,g3⟩:=h.move (β:=β) (m:=src.length) (vs:=l) (lb:=.grow n src) hρ (.inr ⟨_,_,rfl,hpos⟩) (H1:=H) rfl (λ_ _=>rfl) (λb hb=>by cases hb) λc' hle hρ'=>⟨hn,.inr ⟨h0,_,l,hρ',by simp,hl.mono hle⟩⟩
      have h0':(src.length == 0)=false:=by simp; exact h0
      exact⟨.sl H.length 0 n src.length none,_,_,by simp only[eff,hv,hx,h0',qdm,qau hc,qdl],g1,g2,g3,.sl (zat _ _ _) (.inr ⟨rfl,by simp⟩)⟩
    have hvv:=zh2 hr hρ;subst hvv;by_cases h0:src=[]
    .subst h0;simp only[qaY,qaN,qbo];rw[zfI heq];exact⟨.sl b (0 * n) n es.length none,H,c,by simp[eff,hv,hx],h,Step.refl _ _,hle0,.sl hρ (.inr ⟨rfl,rfl⟩)⟩
    have hpos:0<src.length:=by
     cases src with
     | nil=>exact absurd rfl h0
     | cons _ _=>simp
    have h0':(src.length == 0)=false:=by simp; exact h0
    have hob:=h.own β _ b hρ rfl;obtain⟨g1,g2,g3⟩:=h.move (β:=β) (m:=es.length+src.length) (vs:=vs ++ l) (lb:=.grow n (es ++ src)) hρ (.inr ⟨_,_,rfl,by omega⟩) (H1:=H.set b .dead) (by simp)
     (λb' hb'=>qar (λhe=>hb' (by rw[he]; rfl))) (λb' hb'=>by cases hb'; exact⟨_,hH⟩) λc' hle hρ'=>⟨hn,.inr ⟨by simp[hne],_,vs ++ l,by rw[qav]; exact hρ',by simp,(hE.append hl).mono hle⟩⟩
    refine⟨.sl H.length 0 n (es.length+src.length) none,_,_,?_,g1,g2,g3,.sl (zat _ _ _) (.inr ⟨rfl,by simp⟩)⟩;have e1:(0+es.length * n == vs.length)=true:=by rw[hE.zlE]; simp
    have e2:Nat.ble (0+(es.length+src.length)* n) vs.length=false:=by
     cases hq:Nat.ble (0+(es.length+src.length)* n) vs.length with
     | false=>rfl
     | true=>
      have h5:=qah hq;have h6:=Nat.mul_pos hpos hn;rw[hE.zlE,qaT]at h5;omega
    simp only[eff,hv,hx,qdq,qba,qdm,h0',zbt hH,e2,qau (qax hB hob.1),qbZ,e1,qau hc,qcw,qdl,qa8]
   cases hs
  .rename_i n'' es heq;split at hs
   .rename_i hc;obtain⟨rfl,rfl,rfl⟩:=hc;cases cap with
    | none=>
     simp only at hs;split at hs
     .rename_i hc;obtain⟨rfl,rfl,hc⟩:=hc;cases hs;obtain⟨hn,hg⟩:=h.obj β _ heq;rcases hg with⟨rfl,hρ⟩| ⟨b,vs,hρ,hH,hE⟩
      .cases hr with
       | sl g1 g2=>rw[hρ]at g1; cases g1
       | slg g1=>
        simp only[qaN,qaK,qbe]at hc ⊢;by_cases h0:src=[]
        .subst h0;rw[zfI heq];exact⟨_,H,c,by simp[eff,hv,hx],h,Step.refl _ _,hle0,.slg hρ⟩
        have hpos:0<src.length:=by
         cases src with
         | nil=>exact absurd rfl h0
         | cons _ _=>simp
        obtain⟨g1,g2,g3⟩:=h.move (β:=β) (m:=src.length) (vs:=l) (lb:=.els n src) hρ (.inr ⟨_,_,rfl,hpos⟩) (H1:=H) rfl (λ_ _=>rfl) (λb hb=>by cases hb) λc' hle hρ'=>⟨hn,.inr ⟨_,l,hρ',by simp,hl.mono hle⟩⟩
        have h0':(src.length == 0)=false:=by simp; exact h0
        exact⟨.sl H.length 0 n src.length none,_,_,by simp only[eff,hv,hx,h0',qdm,qau hc,qdl],g1,g2,g3,.sl (zat _ _ _) (.inr ⟨rfl,by simp⟩)⟩
      have hvv:=zh2 hr hρ;subst hvv;by_cases h0:src=[]
      .subst h0;simp only[qaY,qaN,qbo];rw[zfI heq];exact⟨.sl b (0 * n) n es.length none,H,c,by simp[eff,hv,hx],h,Step.refl _ _,hle0,.sl hρ (.inr ⟨rfl,rfl⟩)⟩
      have hpos:0<src.length:=by
       cases src with
       | nil=>exact absurd rfl h0
       | cons _ _=>simp
      have h0':(src.length == 0)=false:=by simp; exact h0
      have hob:=h.own β _ b hρ rfl;obtain⟨g1,g2,g3⟩:=h.move (β:=β) (m:=es.length+src.length) (vs:=vs ++ l) (lb:=.els n (es ++ src)) hρ (.inr ⟨_,_,rfl,by omega⟩) (H1:=H.set b .dead) (by simp)
       (λb' hb'=>qar (λhe=>hb' (by rw[he]; rfl))) (λb' hb'=>by cases hb'; exact⟨_,hH⟩) λc' hle hρ'=>⟨hn,.inr ⟨_,vs ++ l,by rw[qav]; exact hρ',by simp,(hE.append hl).mono hle⟩⟩
      refine⟨.sl H.length 0 n (es.length+src.length) none,_,_,?_,g1,g2,g3,.sl (zat _ _ _) (.inr ⟨rfl,by simp⟩)⟩;have e1:(0+es.length * n == vs.length)=true:=by rw[hE.zlE]; simp
      have e2:Nat.ble (0+(es.length+src.length)* n) vs.length=false:=by
       cases hq:Nat.ble (0+(es.length+src.length)* n) vs.length with
       | false=>rfl
       | true=>
        have h5:=qah hq;have h6:=Nat.mul_pos hpos hn;rw[hE.zlE,qaT]at h5;omega
      simp only[eff,hv,hx,qdq,qba,qdm,h0',zbt hH,e2,qau (qax hB hob.1),qbZ,e1,qau hc,qcw,qdl,qa8]
     .cases hs
    | some k=>
    simp only at hs;obtain⟨hn,⟨_,hgh⟩| ⟨b,vs,hρ,hH,hE⟩⟩:=h.obj β _ heq
    .cases hr with
     | sl q1 q2=>rw[hgh]at q1; cases q1
    have hvv:=zh2 hr hρ;subst hvv;have hob:=h.own β _ b hρ rfl;split at hs
    .rename_i hk;split at hs
     .rename_i hroom;cases hs;have hE':=((hE.take (s0+len)).append hl).append (hE.drop (s0+len+src.length));have hlen:(es.take (s0+len)++ src ++ es.drop (s0+len+src.length)).length=es.length:=by simp; omega
      by_cases h0:src=[]
      .subst h0;simp only[qaY,qaN,qbo,qco];rw[zfI heq];exact⟨_,H,c,by simp[eff,hv,hx],h,Step.refl _ _,hle0,.sl hρ (.inr ⟨rfl,rfl⟩)⟩
      have h0':(src.length == 0)=false:=by simp; exact h0
      have hvs:za7 vs (s0 * n+len * n) l=vs.take ((s0+len)* n)++ l ++ vs.drop ((s0+len+src.length)* n):=by
       unfold za7;rw[<- hl.rel.1,zhU hl.len,<- qaT,<- qaT]
      have hw:=h.write hρ rfl hH (lb:=.els n (es.take (s0+len)++ src ++ es.drop (s0+len+src.length))) (vs:=za7 vs (s0 * n+len * n) l) λH' hH'=>⟨hn,.inr ⟨b,_,by rw[hlen]; exact hρ,hH',by rw[hvs]; exact hE'⟩⟩
      refine⟨.sl b (s0 * n) n (len+src.length) (some k),_,c,?_,hw.1,hw.2,hle0,.sl hρ (.inr ⟨rfl,rfl⟩)⟩;have e1:Nat.ble (s0 * n+(len+src.length)* n) vs.length=true:=qau (by rw[hE.zlE,<- qaT]; exact qaE n (by omega));simp only[eff,hv,hx,qdq,qba,qdm,h0',zbt hH,qau hk,qau (qax hB hob.1),e1,qcw,qdl]
     cases hs
    rename_i hk;split at hs
    .rename_i hc;cases hs;have h0':(src.length == 0)=false:=by simp; intro h; rw[h]at hc; simp at hc
     have hk':Nat.ble (len+src.length) k=false:=by
      cases hb:Nat.ble (len+src.length) k with
      | false=>rfl
      | true=>exact absurd (qah hb) hk
     have hE':=(hE.sub s0 len).append hl;have hlen:((es.drop s0).take len ++ src).length=len+src.length:=by simp; omega
     have hne:(es.drop s0).take len ++ src≠[]:=by
      intro h0;have h00:=hlen;rw[h0]at h00;simp only[qaN]at h00;omega
     obtain⟨g1,g2,g3,g4⟩:=zsC h hn hE' hne;rw[hlen]at g1 g2 g3 g4;refine⟨.sl H.length 0 n (len+src.length) none,_,_,?_,g1,g2,g3,g4⟩;have e1:Nat.ble (s0 * n+len * n) vs.length=true:=qau (by rw[hE.zlE,<- qaT]; exact qaE n hc.2.1);simp only[eff,hv,hx,qdq,qba,qdm,h0',zbt hH,hk',e1,qau hc.2.2,qcw,qdl]
    cases hs
   cases hs
  .cases hs
 | _=>cases hs
theorem zqy(h:Rel c S M)(hB:B<=c.base){i:I}{d:D}(he:zhQ S.heap S.env i=some (d,L')):
  ∃ v H' c',eff B M.heap M.env i=some (v,H')/\RelH c' L' H'/\Step c M.heap c' H'/\c.le c'/\R c' d v:=by
 have hle0:c.le c:=⟨λ_ _ h=>h,λ_ _ h=>h,λβ y hy=>⟨y,hy,Lc.up.refl y⟩,h.heap.apart⟩;cases i with
 | alloc z=>
  cases he;obtain⟨g1,g2,g3⟩:=h.heap.new (x:=.cell M.heap.length) (lb:=.cells (z.map .lit)) (o:=[.blk (z.map .lit)]) (.inr ⟨_,rfl,rfl⟩) λc' hle hρ=>⟨_,_,hρ,by simp,Rs.lits z⟩
  exact⟨_,_,_,rfl,g1,g2,g3,.ptr (zat _ _ _)⟩
 | box x=>
  simp only[zhQ]at he;cases hx:zcl (evD S.env x)with
  | none=>rw[hx]at he; cases he
  | some l=>
   rw[hx]at he;cases he;obtain⟨l',k1,k2⟩:=zd6 h hx;obtain⟨g1,g2,g3⟩:=h.heap.new (x:=.cell M.heap.length) (lb:=.cells l) (o:=[.blk l']) (.inr ⟨_,rfl,rfl⟩) λc' hle hρ=>⟨_,_,hρ,by simp,k2.mono hle⟩
   exact⟨_,_,_,by simp only[eff,k1],g1,g2,g3,.ptr (zat _ _ _)⟩
 | bsl n len z parts=>
  simp only[zhQ]at he;split at he
  .rename_i hn;cases hf:zk3 S.env n (List.replicate len (z.map .lit)) parts with
   | none=>rw[hf]at he; cases he
   | some es=>
    rw[hf]at he;cases he;obtain⟨vs,k1,k2,k3⟩:=ziQ h parts hf (zo6 n len z hn.2);have hl:es.length=len:=by rw[k3]; simp
    obtain⟨g1,g2,g3⟩:=h.heap.new (x:=.list M.heap.length len) (lb:=.els n es) (o:=[.blk vs]) (.inr ⟨_,rfl,rfl⟩) λc' hle hρ=>⟨hn.1,.inr ⟨_,_,by rw[hl]; exact hρ,by simp,k2.mono hle⟩⟩
    exact⟨.sl M.heap.length 0 n len (some len),_,_,by simp only[eff,k1],g1,g2,g3,.sl (zat _ _ _) (.inr ⟨rfl,by simp⟩)⟩
  .cases he
 | store n a x=>
  simp only[zhQ]at he;cases ha:evD S.env a with
  | none=>rw[ha]at he; cases he
  | some d0=>
   rw[ha]at he;cases hx:zcl (evD S.env x)with
   | none=>rw[hx]at he; cases he
   | some l=>
    rw[hx]at he;simp only at he;cases hs:zfj S.heap n l d0 with
    | none=>rw[hs]at he; cases he
    | some L1=>
     rw[hs]at he;cases he;obtain⟨v,k1,k2⟩:=zac h ha;obtain⟨l',k3,k4⟩:=zd6 h hx;obtain⟨β,o,cs,rfl,e1,e2,e3,e4,e5,e6⟩:=zog h.heap hB k2 k4 hs;refine⟨zaG,_,c,?_,e5,e6,hle0,.any _⟩;have e3':(l'.length == n)=true:=by simp[e3]
     simp only[eff,k1,k3,zbt e1,qau e2,e3',qau e4,qcw,qdl]
 | mk n bytes z l k=>
  simp only[zhQ]at he;cases h1:zjB (evD S.env l)with
  | none=>rw[h1]at he; cases he
  | some l'=>
   rw[h1]at he;cases h2:zjB (evD S.env k)with
   | none=>rw[h2]at he; cases he
   | some k'=>
    rw[h2]at he;simp only at he;split at he
    .rename_i hc;obtain⟨hn,c1,c2,c3⟩:=hc;cases he;have k2:=zo6 (c:=c) n k'.toNat z hn.2;obtain⟨g1,g2,g3⟩:=h.heap.new (x:=.list M.heap.length k'.toNat) (lb:=.els n (List.replicate k'.toNat (z.map .lit))) (o:=[.blk (zj6 k'.toNat (z.map .lit))]) (.inr ⟨_,rfl,rfl⟩) λc' hle hρ=>⟨hn.1,.inr ⟨_,_,by simpa using hρ,by simp,k2.mono hle⟩⟩
     refine⟨_,_,_,?_,g1,g2,g3,.sl (zat _ _ _) (.inr ⟨rfl,rfl⟩)⟩;simp only[eff,zdM h h1,zdM h h2,qdn c1,qdn c2,qdn c3,qcw,qdl,qbZ]
    .cases he
 | app n bytes s x=>
  simp only[zhQ]at he;cases hs:evD S.env s with
  | none=>rw[hs]at he; cases he
  | some d0=>
   rw[hs]at he;cases hx:evD S.env x with
   | none=>rw[hx]at he; cases he
   | some e=>
    rw[hx]at he;simp only at he;cases hsrc:zpr S.heap n e with
    | none=>rw[hsrc]at he; cases he
    | some src=>
     rw[hsrc]at he;obtain⟨v,k1,k2⟩:=zac h hs;obtain⟨v',k3,k4⟩:=zac h hx;obtain⟨l,k5,k6⟩:=zel h.heap k4 hsrc;exact zrE h.heap hB k1 (by rw[k3]; exact k5) k2 k6 he (w:=v)
 | copy n x s=>
  simp only[zhQ]at he;split at he
  .rename_i β s0 n' len cap st hx;cases hs:evD S.env s with
   | none=>rw[hs]at he; cases he
   | some e=>
    rw[hs]at he;simp only at he;cases hsrc:zpr S.heap n e with
    | none=>rw[hsrc]at he; cases he
    | some src=>
     rw[hsrc]at he;simp only at he;split at he
     .rename_i n'' es heq;cases cap with
      | none=>cases he
      | some kcap=>
      simp only at he;split at he
      .rename_i hc;obtain⟨rfl,rfl,rfl,hc⟩:=hc;cases he;obtain⟨v,k1,k2⟩:=zac h hx;obtain⟨v',k3,k4⟩:=zac h hs;obtain⟨l,k5,k6⟩:=zel h.heap k4 hsrc;obtain⟨hn,⟨_,hgh⟩| ⟨b,vs,hρ,hH,hE⟩⟩:=h.heap.obj β _ heq
       .cases k2 with
        | sl q1 q2=>rw[hgh]at q1; cases q1
       have hvv:=zh2 k2 hρ;subst hvv;have hob:=h.heap.own β _ b hρ rfl;have hm:min src.length len<=len:=qcb _ _;have hm':min src.length len<=src.length:=Nat.min_le_left _ _;generalize hmm:min src.length len=m at *;have hE':=((hE.take s0).append (k6.take m)).append (hE.drop (s0+m));have hlen:(es.take s0 ++ src.take m ++ es.drop (s0+m)).length=es.length:=by simp; omega
       have hvs:za7 vs (s0 * n) (l.take (m * n))=vs.take (s0 * n)++ l.take (m * n)++ vs.drop ((s0+m)* n):=by
        unfold za7;have:(l.take (m * n)).length=m * n:=by
         rw[qbh,k6.zlE];exact qbd (qaE n hm')
        rw[this,<- qaT]
       have hw:=h.heap.write hρ rfl hH (lb:=.els n (es.take s0 ++ src.take m ++ es.drop (s0+m))) (vs:=za7 vs (s0 * n) (l.take (m * n))) λH' hH'=>⟨hn,.inr ⟨b,_,by rw[hlen]; exact hρ,hH',by rw[hvs]; exact hE'⟩⟩
       refine⟨.lit (.int .i64 (m:Nat)),_,c,?_,hw.1,hw.2,hle0,.lit _⟩;have e1:Nat.ble (s0 * n+m * n) vs.length=true:=qau (by rw[hE.zlE,<- qaT]; exact qaE n (by omega));simp only[eff,k1,k3,k5,zbt hH,qdq,qau (qax hB hob.1),hmm,e1,qcw,qdl]
      cases he
     cases he
  .cases he
 | _=>cases he
end
end Go.Lx
