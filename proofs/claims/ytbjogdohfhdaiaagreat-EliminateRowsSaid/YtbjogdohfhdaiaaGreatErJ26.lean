/-
 Trees: what an operation that makes or writes memory of one's own yields. Conditions: none.
-/
import Derived.Test.YtbjogdohfhdaiaaGreatErJ25
set_option linter.unusedSimpArgs false
set_option linter.unusedVariables false
namespace Go.Lx
open Go Go.Mx
def zp6(L:List LB)(n:Nat):D->Option (List (List D))
 | .lit (.slice none 0 0)=>some []
 | .sl β s n' len cap st=>if n=n' then(match zgP L β n st with
  | some es=>if s+len<=es.length then some ((es.drop s).take len)else none
  | none=>none)else none
 | .fz _ n' els=>if n=n' then some els else none
 | .z0 _ n'=>if n=n' then some []else none
 | _=>none
def znz(E:List (Nat×D))(n:Nat)(es:List (List D)):List (Nat×X)->Option (List (List D))
 | []=>some es
 |(i,x):: r=>match zc9 (evD E x)with
  | some l=>if l.length=n/\i<es.length then znz E n (es.set i l) r else none
  | none=>none
def zgV(L:List LB)(n:Nat)(l:List D):D->Option (List LB)
 | .ptr β o=>(match L[β]? with
  | some (.cells ds)=>if l.length=n/\o+n<=ds.length then some (L.set β (.cells (zpa ds o l)))else none
  | _=>none)
 | .eptr β n' i off st=>(match L[β]? with
  | some (.els n'' es)=>if n'=n''/\st=es.length then(match es[i]? with
   | some cells=>if l.length=n/\off+n<=cells.length then some (L.set β (.els n' (es.set i (zpa cells off l))))else none
   | none=>none)else none
  | some (.grow n'' es)=>if n'=n''/\st=es.length then(match es[i]? with
   | some cells=>if l.length=n/\off+n<=cells.length then some (L.set β (.grow n' (es.set i (zpa cells off l))))else none
   | none=>none)else none
  | _=>none)
 | _=>none
def zp8(L:List LB)(n bytes:Nat)(src:List (List D)):D->Option (D×List LB)
 | .lit (.slice none 0 0)=>if 0<n/\src.length * bytes<=zah then some (.sl L.length 0 n src.length none src.length,L ++ [.grow n src])else none
 | .sl β s n' len cap st=>(match L[β]? with
  | some (.grow n'' es)=>if n=n'/\n=n''/\s=0/\st=es.length/\len=es.length/\cap=none/\(len+src.length)* bytes<=zah then
    some (.sl β 0 n (len+src.length) none (len+src.length),L.set β (.grow n (es ++ src)))else none
  | some (.els n'' es)=>if n=n'/\n=n''/\st=es.length then(match cap with
   | some k=>if len+src.length<=k then(if s+len+src.length<=es.length then some (.sl β s n (len+src.length) cap st,L.set β (.els n (es.take (s+len)++ src ++ es.drop (s+len+src.length))))else none)
     else if 0<src.length/\s+len<=es.length/\(len+src.length)* bytes<=zah then some (.sl L.length 0 n (len+src.length) none (len+src.length),L ++ [.grow n ((es.drop s).take len ++ src)])else none
   | none=>if s=0/\len=es.length/\(len+src.length)* bytes<=zah then some (.sl β 0 n (len+src.length) none (len+src.length),L.set β (.els n (es ++ src)))else none)else none
  | _=>none)
 | .fz t n' els=>if n=n'/\els.length=0/\src.length=0 then some (.fz t n els,L)else none
 | .z0 t n'=>if n=n'/\0<n/\0<src.length/\src.length * bytes<=zah then some (.sl L.length 0 n src.length none src.length,L ++ [.grow n src])else none
 | _=>none
def zjB(L:List LB)(E:List (Nat×D)):I->Option (D×List LB)
 | .alloc z=>some (.ptr L.length 0,L ++ [.cells (z.map .lit)])
 | .box x=>(match zc9 (evD E x)with
  | some l=>some (.ptr L.length 0,L ++ [.cells l])
  | none=>none)
 | .bsl n len z parts=>if 0<n/\z.length=n then(match znz E n (List.replicate len (z.map .lit)) parts with
  | some es=>some (.sl L.length 0 n len (some len) len,L ++ [.els n es])
  | none=>none)else none
 | .store n a x=>(match evD E a with
  | some d=>(match zc9 (evD E x)with
   | some l=>(match zgV L n l d with
    | some L'=>some (.any,L')
    | none=>none)
   | none=>none)
  | none=>none)
 | .mk n bytes z l k=>(match zot (evD E l)with
  | some l=>(match zot (evD E k)with
   | some k=>if(0<n/\z.length=n)/\0<=l/\l<=k/\k * bytes<=zah then some (.sl L.length 0 n l.toNat (some k.toNat) k.toNat,L ++ [.els n (List.replicate k.toNat (z.map .lit))])else none
   | none=>none)
  | none=>none)
 | .app n bytes s x=>(match evD E s with
  | some d=>(match evD E x with
   | some e=>(match zp6 L n e with
    | some src=>zp8 L n bytes src d
    | none=>none)
   | none=>none)
  | none=>none)
 | .copy n d s=>(match evD E d with
  | some (.sl β s0 n' len cap st)=>(match evD E s with
   | some e=>(match zp6 L n e with
    | some src=>(match L[β]? with
     | some (.els n'' es)=>(match cap with
      | some _=>if n=n'/\n=n''/\st=es.length/\s0+len<=es.length then
       some (.lit (.int .i64 (min src.length len:Nat)),L.set β (.els n (es.take s0 ++ src.take (min src.length len)++ es.drop (s0+min src.length len))))else none
      | none=>none)
     | _=>none)
    | none=>none)
   | none=>none)
  | _=>none)
 | _=>none
section
variable {c:Cx} {S:LSt} {M:St} {L:List LB} {H:zam} {B:Nat}
theorem ze4.mono{c':Cx}{H':zam}{β:Nat}{lb:LB}(hl:c.le c')(hρ:c'.ρ β=c.ρ β)(hH:∀ x b,c.ρ β=some x->x.blk=some b->H'[b]? = H[b]?)(h:ze4 c H β lb):ze4 c' H' β lb:=by
 cases lb with
 | cells ds=>
  obtain⟨b,vs,h1,h2,h3⟩:=h;exact⟨b,vs,by rw[hρ]; exact h1,(hH _ b h1 rfl).trans h2,h3.mono hl⟩
 | els n es=>
  obtain⟨h0,⟨g1,g2⟩| ⟨b,vs,h1,h2,h3⟩⟩:=h
  .grind [Go.Lx.ze4]
  .exact⟨h0,.inr ⟨b,vs,by rw[hρ]; exact h1,(hH _ b h1 rfl).trans h2,h3.mono hl⟩⟩
 | grow n es=>
  obtain⟨h0,⟨g1,g2⟩| ⟨g0,b,vs,h1,h2,h3⟩⟩:=h
  .grind [Go.Lx.ze4]
  .exact⟨h0,.inr ⟨g0,b,vs,by rw[hρ]; exact h1,(hH _ b h1 rfl).trans h2,h3.mono hl⟩⟩
 | gone=>exact hρ.trans h
 | lp st pend N E ps asg body=>
  obtain⟨b,env,h1,h2,h3,h4⟩:=h;exact⟨b,env,by rw[hρ]; exact h1,(hH _ b h1 rfl).trans h2,h3,h4.mono hl⟩
 | lost=>
  grind [Go.Lx.ze4,Go.Lx.Lc.blk]
def Cx.put(c:Cx)(β:Nat)(x:Lc):Cx:={ c with ρ:=λk=>if k=β then some x else c.ρ k }
theorem zbd(c:Cx)(β:Nat)(x:Lc):(c.put β x).ρ β=some x:=by simp[Cx.put]
variable{β:Nat}
theorem zjy(c:Cx){k:Nat}(x:Lc)(h:k≠β):(c.put β x).ρ k=c.ρ k:=by simp[Cx.put,h]
variable{lb:LB}
theorem RelH.new(h:RelH c L H){x:Lc}{o:List Ob}(hx:x=.ghost/\o=[]\/∃ vs,x.blk=some H.length/\o=[.blk vs])(hb:∀ c',c.le c'->c'.ρ L.length=some x->ze4 c' (H ++ o) L.length lb):
  RelH (c.put L.length x) (L ++ [lb]) (H ++ o)/\Step c H (c.put L.length x) (H ++ o)/\c.le (c.put L.length x):=by
 have hne:∀ β y,c.ρ β=some y->β≠L.length:=λβ y hy=>Nat.ne_of_lt (h.scope β y hy)
 have hle:c.le (c.put L.length x):=⟨λ_ _ h=>h,λ_ _ h=>h,λβ y hy=>⟨y,by rw[zjy c x (hne β y hy)]; exact hy,Lc.up.refl y⟩,h.apart⟩;have hgrow:∀ b,b<H.length->(H ++ o)[b]? = H[b]?:=λb hb=>qar hb
 have hblk:∀ b,x.blk=some b->b=H.length/\H.length<(H ++ o).length:=by
  grind [Go.Lx.Lc.blk]
 refine⟨⟨?_,?_,?_,?_,?_,?_,?_⟩,⟨by simp,rfl,rfl,λ_ _ h=>h,λb hb' _=>hgrow b hb',?_,λb hb'=>hb'.zgl (hgrow b hb'.lt)⟩,hle⟩
 .grind [Go.Lx.Cx.put,Go.Lx.RelH]
 .intro b cs hz;obtain⟨h1,h2⟩:=h.za b cs hz
  grind [Go.Lx.Cx.put]
 .grind [Go.Lx.Cx.put,Go.Lx.RelH]
 .intro β y b hy hyb;by_cases hβ:β=L.length
  .subst hβ;rw[zbd]at hy;cases hy;obtain⟨rfl,h2⟩:=hblk b hyb;refine⟨h.base,h2,?_⟩;cases hz:c.zf H.length with
   | none=>exact hz
   | some cs=>grind [Go.Lx.RelH]
  grind [Go.Lx.Cx.put,Go.Lx.RelH]
 .grind [Go.Lx.Cx.put,Go.Lx.RelH]
 .grind [Go.Lx.Cx.put,Go.Lx.RelH]
 .intro β lb' hlb;by_cases hβ:β<L.length
  .rw[qar hβ]at hlb;refine(h.obj β lb' hlb).mono hle (zjy c x (by omega)) λy b hy hyb=>hgrow b (h.own β y b hy hyb).2.1
  grind [zbd]
 grind [zbd,zjy]
theorem RelH.write(h:RelH c L H){b:Nat}{x:Lc}(hx:c.ρ β=some x)(hxb:x.blk=some b){ws:List V}(hold:H[b]? = some (.blk ws)){vs:List V}(hb:∀ H':zam,H'[b]? = some (.blk vs)->ze4 c H' β lb):
  RelH c (L.set β lb) (H.set b (.blk vs))/\Step c H c (H.set b (.blk vs)):=by
 obtain⟨o1,o2,o3⟩:=h.own β x b hx hxb;have hself:(H.set b (.blk vs))[b]? = some (.blk vs):=by rw[qa1 o2]
 refine⟨⟨by rw[qaw]; exact h.base,?_,?_,?_,h.inj,?_,?_⟩,⟨by simp,rfl,rfl,λ_ _ h=>h,?_,λβ' y b' hy hyb=>.inl ⟨β',y,hy,hyb⟩,λb' hb'=>hb'.zgl (qaD (λhe=>by
  grind [Go.Lx.ztp]))⟩⟩
 .grind [Go.Lx.RelH]
 .grind [Go.Lx.RelH]
 .grind [Go.Lx.RelH]
 .grind [Go.Lx.RelH]
 .intro β' lb' hlb;by_cases hβ:β=β'
  .grind
  rw[qaD hβ]at hlb;refine(h.obj β' lb' hlb).mono ⟨λ_ _ h=>h,λ_ _ h=>h,λβ y hy=>⟨y,hy,Lc.up.refl y⟩,h.apart⟩ rfl λy b' hy hyb=>?_
  grind [Go.Lx.RelH]
 grind
theorem RelH.move(h:RelH c L H){m:Nat}{x:Lc}(hx:c.ρ β=some x)(hup:x.up (.list H.length m)){vs:List V}{H1:zam}(hH1:H1.length=H.length)(hH:∀ b,x.blk≠some b->H1[b]? = H[b]?)(hold:∀ b,x.blk=some b->∃ ws,H[b]? = some (.blk ws))(hb:∀ c',c.le c'->c'.ρ β=some (.list H.length m)->ze4 c' (H1 ++ [.blk vs]) β lb):
  RelH (c.put β (.list H.length m)) (L.set β lb) (H1 ++ [.blk vs])/\Step c H (c.put β (.list H.length m)) (H1 ++ [.blk vs])/\c.le (c.put β (.list H.length m)):=by
 have hle:c.le (c.put β (.list H.length m)):=by
  refine⟨λ_ _ h=>h,λ_ _ h=>h,λβ' y hy=>?_,h.apart⟩<;> grind [zbd,zjy,Lc.up.refl]
 have hgrow:∀ b,b<H.length->x.blk≠some b->(H1 ++ [Ob.blk vs])[b]? = H[b]?:=λb hb' hn=>by
  grind
 have hnz:∀ b cs,c.zf b=some cs->x.blk≠some b:=λb cs hz hxb=>by
  grind [Go.Lx.RelH]
 have hna:∀ b cs,c.za b=some cs->x.blk≠some b:=λb cs hz hxb=>by
  grind [Go.Lx.RelH]
 refine⟨⟨?_,?_,?_,?_,?_,?_,?_⟩,⟨by simp; omega,rfl,rfl,λ_ _ h=>h,?_,?_,λb hb'=>hb'.zgl (hgrow b hb'.lt (λhe=>by
  obtain⟨ws,h8⟩:=hold b he;obtain⟨_,_,_,_,_,_,h9⟩:=hb';rw[h8]at h9
  cases h9))⟩,hle⟩
 .grind [Go.Lx.Cx.put,Go.Lx.RelH]
 .intro b cs hz;obtain⟨h1,h2⟩:=h.za b cs hz
  grind [Go.Lx.Cx.put]
 .grind [Go.Lx.Cx.put,Go.Lx.RelH]
 .intro β' y b hy hyb;by_cases hβ:β'=β
  .subst hβ;rw[zbd]at hy;cases hy;cases hyb;refine⟨h.base,by simp; omega,?_⟩;cases hz:c.zf H.length with
   | none=>exact hz
   | some cs=>grind [Go.Lx.RelH]
  grind [Go.Lx.Cx.put,Go.Lx.RelH]
 .grind [Go.Lx.Cx.put,Go.Lx.Lc.blk,Go.Lx.RelH]
 .grind [Go.Lx.Cx.put,Go.Lx.RelH]
 .intro β' lb' hlb;by_cases hβ:β=β'
  .grind [zbd]
  rw[qaD hβ]at hlb;refine(h.obj β' lb' hlb).mono hle (zjy c _ (Ne.symm hβ)) λy b hy hyb=>hgrow b (h.own β' y b hy hyb).2.1 λhxb=>?_
  grind [Go.Lx.RelH]
 .grind
 grind [Go.Lx.Cx.put,Go.Lx.Lc.blk]
end
section
variable {c:Cx} {S:LSt} {M:St} {L:List LB} {H:zam} {B:Nat}
variable{n:Nat}{cap:Option Nat}{v:V}
theorem zu5{β s len st:Nat}(hr:R c (.sl β s n len cap st) v):(∃ b m,c.ρ β=some (.list b m)/\((st<m/\v.one=true)\/(st=m/\v=.sl b (s * n) n len cap)))\/(c.ρ β=some .ghost/\v=.lit (.slice none 0 0)):=by
 grind [Go.Lx.R]
theorem zf9{β s len st b:Nat}(hr:R c (.sl β s n len cap st) v)(hρ:c.ρ β=some (.list b st)):v=.sl b (s * n) n len cap:=by
 grind [zu5]
theorem ziK{α:Type}{l:List α}{i:Nat}{x:α}(h:l[i]? = some x):l.set i x=l:=by
 apply qdb<;>grind
theorem zv7{n:Nat}:∀ {es:List (List D)},(∀ cells,cells∈es->cells.length=n)->∀ {j:Nat} {d:D},es.flatten[j]? = some d->∃(i:Nat) (cells:List D) (k:Nat),es[i]? = some cells/\cells[k]? = some d/\j=i * n+k
 | [],_,j,d,h=>by simp at h
 | e :: es,hu,j,d,h=>by
  have he:=hu e (by simp);rw[qbl]at h;by_cases hj:j<e.length
  .rw[qar hj]at h;exact⟨0,e,j,rfl,h,by omega⟩
  rw[qaV (by omega)]at h;obtain⟨i,cells,k,h1,h2,h3⟩:=zv7 (λx hx=>hu x (qah _ hx)) h;refine⟨i+1,cells,k,by simpa using h1,h2,?_⟩<;> grind
variable{o:Nat}
theorem zAc(h:RelH c L H){t:Bool}{els:List (List D)}{b:Nat}{cs:List V}(h4:o+els.length * n<=cs.length)(h5:∀(i:Nat) (cells:List D),els[i]? = some cells->cells.length=n)(h6:∀(i:Nat) (cells:List D) (k:Nat) d v,els[i]? = some cells->cells[k]? = some d->cs[o+i * n+k]? = some v->R (c.frz t) d v):
  Els c n els ((cs.drop o).take (els.length * n)):=by
 have hu:∀ cells,cells∈els->cells.length=n:=λcells hm=>by
  grind [qbO]
 refine⟨hu,⟨by rw[zjY hu]; simp; omega,λj d v g1 g2=>?_⟩⟩;obtain⟨i,cells,k,k1,k2,rfl⟩:=zv7 hu g1
 grind [R.zu7,RelH.apart]
variable{src:List (List D)}
theorem zfJ(h:RelH c L H){e:D}(hr:R c e v)(hs:zp6 L n e=some src):∃ l,zgj H n v=some (src.length,l)/\Els c n src l:=by
 cases e with
 | lit u=>
  cases zob hr;unfold zp6 at hs;split at hs<;>first | (cases hs; done)| skip
  .rename_i heq; cases heq; cases hs; exact⟨[],rfl,Els.nil n⟩
  all_goals (rename_i heq; cases heq)
 | sl β s n' len cap st=>
  simp only[zp6]at hs;split at hs
  .rename_i hn;subst hn;cases he:zgP L β n st with
   | none=>rw[he]at hs; cases hs
   | some es=>
    rw[he]at hs;simp only at hs;split at hs
    .rename_i hle;cases hs;rcases slR h he hr with⟨b,vs,q1,rfl,q2,q3⟩| ⟨rfl,rfl,rfl,_,_,rfl,_⟩
     .have hl:((es.drop s).take len).length=len:=by simp; omega
      rw[hl];by_cases h0:len=0
      .simp_all [zgj,Els.nil]
      refine⟨_,?_,q3.sub s len⟩;have h1:s * n+len * n<=vs.length:=by rw[q3.zn9,<- qaQ]; exact qas n hle
      grind [zgj,zbW,slot,qat,Go.Lx.RelH]
     simp_all [zgj,Els.nil]
    cases hs
  .cases hs
 | fz t n' els=>
  simp only[zp6]at hs;split at hs
  .rename_i hn;subst hn;cases hs;cases hr with
   | fz h1 h2 h3 h4 h5 h6=>
    rename_i b o cap cs;by_cases h0:src.length=0
    .simp_all [zgj,Els.nil]
    .refine⟨_,?_,zAc h (b:=b) h4 h5 h6⟩<;> grind [zgj,zbW,slot,qat,RelH.look]
   | fz0=>exact⟨[],by simp[zgj],Els.nil n⟩
   | fzn=>exact⟨[],rfl,Els.nil n⟩
  .cases hs
 | z0 t n'=>
  simp only[zp6]at hs;split at hs
  .rename_i hn;subst hn;cases hs;cases hr with
   | z0 h1 h2=>simp_all [zgj,Els.nil]
   | z0n=>exact⟨[],rfl,Els.nil n⟩
  .cases hs
 | _=>cases hs
variable{vs l:List V}
theorem Els.set{es:List (List D)}(h:Els c n es vs){i:Nat}(hi:i<es.length){cells:List D}(hc:cells.length=n)(hr:Rs c cells l):Els c n (es.set i cells) (zbT vs (i * n) l):=by
 have h1:=((h.take i).append (hc ▸ Els.one hr)).append (h.drop (i+1))
 grind [List.set_eq_take_append_cons_drop,zbT,Go.Lx.Rs]
theorem zxF(h:o+l.length<=vs.length):(zbT vs o l).length=vs.length:=by simp[zbT]; omega
theorem zsM(n len:Nat)(z:List Value)(hz:z.length=n):Els c n (List.replicate len (z.map D.lit)) (zm7 len (z.map V.lit)):=by
 refine⟨λcells hm=>by rw[(qcv.1 hm).2]; simpa using hz,?_⟩;unfold zm7;induction len with
 | zero=>exact Rs.nil c
 | succ k ih=>rw[qaX,qaX,qbl,qbl]; exact(Rs.lits z).append ih
theorem zj7(h:Rel c S M){n:Nat}:∀(parts:List (Nat×X)) {es es':List (List D)} {vs:List V},znz S.env n es parts=some es'->Els c n es vs->∃ vs',zli M.env n vs parts=some vs'/\Els c n es' vs'/\es'.length=es.length
 | [],es,es',vs,he,hr=>by cases he; exact⟨vs,rfl,hr,rfl⟩
 |(i,x):: r,es,es',vs,he,hr=>by
  simp only[znz]at he;cases h1:zc9 (evD S.env x)with
  | none=>rw[h1]at he; cases he
  | some k=>
   rw[h1]at he;simp only at he;split at he
   .rename_i hc;obtain⟨k',g1,g2⟩:=zfq h h1;obtain⟨vs',g3,g4,g5⟩:=zj7 h r he (hr.set hc.2 hc.1 g2);refine⟨vs',?_,g4,by rw[g5,qaw]⟩;rw[zli,g1];have e1:(k'.length == n)=true:=by rw[<- g2.1,hc.1]; simp
    have e2:Nat.ble (i * n+n) vs.length=true:=qat (by rw[hr.zn9,show i * n+n=(i+1)* n by rw[qcu]]; exact qas n hc.2)
    grind
   cases he
theorem zFT{ds l:List D}{l':List V}(h:Rs c ds vs)(hl:Rs c l l')(o:Nat):Rs c (zpa ds o l) (zbT vs o l'):=by
 unfold zpa zbT;rw[<- hl.1];exact((h.take o).append hl).append (h.drop _)
theorem zFc{a m:Nat}(h:o+l.length<=m)(hm:a+m<=vs.length):zbT vs a (zbT ((vs.drop a).take m) o l)=zbT vs (a+o) l:=by
 have hlen:(zbT ((vs.drop a).take m) o l).length=m:=by rw[zxF]<;>simp<;>omega
 apply qdb;intro j;unfold zbT at hlen ⊢;rw[hlen];simp only[qch,qaz,qbW,qbm,qbp,qct]
 repeat' split
 all_goals first | rfl | omega | (congr 1; omega)
variable{L':List LB}
theorem zq6(h:RelH c L H)(hB:B<=c.base){d:D}{l:List D}{l':List V}(hr:R c d v)(hl:Rs c l l')(hs:zgV L n l d=some L'):
  ∃ β o cs,v=.ptr β o/\H[β]? = some (.blk cs)/\B<=β/\l'.length=n/\o+n<=cs.length/\RelH c L' (H.set β (.blk (zbT cs o l')))/\Step c H c (H.set β (.blk (zbT cs o l'))):=by
 cases d with
 | ptr β o=>
  simp only[zgV]at hs;split at hs
  .rename_i ds heq;split at hs
   .rename_i hc;cases hs;obtain⟨b,vs,k1,k2,k3⟩:=h.obj β _ heq;cases hr with
    | ptr g1=>
     rw[k1]at g1;cases g1;have hw:=h.write k1 rfl k2 (lb:=.cells (zpa ds o l)) (vs:=zbT vs o l') λH' hH'=>⟨b,_,k1,hH',zFT k3 hl o⟩
     exact⟨b,o,vs,rfl,k2,qaq hB (h.own β _ b k1 rfl).1,by rw[<- hl.1]; exact hc.1,by rw[<- k3.1]; exact hc.2,hw.1,hw.2⟩
   cases hs
  .cases hs
 | eptr β n' i off st=>
  have key:∀ es,zgP L β n' st=some es->∀ cells,es[i]? = some cells->l.length=n->off+n<=cells.length->∀ lb,(∀ H' b vs,c.ρ β=some (.list b st)->st=es.length->H'[b]? = some (.blk vs)->0<n'->Els c n' (es.set i (zpa cells off l)) vs->ze4 c H' β lb)->
    ∃ β' o cs,v=.ptr β' o/\H[β']? = some (.blk cs)/\B<=β'/\l'.length=n/\o+n<=cs.length/\RelH c (L.set β lb) (H.set β' (.blk (zbT cs o l')))/\Step c H c (H.set β' (.blk (zbT cs o l'))):=by
   intro es he cells hi hln hoff lb hlb;obtain⟨b,vs,k1,k2,k3,k4⟩:=zto h he hr;obtain⟨e1,e2,_⟩:=ze3 h he;have hil:=(qab.1 hi).1;have hcl:cells.length=n':=k4.len cells (qaC hi);have hroom:i * n'+n'<=vs.length:=by rw[k4.zn9,show i * n'+n'=(i+1)* n' by rw[qcu]]; exact qas n' hil
   have hE:=k4.set hil (cells:=zpa cells off l) (l:=zbT ((vs.drop (i * n')).take n') off l') (by simp[zpa]; omega) (zFT (k4.at_ hi) hl off);rw[zFc (by rw[<- hl.1]; omega) hroom]at hE;have hw:=h.write k1 rfl k3 (lb:=lb) (vs:=zbT vs (i * n'+off) l') λH' hH'=>hlb H' b _ k1 e2 hH' e1 hE
   exact⟨b,_,vs,k2,k3,qaq hB (h.own β _ b k1 rfl).1,by rw[<- hl.1]; exact hln,by omega,hw.1,hw.2⟩
  simp only[zgV]at hs;split at hs
  .rename_i n'' es heq;split at hs
   .rename_i hc;obtain⟨rfl,hc2⟩:=hc;split at hs
    .rename_i cells hi;split at hs
     .rename_i hcc;cases hs;exact key es (by simp[zgP,heq,hc2]) cells hi hcc.1 hcc.2 _ λH' b vs g1 g2 g3 g4 g5=>⟨g4,.inr ⟨b,vs,by rw[qaw,<- g2]; exact g1,g3,g5⟩⟩
     cases hs
    cases hs
   cases hs
  .rename_i n'' es heq;split at hs
   .rename_i hc;obtain⟨rfl,hc2⟩:=hc;split at hs
    .rename_i cells hi;split at hs
     .rename_i hcc;cases hs;refine key es (by simp[zgP,heq,hc2]) cells hi hcc.1 hcc.2 _ λH' b vs g1 g2 g3 g4 g5=>⟨g4,.inr ⟨?_,b,vs,by rw[qaw,<- g2]; exact g1,g3,g5⟩⟩<;> grind [qaw]
     cases hs
    cases hs
   cases hs
  .cases hs
 | _=>cases hs
theorem zwS(h:RelH c L H){es:List (List D)}(hn:0<n)(he:Els c n es vs)(hne:es≠[]):
  RelH (c.put L.length (.list H.length es.length)) (L ++ [.grow n es]) (H ++ [.blk vs])/\Step c H (c.put L.length (.list H.length es.length)) (H ++ [.blk vs])/\c.le (c.put L.length (.list H.length es.length))/\
   R (c.put L.length (.list H.length es.length)) (.sl L.length 0 n es.length none es.length) (.sl H.length 0 n es.length none):=by
 obtain⟨g1,g2,g3⟩:=h.new (x:=.list H.length es.length) (lb:=.grow n es) (o:=[.blk vs]) (.inr ⟨vs,rfl,rfl⟩) λc' hle hρ=>⟨hn,.inr ⟨hne,_,vs,hρ,by simp,he.mono hle⟩⟩
 grind [zbd,Go.Lx.R]
theorem zv2(h:RelH c L H)(hB:B<=c.base){bytes:Nat}{d d':D}{w:V}{env:List V}{s x:X}(hv:ev env s=some v)(hx:(ev env x).bind (zgj H n)=some (src.length,l))(hr:R c d v)(hl:Els c n src l)(hs:zp8 L n bytes src d=some (d',L')):
  ∃ v' H' c',eff B H env (.app n bytes s x)=some (v',H')/\RelH c' L' H'/\Step c H c' H'/\c.le c'/\R c' d' v':=by
 have hle0:c.le c:=⟨λ_ _ h=>h,λ_ _ h=>h,λβ y hy=>⟨y,hy,Lc.up.refl y⟩,h.apart⟩;have hnil:v=.lit (.slice none 0 0)->0<n->src.length * bytes<=zah->∃ v' H' c',eff B H env (.app n bytes s x)=some (v',H')/\RelH c' (L ++ [.grow n src]) H'/\Step c H c' H'/\c.le c'/\R c' (.sl L.length 0 n src.length none src.length) v':=by
  intro hv0 hn hb;subst hv0;by_cases h0:src=[]
  .subst h0;obtain⟨g1,g2,g3⟩:=h.new (x:=.ghost) (lb:=.grow n []) (o:=[]) (.inl ⟨rfl,rfl⟩) λc' hle hρ=>⟨hn,.inl ⟨rfl,hρ⟩⟩
   rw[qaP]at g1 g2;exact⟨_,_,_,by simp[eff,hv,hx],g1,g2,g3,.slg (zbd _ _ _)⟩
  obtain⟨g1,g2,g3,g4⟩:=zwS h hn hl h0
  grind [eff,qat]
 cases d with
 | lit u=>
  grind [zob,zp8]
 | z0 t n'=>
  simp only[zp8]at hs;split at hs
  .rename_i hc;obtain⟨rfl,hc1,hc2,hc3⟩:=hc;cases hs;cases hr with
   | z0n=>exact hnil rfl hc1 hc3
   | z0 h1 h2=>
    rename_i b o cs;have h0:src≠[]:=by rintro rfl; simp at hc2
    obtain⟨g1,g2,g3,g4⟩:=zwS h hc1 hl h0;have h0':(src.length == 0)=false:=by simp; exact h0
    have h1':Nat.ble (0+src.length) 0=false:=by
     cases hb:Nat.ble (0+src.length) 0<;>simp_all
    grind [eff,zbW,qat,RelH.look]
  .cases hs
 | fz t n' els=>
  simp only[zp8]at hs;split at hs
  .rename_i hc;obtain⟨rfl,hc1,hc2⟩:=hc;cases hs;have:els=[]:=qbf hc1;subst this;refine⟨v,H,c,?_,h,Step.refl _ _,hle0,hr⟩
   grind [eff,Go.Lx.R]
  .cases hs
 | sl β s0 n' len cap st=>
  simp only[zp8]at hs;split at hs
  .rename_i n'' es heq;split at hs
   .rename_i hc;obtain⟨rfl,rfl,rfl,rfl,rfl,rfl,hc⟩:=hc;cases hs;obtain⟨hn,hg⟩:=h.obj β _ heq;rcases hg with⟨rfl,hρ⟩| ⟨hne,b,vs,hρ,hH,hE⟩
    .cases hr with
     | sl g1 g2=>rw[hρ]at g1; cases g1
     | slg g1=>
      simp only[qa8,qaO,qaU]at hc ⊢;by_cases h0:src=[]
      .grind [ziK,eff,Step.refl,Go.Lx.R]
      have hpos:0<src.length:=by
       grind
      obtain⟨g1,g2,g3⟩:=h.move (β:=β) (m:=src.length) (vs:=l) (lb:=.grow n src) hρ (.inr ⟨_,_,rfl,hpos⟩) (H1:=H) rfl (λ_ _=>rfl) (λb hb=>by cases hb) λc' hle hρ'=>⟨hn,.inr ⟨h0,_,l,hρ',by simp,hl.mono hle⟩⟩
      have h0':(src.length == 0)=false:=by simp; exact h0
      grind [eff,qat,zbd,Go.Lx.R]
    have hvv:=zf9 hr hρ;subst hvv;by_cases h0:src=[]
    .subst h0;simp only[qaP,qa8,qbH];rw[ziK heq];exact⟨.sl b (0 * n) n es.length none,H,c,by simp[eff,hv,hx],h,Step.refl _ _,hle0,.sl hρ (.inr ⟨rfl,rfl⟩)⟩
    have hpos:0<src.length:=by
     grind
    have h0':(src.length == 0)=false:=by simp; exact h0
    have hob:=h.own β _ b hρ rfl;obtain⟨g1,g2,g3⟩:=h.move (β:=β) (m:=es.length+src.length) (vs:=vs ++ l) (lb:=.grow n (es ++ src)) hρ (.inr ⟨_,_,rfl,by omega⟩) (H1:=H.set b .dead) (by simp)
     (λb' hb'=>qaD (λhe=>hb' (by rw[he]; rfl))) (λb' hb'=>by cases hb'; exact⟨_,hH⟩) λc' hle hρ'=>⟨hn,.inr ⟨by simp[hne],_,vs ++ l,by rw[qaz]; exact hρ',by simp,(hE.append hl).mono hle⟩⟩
    refine⟨.sl H.length 0 n (es.length+src.length) none,_,_,?_,g1,g2,g3,.sl (zbd _ _ _) (.inr ⟨rfl,by simp⟩)⟩;have e1:(0+es.length * n == vs.length)=true:=by rw[hE.zn9]; simp
    have e2:Nat.ble (0+(es.length+src.length)* n) vs.length=false:=by
     cases hq:Nat.ble (0+(es.length+src.length)* n) vs.length with
     | false=>rfl
     | true=>
      have h5:=qad hq;have h6:=qc1 hpos hn
      grind
    grind [eff,zbW,qat,Go.Lx.RelH]
   cases hs
  .rename_i n'' es heq;split at hs
   .rename_i hc;obtain⟨rfl,rfl,rfl⟩:=hc;cases cap with
    | none=>
     simp only at hs;split at hs
     .rename_i hc;obtain⟨rfl,rfl,hc⟩:=hc;cases hs;obtain⟨hn,hg⟩:=h.obj β _ heq;rcases hg with⟨rfl,hρ⟩| ⟨b,vs,hρ,hH,hE⟩
      .cases hr with
       | sl g1 g2=>rw[hρ]at g1; cases g1
       | slg g1=>
        simp only[qa8,qaO,qaU]at hc ⊢;by_cases h0:src=[]
        .grind [ziK,eff,Step.refl,Go.Lx.R]
        have hpos:0<src.length:=by
         grind
        obtain⟨g1,g2,g3⟩:=h.move (β:=β) (m:=src.length) (vs:=l) (lb:=.els n src) hρ (.inr ⟨_,_,rfl,hpos⟩) (H1:=H) rfl (λ_ _=>rfl) (λb hb=>by cases hb) λc' hle hρ'=>⟨hn,.inr ⟨_,l,hρ',by simp,hl.mono hle⟩⟩
        have h0':(src.length == 0)=false:=by simp; exact h0
        grind [eff,qat,zbd,Go.Lx.R]
      have hvv:=zf9 hr hρ;subst hvv;by_cases h0:src=[]
      .subst h0;simp only[qaP,qa8,qbH];rw[ziK heq];exact⟨.sl b (0 * n) n es.length none,H,c,by simp[eff,hv,hx],h,Step.refl _ _,hle0,.sl hρ (.inr ⟨rfl,rfl⟩)⟩
      have hpos:0<src.length:=by
       grind
      have h0':(src.length == 0)=false:=by simp; exact h0
      have hob:=h.own β _ b hρ rfl;obtain⟨g1,g2,g3⟩:=h.move (β:=β) (m:=es.length+src.length) (vs:=vs ++ l) (lb:=.els n (es ++ src)) hρ (.inr ⟨_,_,rfl,by omega⟩) (H1:=H.set b .dead) (by simp)
       (λb' hb'=>qaD (λhe=>hb' (by rw[he]; rfl))) (λb' hb'=>by cases hb'; exact⟨_,hH⟩) λc' hle hρ'=>⟨hn,.inr ⟨_,vs ++ l,by rw[qaz]; exact hρ',by simp,(hE.append hl).mono hle⟩⟩
      refine⟨.sl H.length 0 n (es.length+src.length) none,_,_,?_,g1,g2,g3,.sl (zbd _ _ _) (.inr ⟨rfl,by simp⟩)⟩;have e1:(0+es.length * n == vs.length)=true:=by rw[hE.zn9]; simp
      have e2:Nat.ble (0+(es.length+src.length)* n) vs.length=false:=by
       cases hq:Nat.ble (0+(es.length+src.length)* n) vs.length with
       | false=>rfl
       | true=>
        have h5:=qad hq;have h6:=qc1 hpos hn
        grind
      grind [eff,zbW,qat,Go.Lx.RelH]
     .cases hs
    | some k=>
    simp only at hs;obtain⟨hn,⟨_,hgh⟩| ⟨b,vs,hρ,hH,hE⟩⟩:=h.obj β _ heq
    .grind [Go.Lx.R]
    have hvv:=zf9 hr hρ;subst hvv;have hob:=h.own β _ b hρ rfl;split at hs
    .rename_i hk;split at hs
     .rename_i hroom;cases hs;have hE':=((hE.take (s0+len)).append hl).append (hE.drop (s0+len+src.length));have hlen:(es.take (s0+len)++ src ++ es.drop (s0+len+src.length)).length=es.length:=by simp; omega
      by_cases h0:src=[]
      .subst h0;simp only[qaP,qa8,qbH,qbZ];rw[ziK heq];exact⟨_,H,c,by simp[eff,hv,hx],h,Step.refl _ _,hle0,.sl hρ (.inr ⟨rfl,rfl⟩)⟩
      have h0':(src.length == 0)=false:=by simp; exact h0
      have hvs:zbT vs (s0 * n+len * n) l=vs.take ((s0+len)* n)++ l ++ vs.drop ((s0+len+src.length)* n):=by
       unfold zbT;rw[<- hl.rel.1,zjY hl.len,<- qaQ,<- qaQ]
      have hw:=h.write hρ rfl hH (lb:=.els n (es.take (s0+len)++ src ++ es.drop (s0+len+src.length))) (vs:=zbT vs (s0 * n+len * n) l) λH' hH'=>⟨hn,.inr ⟨b,_,by rw[hlen]; exact hρ,hH',by rw[hvs]; exact hE'⟩⟩
      refine⟨.sl b (s0 * n) n (len+src.length) (some k),_,c,?_,hw.1,hw.2,hle0,.sl hρ (.inr ⟨rfl,rfl⟩)⟩;have e1:Nat.ble (s0 * n+(len+src.length)* n) vs.length=true:=qat (by rw[hE.zn9,<- qaQ]; exact qas n (by omega));simp only[eff,hv,hx,qdx,qbs,qdu,h0',zbW hH,qat hk,qat (qaq hB hob.1),e1,Bool.and_self,qdt]
     cases hs
    rename_i hk;split at hs
    .rename_i hc;cases hs;have h0':(src.length == 0)=false:=by simp; intro h; rw[h]at hc; simp at hc
     have hk':Nat.ble (len+src.length) k=false:=by
      cases hb:Nat.ble (len+src.length) k with
      | false=>rfl
      | true=>simp_all [qad]
     have hE':=(hE.sub s0 len).append hl;have hlen:((es.drop s0).take len ++ src).length=len+src.length:=by simp; omega
     have hne:(es.drop s0).take len ++ src≠[]:=by
      simp_all
     obtain⟨g1,g2,g3,g4⟩:=zwS h hn hE' hne;rw[hlen]at g1 g2 g3 g4;refine⟨.sl H.length 0 n (len+src.length) none,_,_,?_,g1,g2,g3,g4⟩;have e1:Nat.ble (s0 * n+len * n) vs.length=true:=qat (by rw[hE.zn9,<- qaQ]; exact qas n hc.2.1)
     grind [eff,zbW,qat,Go.Lx.RelH]
    cases hs
   cases hs
  .cases hs
 | _=>cases hs
theorem ztf(h:Rel c S M)(hB:B<=c.base){i:I}{d:D}(he:zjB S.heap S.env i=some (d,L')):
  ∃ v H' c',eff B M.heap M.env i=some (v,H')/\RelH c' L' H'/\Step c M.heap c' H'/\c.le c'/\R c' d v:=by
 have hle0:c.le c:=⟨λ_ _ h=>h,λ_ _ h=>h,λβ y hy=>⟨y,hy,Lc.up.refl y⟩,h.heap.apart⟩;cases i with
 | alloc z=>
  cases he;obtain⟨g1,g2,g3⟩:=h.heap.new (x:=.cell M.heap.length) (lb:=.cells (z.map .lit)) (o:=[.blk (z.map .lit)]) (.inr ⟨_,rfl,rfl⟩) λc' hle hρ=>⟨_,_,hρ,by simp,Rs.lits z⟩
  exact⟨_,_,_,rfl,g1,g2,g3,.ptr (zbd _ _ _)⟩
 | box x=>
  simp only[zjB]at he;cases hx:zc9 (evD S.env x)with
  | none=>rw[hx]at he; cases he
  | some l=>
   rw[hx]at he;cases he;obtain⟨l',k1,k2⟩:=zfq h hx;obtain⟨g1,g2,g3⟩:=h.heap.new (x:=.cell M.heap.length) (lb:=.cells l) (o:=[.blk l']) (.inr ⟨_,rfl,rfl⟩) λc' hle hρ=>⟨_,_,hρ,by simp,k2.mono hle⟩
   exact⟨_,_,_,by simp only[eff,k1],g1,g2,g3,.ptr (zbd _ _ _)⟩
 | bsl n len z parts=>
  simp only[zjB]at he;split at he
  .rename_i hn;cases hf:znz S.env n (List.replicate len (z.map .lit)) parts with
   | none=>rw[hf]at he; cases he
   | some es=>
    rw[hf]at he;cases he;obtain⟨vs,k1,k2,k3⟩:=zj7 h parts hf (zsM n len z hn.2);have hl:es.length=len:=by rw[k3]; simp
    obtain⟨g1,g2,g3⟩:=h.heap.new (x:=.list M.heap.length len) (lb:=.els n es) (o:=[.blk vs]) (.inr ⟨_,rfl,rfl⟩) λc' hle hρ=>⟨hn.1,.inr ⟨_,_,by rw[hl]; exact hρ,by simp,k2.mono hle⟩⟩
    exact⟨.sl M.heap.length 0 n len (some len),_,_,by simp only[eff,k1],g1,g2,g3,.sl (zbd _ _ _) (.inr ⟨rfl,by simp⟩)⟩
  .cases he
 | store n a x=>
  simp only[zjB]at he;cases ha:evD S.env a with
  | none=>rw[ha]at he; cases he
  | some d0=>
   rw[ha]at he;cases hx:zc9 (evD S.env x)with
   | none=>rw[hx]at he; cases he
   | some l=>
    rw[hx]at he;simp only at he;cases hs:zgV S.heap n l d0 with
    | none=>rw[hs]at he; cases he
    | some L1=>
     rw[hs]at he;cases he;obtain⟨v,k1,k2⟩:=zae h ha;obtain⟨l',k3,k4⟩:=zfq h hx;obtain⟨β,o,cs,rfl,e1,e2,e3,e4,e5,e6⟩:=zq6 h.heap hB k2 k4 hs;refine⟨zbc,_,c,?_,e5,e6,hle0,.any _⟩
     grind [eff,zbW,qat,Go.Lx.RelH]
 | mk n bytes z l k=>
  simp only[zjB]at he;cases h1:zot (evD S.env l)with
  | none=>rw[h1]at he; cases he
  | some l'=>
   rw[h1]at he;cases h2:zot (evD S.env k)with
   | none=>rw[h2]at he; cases he
   | some k'=>
    rw[h2]at he;simp only at he;split at he
    .rename_i hc;obtain⟨hn,c1,c2,c3⟩:=hc;cases he;have k2:=zsM (c:=c) n k'.toNat z hn.2;obtain⟨g1,g2,g3⟩:=h.heap.new (x:=.list M.heap.length k'.toNat) (lb:=.els n (List.replicate k'.toNat (z.map .lit))) (o:=[.blk (zm7 k'.toNat (z.map .lit))]) (.inr ⟨_,rfl,rfl⟩) λc' hle hρ=>⟨hn.1,.inr ⟨_,_,by simpa using hρ,by simp,k2.mono hle⟩⟩
     refine⟨_,_,_,?_,g1,g2,g3,.sl (zbd _ _ _) (.inr ⟨rfl,rfl⟩)⟩<;> grind [eff,zfK]
    .cases he
 | app n bytes s x=>
  simp only[zjB]at he;cases hs:evD S.env s with
  | none=>rw[hs]at he; cases he
  | some d0=>
   rw[hs]at he;cases hx:evD S.env x with
   | none=>rw[hx]at he; cases he
   | some e=>
    rw[hx]at he;simp only at he;cases hsrc:zp6 S.heap n e with
    | none=>rw[hsrc]at he; cases he
    | some src=>
     rw[hsrc]at he;obtain⟨v,k1,k2⟩:=zae h hs;obtain⟨v',k3,k4⟩:=zae h hx;obtain⟨l,k5,k6⟩:=zfJ h.heap k4 hsrc;exact zv2 h.heap hB k1 (by rw[k3]; exact k5) k2 k6 he (w:=v)
 | copy n x s=>
  simp only[zjB]at he;split at he
  .rename_i β s0 n' len cap st hx;cases hs:evD S.env s with
   | none=>rw[hs]at he; cases he
   | some e=>
    rw[hs]at he;simp only at he;cases hsrc:zp6 S.heap n e with
    | none=>rw[hsrc]at he; cases he
    | some src=>
     rw[hsrc]at he;simp only at he;split at he
     .rename_i n'' es heq;cases cap with
      | none=>cases he
      | some kcap=>
      simp only at he;split at he
      .rename_i hc;obtain⟨rfl,rfl,rfl,hc⟩:=hc;cases he;obtain⟨v,k1,k2⟩:=zae h hx;obtain⟨v',k3,k4⟩:=zae h hs;obtain⟨l,k5,k6⟩:=zfJ h.heap k4 hsrc;obtain⟨hn,⟨_,hgh⟩| ⟨b,vs,hρ,hH,hE⟩⟩:=h.heap.obj β _ heq
       .grind [Go.Lx.R]
       have hvv:=zf9 k2 hρ;subst hvv;have hob:=h.heap.own β _ b hρ rfl;have hm:min src.length len<=len:=qcL _ _;have hm':min src.length len<=src.length:=Nat.min_le_left _ _;generalize hmm:min src.length len=m at *;have hE':=((hE.take s0).append (k6.take m)).append (hE.drop (s0+m));have hlen:(es.take s0 ++ src.take m ++ es.drop (s0+m)).length=es.length:=by simp; omega
       have hvs:zbT vs (s0 * n) (l.take (m * n))=vs.take (s0 * n)++ l.take (m * n)++ vs.drop ((s0+m)* n):=by
        unfold zbT;have:(l.take (m * n)).length=m * n:=by
         rw[qbW,k6.zn9];exact qcm (qas n hm')
        rw[this,<- qaQ]
       have hw:=h.heap.write hρ rfl hH (lb:=.els n (es.take s0 ++ src.take m ++ es.drop (s0+m))) (vs:=zbT vs (s0 * n) (l.take (m * n))) λH' hH'=>⟨hn,.inr ⟨b,_,by rw[hlen]; exact hρ,hH',by rw[hvs]; exact hE'⟩⟩
       refine⟨.lit (.int .i64 (m:Nat)),_,c,?_,hw.1,hw.2,hle0,.lit _⟩;have e1:Nat.ble (s0 * n+m * n) vs.length=true:=qat (by rw[hE.zn9,<- qaQ]; exact qas n (by omega));simp only[eff,k1,k3,k5,zbW hH,qdx,qat (qaq hB hob.1),hmm,e1,Bool.and_self,qdt]
      cases he
     cases he
  .cases he
 | _=>cases he
end
end Go.Lx
