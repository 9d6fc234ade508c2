/-
 Long runs in pieces: calls at a known memory, seen by the kernel apart; what nobody needs any more is dropped. Conditions: none.
-/
import Derived.Test.YtbjogdohfhdaiaaGreatEcMxL
set_option linter.unusedSimpArgs false
set_option linter.unusedVariables false
namespace Go.Mx
open Go Go.Proofs
def eqL:Value->Value->Bool
 | .int k n,.int k' n'=>decide (k=k') && decide (n=n')
 | .bool b,.bool b'=>decide (b=b')
 | .slice none 0 0,.slice none 0 0=>true
 | _,_=>false
theorem zE5{a b:Value}(h:eqL a b=true):a=b:=by
 unfold eqL at h;split at h
 .simp only[qah,decide_eq_true_eq]at h;rw[h.1,h.2]
 .rw[of_decide_eq_true h]
 .rfl
 cases h
def zxK(f:V->V->Bool):List V->List V->Bool
 | [],[]=>true
 | a :: xs,b :: ys=>f a b && zxK f xs ys
 | _,_=>false
theorem zjC{f:V->V->Bool}(hf:∀ a b,f a b=true->a=b):∀ {xs ys:List V},zxK f xs ys=true->xs=ys
 | [],[],_=>rfl
 | [],_ :: _,h=>by cases h
 | _ :: _,[],h=>by cases h
 | a :: xs,b :: ys,h=>by
  obtain⟨h1,h2⟩:=qcy.1 (show(f a b && zxK f xs ys)=true from h);rw[hf a b h1,zjC hf h2]
def eqN:Option Nat->Option Nat->Bool
 | none,none=>true
 | some a,some b=>Nat.beq a b
 | _,_=>false
theorem zEN{a b:Option Nat}(h:eqN a b=true):a=b:=by
 unfold eqN at h;split at h
 .rfl
 .rw[qaE h]
 cases h
def eqV:Nat->V->V->Bool
 | 0,_,_=>false
 | n+1,.lit a,.lit b=>eqL a b
 | n+1,.ptr a b,.ptr c d=>Nat.beq a c && Nat.beq b d
 | n+1,.sl a b c d e,.sl a' b' c' d' e'=>Nat.beq a a' && Nat.beq b b' && Nat.beq c c' && Nat.beq d d' && eqN e e'
 | n+1,.agg xs,.agg ys=>zxK (eqV n) xs ys
 | n+1,.tup xs,.tup ys=>zxK (eqV n) xs ys
 | _,_,_=>false
theorem zuT:∀(n:Nat) (a b:V),eqV n a b=true->a=b:=by
 intro n;induction n with
 | zero=>intro a b h; cases h
 | succ n ih=>
  intro a b h;cases a with
  | lit x=>cases b with
   | lit y=>rw[zE5 (show eqL x y=true from h)]
   | _=>cases h
  | ptr x y=>cases b with
   | ptr z w=>
    obtain⟨h1,h2⟩:=qcy.1 (show(Nat.beq x z && Nat.beq y w)=true from h);rw[qaE h1,qaE h2]
   | _=>cases h
  | sl p q c d e=>cases b with
   | sl p' q' c' d' e'=>
    have h':(Nat.beq p p' && Nat.beq q q' && Nat.beq c c' && Nat.beq d d' && eqN e e')=true:=h;simp only[qah]at h';obtain⟨⟨⟨⟨h1,h2⟩,h3⟩,h4⟩,h5⟩:=h';rw[qaE h1,qaE h2,qaE h3,qaE h4,zEN h5]
   | _=>cases h
  | agg xs=>cases b with
   | agg ys=>rw[zjC ih (show zxK (eqV n) xs ys=true from h)]
   | _=>cases h
  | tup xs=>cases b with
   | tup ys=>rw[zjC ih (show zxK (eqV n) xs ys=true from h)]
   | _=>cases h
  | _=>cases h
def zFp:Ob->Ob->Bool
 | .blk xs,.blk ys=>zxK (eqV 9) xs ys
 | .dead,.dead=>true
 | _,_=>false
theorem zwQ{a b:Ob}(h:zFp a b=true):a=b:=by
 unfold zFp at h;split at h
 .rw[zjC (zuT 9) h]
 .rfl
 cases h
def eqG(g:Nat->Option Ob):Nat->List Ob->Bool
 | _,[]=>true
 | i,o :: r=>(match g i with | some o'=>zFp o o' | none=>false) && zeb (Nat.succ i) λi'=>eqG g i' r
theorem zAD{h:zam}:∀ {l:List Ob} {i:Nat},eqG (λk=>h[k]?) i l=true->∀ k,k<l.length->h[i+k]? = l[k]?
 | [],_,_,_,hk=>absurd hk (qaj _)
 | o :: r,i,he,k,hk=>by
  unfold eqG at he;obtain⟨h1,h2⟩:=qcy.1 he;rw[zcH]at h2;cases k with
  | zero=>
   cases ho:h[i]? with
   | none=>rw[ho]at h1; cases h1
   | some o'=>
    rw[ho]at h1;rw[zwQ h1];rfl
  | succ k=>
   have:=zAD h2 k (by simpa using hk);rw[show i+(k+1)=Nat.succ i+k by omega,this];rfl
def swG(g:Nat->Option Ob):Nat->List Ob->Bool
 | _,[]=>true
 | i,o :: r=>(match o with
   | .dead=>true
   | o=>match g i with | some o'=>zFp o o' | none=>false) && zeb (Nat.succ i) λi'=>swG g i' r
def zF7(h' h1:zam):Prop:=h1.length=h'.length/\∀(β:Nat) (o:Ob),h1[β]? = some o->o=.dead\/h'[β]? = some o
theorem zzJ{h:zam}:∀ {l:List Ob} {i:Nat},swG (λk=>h[k]?) i l=true->∀(k:Nat) (o:Ob),l[k]? = some o->o=.dead\/h[i+k]? = some o
 | [],_,_,_,_,hk=>by cases hk
 | o :: r,i,he,k,o1,hk=>by
  unfold swG at he;obtain⟨h1,h2⟩:=qcy.1 he;rw[zcH]at h2;cases k with
  | zero=>
   cases hk;split at h1
   .exact .inl rfl
   .cases ho:h[i]? with
    | none=>rw[ho]at h1; cases h1
    | some o'=>
     rw[ho]at h1;exact .inr (by rw[zwQ h1])
  | succ k=>
   rcases zzJ h2 k o1 (by simpa using hk)with h3 | h3
   .exact .inl h3
   exact .inr (by rw[show i+(k+1)=Nat.succ i+k by omega]; exact h3)
variable{P:Program}
theorem Sim.dead{B:Nat}{w1 w:World}{ι:Io}{h' h1:zam}(hS:Sim P B w1 ι h' w)(hd:zF7 h' h1):Sim P B w1 ι h1 w:=by
 have hl:∀ {β:Nat} {o:Ob},h1[β]? = some o->o.live->h'[β]? = some o:=λ{β o} ho hv=>(hd.2 β o ho).elim (λe=>by rw[e]at hv; exact hv.elim) id
 refine⟨by rw[hd.1]; exact hS.base,hS.below,λβ o ho=>?_,λβ o b s sz ho hv=>hS.own β o b s sz (hl ho hv) hv,λβ o b s sz ho hv=>hS.old β o b s sz (hl ho hv) hv,
  λβ β' o o' b s sz s' sz' ho ho' hv hv'=>hS.inj β β' o o' b s sz s' sz' (hl ho hv) (hl ho' hv') hv hv',λβ x hx=>by rw[hd.1]; exact hS.scope β x hx⟩
 rcases hd.2 β o ho with rfl | h
 .trivial
 exact hS.obj β o h
theorem zgc.dead{P:Program}{B f:Nat}{args:List V}{h h' h1:zam}{cr:CR}(hc:zgc P B f args h cr h')(hd:zF7 h' h1)(hw:wrF f=false):zgc P B f args h cr h1:=by
 refine .of (λw1 ι w vs hS ha=>?_) hw;obtain⟨g1,g2⟩:=hc.1 w1 ι w vs hS ha;exact⟨g1,CallsIn.mono g2 λen w' ⟨ι',q1,q2,q3⟩=>⟨ι',q1,q2.dead hd,q3⟩⟩
structure Cut where
 f:Nat
 args:List V
 h0:List Ob
 v:V
 h1:List Ob
def zn8(P:Program)(c:Cut):Prop:=zgc P 0 c.f c.args c.h0 (.ret c.v) c.h1/\zaH 0 c.h0 c.h1
def zE2(B f:Nat)(args:List V)(n:Nat)(g:Nat->Option Ob):List Cut->Option (V×List Ob)
 | []=>none
 | c :: r=>bif Nat.beq f c.f && Nat.beq B 0 && zxK (eqV 9) c.args args && Nat.beq n c.h0.length && eqG g 0 c.h0 then some (c.v,c.h1)else zE2 B f args n g r
def zt3(cs:List Cut):Orc:=λB f args h=>(zE2 B f args h.length (λk=>h[k]?) cs).map λx=>(.ret x.1,x.2)
theorem zp2{P:Program}:∀ {cs:List Cut},(∀ c∈cs,zn8 P c)->zht P (zt3 cs)
 | [],_,_,_,_,_,_,_,h=>by cases h
 | c :: r,hk,B,f,args,h,cr,h',ho=>by
  unfold zt3 zE2 at ho;cases hb:Nat.beq f c.f && Nat.beq B 0 && zxK (eqV 9) c.args args && Nat.beq h.length c.h0.length && eqG (λk=>h[k]?) 0 c.h0 with
  | false=>
   rw[hb,qdu]at ho;exact zp2 (λd hd=>hk d (qag _ hd)) B f args h cr h' ho
  | true=>
   rw[hb,qdt]at ho;simp only[qah]at hb;obtain⟨⟨⟨⟨b1,b2⟩,b3⟩,b4⟩,b5⟩:=hb;have e1:=qaE b1;have e2:=qaE b2;have e3:=zjC (zuT 9) b3;have e4:h=c.h0:=by
    have hl:=qaE b4;refine qda λk=>?_
    by_cases hk:k<c.h0.length
    .have:=zAD b5 k hk
     rwa [qaR]at this
    rw[qbF (by omega),qbF (by omega)]
   subst e1 e2;rw[<- e3,e4];cases ho;exact hk c qai
def zzD(cs:List Cut)(fns:Nat->Option Fn):Nat->RecY
 | 0=>RecY.none
 | n+1=>⟨zfI (zzD cs fns n),λB f args H=>match zE2 B f args H.n H.t.get cs with
   | some (v,h1)=>zAF h1 0 .leaf λt=>zeb h1.length λm=>some (.ret v,⟨m,t⟩)
   | none=>match zFv B (zvb H) f args with
    | some e=>apY H e λv H'=>some (.ret v,H')
    | none=>zvt (zzD cs fns n) fns B f args H,λB f=>zwm (zqb (zvY (λB f args h=>zjm (zt3 cs B f args h) (zhh B f args h)) fns n) fns B f)⟩
theorem zmb(cs:List Cut)(fns:Nat->Option Fn):∀ n,RRY (zzD cs fns n) (zvY (λB f args h=>zjm (zt3 cs B f args h) (zhh B f args h)) fns n)
 | 0=>⟨λ_ _ _ _ _ _ _ _ h=>(by cases h),λ_ _ _ _ _ _ _ _ h=>(by cases h),λ_ _ _ _ _ _ _ _ _ h=>(by cases h)⟩
 | n+1=>by
  refine⟨λB rd c T S ex T' hS hc=>zdF (zmb cs fns n) c T T' S ex hS hc,λB f args H h cr H' hh hc=>?_,λB f args pv H h pv' H' hh hc=>zwi hh hc⟩;simp only[zzD]at hc;rw[show zvb H=zaG h from funext (zqr hh),show H.t.get=λk=>h[k]? from funext hh.2,hh.1]at hc;show ∃ h',zjm (zjm (zt3 cs B f args h) (zhh B f args h)) (zjj (zvY (λB f args h=>zjm (zt3 cs B f args h) (zhh B f args h)) fns n) fns B f args h)=some (cr,h')/\zfD H' h';rw[zBi B f args h];cases hcut:zE2 B f args h.length (λk=>h[k]?) cs with
  | some x=>
   rw[hcut]at hc;obtain⟨t,g1,g2⟩:=ziD _ _ _ _ hc;simp only[zcH,qaf,qao]at g1;obtain⟨rfl,rfl⟩:=g1;have e:zt3 cs B f args h=some (.ret x.1,x.2):=by unfold zt3; rw[hcut]; rfl
   exact⟨x.2,by rw[e]; rfl,zkf g2⟩
  | none=>
   rw[hcut]at hc;have e:zt3 cs B f args h=none:=by unfold zt3; rw[hcut]; rfl
   rw[e];cases ho:zFv B (zaG h) f args with
   | some y=>
    rw[ho]at hc;obtain⟨H1,g1,g2⟩:=zzz hh hc;simp only[qaf,qao]at g2;obtain⟨rfl,rfl⟩:=g2;exact⟨_,rfl,g1⟩
   | none=>
    rw[ho]at hc;exact zwC (zmb cs fns n) hh hc
def zti(cs:List Cut)(fns:Nat->Option Fn)(n f:Nat)(args:List V)(h0:List Ob):Option (CR×HY):=
 zAF h0 0 .leaf λt=>zeb h0.length λm=>(zzD cs fns n).call 0 f args ⟨m,t⟩
def zs2(x:Option (CR×HY))(v:V)(h1:List Ob):Bool:=
 match x with
 | some (.ret v',H)=>eqV 9 v v' && Nat.beq H.n h1.length && swG H.t.get 0 h1
 | _=>false
variable{fns:Nat->Option Fn}
theorem zgV(hm:P.follows .mixedOrders=true)(htab:∀ f fn,fns f=some fn->zne P f fn)(hl:zht P zhh){cs:List Cut}(hcs:∀ c∈cs,zn8 P c){n f:Nat}{args:List V}{h0:List Ob}{v:V}{h1:List Ob}(hw:wrF f=false)(h:zs2 (zti cs fns n f args h0) v h1=true):zn8 P ⟨f,args,h0,v,h1⟩:=by
 have hok:=zmP hm htab (orc:=λB f args h=>zjm (zt3 cs B f args h) (zhh B f args h)) (ziZ (zp2 hcs) hl) n;unfold zs2 at h;split at h
 .rename_i v' H heq;unfold zti at heq;obtain⟨t,g1,g2⟩:=ziD _ _ _ _ heq;rw[zcH]at g1;obtain⟨h',q1,q2⟩:=(zmb cs fns n).call _ _ _ _ h0 _ _ (zkf g2) g1;obtain⟨k1,k2⟩:=hok.call _ _ _ _ _ _ q1;simp only[qah]at h;obtain⟨⟨b1,b2⟩,b3⟩:=h;have e1:=zuT _ _ _ b1;subst e1;rw[show H.t.get=λk=>h'[k]? from funext q2.2]at b3;have hlen:h1.length=h'.length:=by rw[<- qaE b2,q2.1]
  have hd:zF7 h' h1:=⟨hlen,λβ o ho=>by have:=zzJ b3 β o ho; rwa [qaR]at this⟩;exact⟨k1.dead hd hw,λhB=>⟨by rw[hlen]; exact(k2 hB).1,λβ hβ=>absurd hβ (qaj _)⟩⟩
 cases h
theorem znA(hm:P.follows .mixedOrders=true)(htab:∀ f fn,fns f=some fn->zne P f fn)(hl:zht P zhh){cs:List Cut}(hcs:∀ c∈cs,zn8 P c){n f:Nat}(h:zp8 ((zzD cs fns n).call 0 f [] HY.empty)=true)(w:World):
  Calls P f #[] w λe w'=>e=.returned (.bool true)/\Go.RowKit.Below w.heap.size w w':=by
 have hok:=zmP hm htab (orc:=λB f args h=>zjm (zt3 cs B f args h) (zhh B f args h)) (ziZ (zp2 hcs) hl) n;cases hc0:(zzD cs fns n).call 0 f [] HY.empty with
 | none=>rw[hc0]at h; cases h
 | some res=>
  rw[hc0]at h;obtain⟨cr,H'⟩:=res;obtain⟨h',hc,_⟩:=(zmb cs fns n).call _ _ _ _ [] _ _ ⟨rfl,λk=>by simp[HY.empty,Tr.get]⟩ hc0;have hS:Sim P 0 w (λ_=>none) [] w:=⟨qap _,Go.RowKit.Below.refl _ _,by simp,by simp,by simp,by simp,by simp⟩;obtain⟨_,hcalls⟩:=(hok.call _ _ _ _ _ _ hc).1.1 w (λ_=>none) w #[] hS ⟨rfl,by simp⟩;have hw:CallsIn Fence.wide 0 P f #[] w (zfz P 0 w (λ_=>none) cr h'):=hcalls;refine Calls.mono (callsIn_wide.1 hw) λe w' hp=>?_
  obtain⟨ι',_,hS',hp⟩:=hp;unfold zp8 at h;split at h
  .rename_i b h2 heq;cases heq;obtain⟨u,rfl,hv⟩:=hp;cases hv;subst h;exact⟨rfl,hS'.below⟩
  cases h
end Go.Mx
