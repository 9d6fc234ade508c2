/-
 The machine with tries, with what is known of the library's own functions. Conditions: none.
-/
import Derived.Test.YtbjogdohfhdaiaaGreatErMx22
import Derived.Test.YtbjogdohfhdaiaaGreatErMxJ
set_option linter.unusedSimpArgs false
set_option linter.unusedVariables false
namespace Go.Mx
open Go Go.Proofs
def zDt(x:Int):List Int->List Int
 | []=>[x]
 | y :: ys=>bif decide (x<=y)then x :: y :: ys else y :: zDt x ys
def zFw:List Int->List Int
 | []=>[]
 | x :: xs=>zDt x (zFw xs)
theorem zkz(x:Int):∀ ys,(zDt x ys).Perm (x :: ys)
 | []=>.refl _
 | y :: ys=>by
  unfold zDt;cases decide (x<=y)with
  | true=>exact .refl _
  | false=>exact((zkz x ys).cons y).trans (.swap x y ys)
theorem zon:∀ xs,(zFw xs).Perm xs
 | []=>.refl _
 | x :: xs=>(zkz x _).trans ((zon xs).cons x)
theorem zxG(x:Int):∀ {ys:List Int},ys.Pairwise (· <= ·)->(zDt x ys).Pairwise (· <= ·)
 | [],_=>List.pairwise_singleton _ _
 | y :: ys,h=>by
  obtain⟨h1,h2⟩:=qa4.1 h;unfold zDt;cases hd:decide (x<=y)with
  | true=>
   have hxy:=of_decide_eq_true hd
   exact qa4.2 ⟨λz hz=>by
    rcases qav.1 hz with rfl | hz
    .exact hxy
    .exact Int.le_trans hxy (h1 z hz),h⟩
  | false=>
   have hyx:y<=x:=by have:=qdD hd; omega
   refine qa4.2 ⟨λz hz=>?_,zxG x h2⟩;rcases qav.1 ((zkz x ys).mem_iff.1 hz)with rfl | hz
   .exact hyx
   exact h1 z hz
theorem zxq:∀ xs,(zFw xs).Pairwise (· <= ·)
 | []=>.nil
 | x :: xs=>zxG x (zxq xs)
theorem zzh(xs:List Int):zgk xs=zFw xs:=by
 refine List.Perm.eq_of_pairwise (le:=λa b:Int=>a<=b) (λa b _ _ h1 h2=>Int.le_antisymm h1 h2) ?_ (zxq xs) ((List.mergeSort_perm xs _).trans (zon xs).symm);have:=List.pairwise_mergeSort (le:=λx y:Int=>decide (x<=y)) (λa b c h1 h2=>by simp at *; omega) (λa b=>by simp; omega) xs;exact this.imp λh=>by simpa using h
abbrev zDx(h:zam)(e:EffR):CR×zam:=(.ret (e.ap h).1,(e.ap h).2)
def zHk(B:Nat)(blk:Nat->Option (List V))(args:List V):Option EffR:=
 match args with
 | [s,.lit (.int .i64 z),.sl γ o2 n2 m c2]=>
  match blk γ with
  | some us=>
   if B<=γ/\0<m/\o2+m<=us.length/\n2=1/\0<=z then
    if zky s=true then
     if z=0/\m * 8<=140737488355328 then some (.snoc (λk=>.sl k 0 1 m none) (.blk ((us.drop o2).take m)))else none
    else
     match s with
     | .sl β o n len none=>
      match blk β with
      | some cs=>
       if n=1/\B<=β/\β≠γ/\o+len=cs.length/\z.toNat<=len/\(len+m)* 8<=140737488355328 then
        some (.setSnoc β .dead (λk=>.sl k 0 1 (len+m) none) (.blk ((cs.drop o).take z.toNat ++ (us.drop o2).take m ++ (cs.drop o).drop z.toNat)))
       else none
      | none=>none
     | _=>none
   else none
  | none=>none
 | _=>none
theorem zCG(B:Nat)(args:List V)(h:zam):zna B 123 args h=(zHk B (zax h) args).map (zDx h):=by
 unfold zna zHk;rw[if_pos rfl];split
 .rename_i s z γ o2 n2 m c2;simp only[];cases zax h γ with
  | none=>rfl
  | some us=>
   simp only[];split
   .split
    .split<;>rfl
    split
    .rename_i β o n len _;simp only[];cases zax h β with
     | none=>rfl
     | some cs=>simp only[]; split<;>rfl
    rename_i hne;split
    .rename_i β o n len _;exact absurd rfl (hne β o n len)
    rfl
   rfl
 rename_i hne;split
 .rename_i s z γ o2 n2 m c2;exact absurd rfl (hne s z γ o2 n2 m c2)
 rfl
def zu1(blk:Nat->Option (List V))(args:List V):Option EffR:=
 match args with
 | [.lit (.slice none 0 0)]=>some (.zgl (.lit (.slice none 0 0)))
 | [.sl γ o n 0 cap]=>some (.snoc (λk=>.sl k 0 1 0 none) (.blk []))
 | [.sl γ o n (len+1) cap]=>
  match blk γ with
  | some cs=>if n=1/\o+(len+1)<=cs.length/\(len+1)* 8<=140737488355328 then
    match ((cs.drop o).take (len+1)).mapM zj6 with
    | some _=>some (.snoc (λk=>.sl k 0 1 (len+1) none) (.blk ((cs.drop o).take (len+1))))
    | none=>none
   else none
  | none=>none
 | _=>none
theorem zwX(B:Nat)(args:List V)(h:zam):zec B 109 args h=(zu1 (zax h) args).map (zDx h):=by
 unfold zec zu1;rw[if_pos rfl];split
 .rfl
 .rfl
 .rename_i γ o n len cap;simp only[];cases zax h γ with
  | none=>rfl
  | some cs=>
   simp only[];split
   .cases((cs.drop o).take (len+1)).mapM zj6<;>rfl
   rfl
 rename_i h1 h2 h3;split
 .exact absurd rfl h1
 .rename_i γ o n cap; exact absurd rfl (h2 γ o n cap)
 .rename_i γ o n len cap; exact absurd rfl (h3 γ o n len cap)
 rfl
def zHn(B:Nat)(blk:Nat->Option (List V))(args:List V):Option EffR:=
 match args with
 | [.sl β 0 1 len none,.lit (.int .i64 i),.lit (.int .i64 j)]=>
  match blk β with
  | some cs=>
   match cs.mapM zj6 with
   | some zs=>if(B<=β/\len=zs.length/\0<len)/\0<=i/\i<=j/\j<=len then
     some (.set (.sl β 0 1 (len - (j.toNat - i.toNat)) none) β (.blk ((zs.take i.toNat ++ zs.drop j.toNat ++ List.replicate (j.toNat - i.toNat) 0).map zgp)))
    else none
   | none=>none
  | none=>none
 | _=>none
theorem zC9(B:Nat)(args:List V)(h:zam):zoB B 108 args h=(zHn B (zax h) args).map (zDx h):=by
 unfold zoB zHn;rw[if_pos rfl];split
 .rename_i β len i j;simp only[];cases zax h β with
  | none=>rfl
  | some cs=>
   simp only[];cases cs.mapM zj6 with
   | none=>rfl
   | some zs=>simp only[]; split<;>rfl
 rename_i h1;split
 .rename_i β len i j; exact absurd rfl (h1 β len i j)
 rfl
def zGR(B:Nat)(blk:Nat->Option (List V))(args:List V):Option EffR:=
 match args with
 | [.lit (.slice none 0 0)]=>some (.zgl (.lit (.slice none 0 0)))
 | [.sl β 0 1 0 none]=>some (.zgl (.sl β 0 1 0 none))
 | [.sl β 0 1 (len+1) none]=>
  match blk β with
  | some cs=>
   match cs.mapM zj6 with
   | some zs=>if B<=β/\len+1=zs.length then
     some (.set (.sl β 0 1 (Go.Lib.compact zs).length none) β (.blk ((Go.Lib.compact zs ++ List.replicate (zs.length - (Go.Lib.compact zs).length) 0).map zgp)))
    else none
   | none=>none
  | none=>none
 | _=>none
theorem zCQ(B:Nat)(args:List V)(h:zam):zp5 B 139 args h=(zGR B (zax h) args).map (zDx h):=by
 unfold zp5 zGR;rw[if_pos rfl];split
 .rfl
 .rfl
 .rename_i β len;simp only[];cases zax h β with
  | none=>rfl
  | some cs=>
   simp only[];cases cs.mapM zj6 with
   | none=>rfl
   | some zs=>simp only[]; split<;>rfl
 rename_i h1 h2 h3;split
 .exact absurd rfl h1
 .rename_i β; exact absurd rfl (h2 β)
 .rename_i β len; exact absurd rfl (h3 β len)
 rfl
def zGv(B:Nat)(blk:Nat->Option (List V))(args:List V):Option EffR:=
 match args with
 | [.lit (.slice none 0 0)]=>some (.zgl (.tup []))
 | [.sl β 0 1 0 none]=>some (.zgl (.tup []))
 | [.sl β 0 1 (len+1) none]=>
  match blk β with
  | some cs=>
   match cs.mapM zj6 with
   | some zs=>if(B<=β/\len+1=zs.length)/\zs.length * 8<=140737488355328 then some (.set (.tup []) β (.blk ((zFw zs).map zgp)))else none
   | none=>none
  | none=>none
 | _=>none
theorem zCK(B:Nat)(args:List V)(h:zam):zrA B 138 args h=(zGv B (zax h) args).map (zDx h):=by
 unfold zrA zGv;rw[if_pos rfl];split
 .rfl
 .rfl
 .rename_i β len;simp only[];cases zax h β with
  | none=>rfl
  | some cs=>
   simp only[];cases cs.mapM zj6 with
   | none=>rfl
   | some zs=>simp only[zzh]; split<;>rfl
 rename_i h1 h2 h3;split
 .exact absurd rfl h1
 .rename_i β; exact absurd rfl (h2 β)
 .rename_i β len; exact absurd rfl (h3 β len)
 rfl
def zGk(B:Nat)(blk:Nat->Option (List V))(f:Nat)(args:List V):Option EffR:=
 bif Nat.beq f 123 then zHk B blk args else bif Nat.beq f 109 then zu1 blk args else
 bif Nat.beq f 108 then zHn B blk args else bif Nat.beq f 139 then zGR B blk args else
 bif Nat.beq f 138 then zGv B blk args else none
theorem zs3(x y:Option (CR×zam))(h:y=none):zjH x y=x:=by
 unfold zjH;cases x with
 | none=>exact h
 | some _=>rfl
theorem zC2(B f:Nat)(args:List V)(h:zam):zho B f args h=(zGk B (zax h) f args).map (zDx h):=by
 have ne:∀ {a b:Nat},Nat.beq a b=false->a≠b:=λ{a b} hb e=>by subst e; rw[Nat.beq_refl]at hb; cases hb
 unfold zho zGk;cases h1:Nat.beq f 123 with
 | true=>
  have:=qaF h1;subst this;rw[qdt,<- zCG];refine zs3 _ _ ?_;unfold zjH zec zoB zp5 zrA;simp
 | false=>
 rw[qdu];have e1:zna B f args h=none:=by unfold zna; rw[if_neg (ne h1)]
 rw[e1];show zjH (zec B f args h) _=_;cases h2:Nat.beq f 109 with
 | true=>
  have:=qaF h2;subst this;rw[qdt,<- zwX B];refine zs3 _ _ ?_;unfold zjH zoB zp5 zrA;simp
 | false=>
 rw[qdu];have e2:zec B f args h=none:=by unfold zec; rw[if_neg (ne h2)]
 rw[e2];show zjH (zoB B f args h) _=_;cases h3:Nat.beq f 108 with
 | true=>
  have:=qaF h3;subst this;rw[qdt,<- zC9];refine zs3 _ _ ?_;unfold zjH zp5 zrA;simp
 | false=>
 rw[qdu];have e3:zoB B f args h=none:=by unfold zoB; rw[if_neg (ne h3)]
 rw[e3];show zjH (zp5 B f args h) _=_;cases h4:Nat.beq f 139 with
 | true=>
  have:=qaF h4;subst this;rw[qdt,<- zCQ];refine zs3 _ _ ?_;unfold zrA;simp
 | false=>
 rw[qdu];have e4:zp5 B f args h=none:=by unfold zp5; rw[if_neg (ne h4)]
 rw[e4];show zrA B f args h=_;cases h5:Nat.beq f 138 with
 | true=>
  have:=qaF h5;subst this;rw[qdt,<- zCK]
 | false=>
  rw[qdu];unfold zrA;rw[if_neg (ne h5)];rfl
end Go.Mx
namespace Go.Mx
open Go Go.Proofs
def eqL:Value->Value->Bool
 | .int k n,.int k' n'=>decide (k=k') && decide (n=n')
 | .bool b,.bool b'=>decide (b=b')
 | .slice none 0 0,.slice none 0 0=>true
 | _,_=>false
theorem zFR{a b:Value}(h:eqL a b=true):a=b:=by
 unfold eqL at h;split at h
 .simp only[qai,decide_eq_true_eq]at h;rw[h.1,h.2]
 .rw[of_decide_eq_true h]
 .rfl
 cases h
def zxZ(f:V->V->Bool):List V->List V->Bool
 | [],[]=>true
 | a :: xs,b :: ys=>f a b && zxZ f xs ys
 | _,_=>false
theorem zlg{f:V->V->Bool}(hf:∀ a b,f a b=true->a=b):∀ {xs ys:List V},zxZ f xs ys=true->xs=ys
 | [],[],_=>rfl
 | [],_ :: _,h=>by cases h
 | _ :: _,[],h=>by cases h
 | a :: xs,b :: ys,h=>by
  obtain⟨h1,h2⟩:=qbE.1 (show(f a b && zxZ f xs ys)=true from h);rw[hf a b h1,zlg hf h2]
def eqN:Option Nat->Option Nat->Bool
 | none,none=>true
 | some a,some b=>Nat.beq a b
 | _,_=>false
theorem zDX{a b:Option Nat}(h:eqN a b=true):a=b:=by
 unfold eqN at h;split at h
 .rfl
 .rw[qaF h]
 cases h
def eqV:Nat->V->V->Bool
 | 0,_,_=>false
 | n+1,.lit a,.lit b=>eqL a b
 | n+1,.ptr a b,.ptr c d=>Nat.beq a c && Nat.beq b d
 | n+1,.sl a b c d e,.sl a' b' c' d' e'=>Nat.beq a a' && Nat.beq b b' && Nat.beq c c' && Nat.beq d d' && eqN e e'
 | n+1,.agg xs,.agg ys=>zxZ (eqV n) xs ys
 | n+1,.tup xs,.tup ys=>zxZ (eqV n) xs ys
 | _,_,_=>false
theorem zvA:∀(n:Nat) (a b:V),eqV n a b=true->a=b:=by
 intro n;induction n with
 | zero=>intro a b h; cases h
 | succ n ih=>
  intro a b h;cases a with
  | lit x=>cases b with
   | lit y=>rw[zFR (show eqL x y=true from h)]
   | _=>cases h
  | ptr x y=>cases b with
   | ptr z w=>
    obtain⟨h1,h2⟩:=qbE.1 (show(Nat.beq x z && Nat.beq y w)=true from h);rw[qaF h1,qaF h2]
   | _=>cases h
  | sl p q c d e=>cases b with
   | sl p' q' c' d' e'=>
    have h':(Nat.beq p p' && Nat.beq q q' && Nat.beq c c' && Nat.beq d d' && eqN e e')=true:=h;simp only[qai]at h';obtain⟨⟨⟨⟨h1,h2⟩,h3⟩,h4⟩,h5⟩:=h';rw[qaF h1,qaF h2,qaF h3,qaF h4,zDX h5]
   | _=>cases h
  | agg xs=>cases b with
   | agg ys=>rw[zlg ih (show zxZ (eqV n) xs ys=true from h)]
   | _=>cases h
  | tup xs=>cases b with
   | tup ys=>rw[zlg ih (show zxZ (eqV n) xs ys=true from h)]
   | _=>cases h
  | _=>cases h
def zGf:Ob->Ob->Bool
 | .blk xs,.blk ys=>zxZ (eqV 9) xs ys
 | .dead,.dead=>true
 | _,_=>false
theorem zvs{a b:Ob}(h:zGf a b=true):a=b:=by
 unfold zGf at h;split at h
 .rw[zlg (zvA 9) h]
 .rfl
 cases h
def eqG(g:Nat->Option Ob):Nat->List Ob->Bool
 | _,[]=>true
 | i,o :: r=>(match g i with | some o'=>zGf o o' | none=>false) && zd9 (Nat.succ i) λi'=>eqG g i' r
theorem zAV{h:zam}:∀ {l:List Ob} {i:Nat},eqG (λk=>h[k]?) i l=true->∀ k,k<l.length->h[i+k]? = l[k]?
 | [],_,_,_,hk=>absurd hk (qam _)
 | o :: r,i,he,k,hk=>by
  unfold eqG at he;obtain⟨h1,h2⟩:=qbE.1 he;rw[zcC]at h2;cases k with
  | zero=>
   cases ho:h[i]? with
   | none=>rw[ho]at h1; cases h1
   | some o'=>
    rw[ho]at h1;rw[zvs h1];rfl
  | succ k=>
   have:=zAV h2 k (by simpa using hk);rw[show i+(k+1)=Nat.succ i+k by omega,this];rfl
def swG(g:Nat->Option Ob):Nat->List Ob->Bool
 | _,[]=>true
 | i,o :: r=>(match o with
   | .dead=>true
   | o=>match g i with | some o'=>zGf o o' | none=>false) && zd9 (Nat.succ i) λi'=>swG g i' r
def zGZ(h' h1:zam):Prop:=h1.length=h'.length/\∀(β:Nat) (o:Ob),h1[β]? = some o->o=.dead\/h'[β]? = some o
theorem zA4{h:zam}:∀ {l:List Ob} {i:Nat},swG (λk=>h[k]?) i l=true->∀(k:Nat) (o:Ob),l[k]? = some o->o=.dead\/h[i+k]? = some o
 | [],_,_,_,_,hk=>by cases hk
 | o :: r,i,he,k,o1,hk=>by
  unfold swG at he;obtain⟨h1,h2⟩:=qbE.1 he;rw[zcC]at h2;cases k with
  | zero=>
   cases hk;split at h1
   .exact .inl rfl
   .cases ho:h[i]? with
    | none=>rw[ho]at h1; cases h1
    | some o'=>
     rw[ho]at h1;exact .inr (by rw[zvs h1])
  | succ k=>
   rcases zA4 h2 k o1 (by simpa using hk)with h3 | h3
   .exact .inl h3
   exact .inr (by rw[show i+(k+1)=Nat.succ i+k by omega]; exact h3)
variable{P:Program}
theorem Sim.dead{B:Nat}{w1 w:World}{ι:Io}{h' h1:zam}(hS:Sim P B w1 ι h' w)(hd:zGZ h' h1):Sim P B w1 ι h1 w:=by
 have hl:∀ {β:Nat} {o:Ob},h1[β]? = some o->o.live->h'[β]? = some o:=λ{β o} ho hv=>(hd.2 β o ho).elim (λe=>by rw[e]at hv; exact hv.elim) id
 refine⟨by rw[hd.1]; exact hS.base,hS.below,λβ o ho=>?_,λβ o b s sz ho hv=>hS.own β o b s sz (hl ho hv) hv,λβ o b s sz ho hv=>hS.old β o b s sz (hl ho hv) hv,
  λβ β' o o' b s sz s' sz' ho ho' hv hv'=>hS.inj β β' o o' b s sz s' sz' (hl ho hv) (hl ho' hv') hv hv',λβ x hx=>by rw[hd.1]; exact hS.scope β x hx⟩
 rcases hd.2 β o ho with rfl | h
 .trivial
 exact hS.obj β o h
theorem zgb.dead{P:Program}{B f:Nat}{args:List V}{h h' h1:zam}{cr:CR}(hc:zgb P B f args h cr h')(hd:zGZ h' h1)(hw:wrF f=false):zgb P B f args h cr h1:=by
 refine .of (λw1 ι w vs hS ha=>?_) hw;obtain⟨g1,g2⟩:=hc.1 w1 ι w vs hS ha;exact⟨g1,CallsIn.mono g2 λen w' ⟨ι',q1,q2,q3⟩=>⟨ι',q1,q2.dead hd,q3⟩⟩
structure Cut where
 f:Nat
 args:List V
 h0:List Ob
 v:V
 h1:List Ob
def zoU(P:Program)(c:Cut):Prop:=zgb P 0 c.f c.args c.h0 (.ret c.v) c.h1/\zaG 0 c.h0 c.h1
def zFA(B f:Nat)(args:List V)(n:Nat)(g:Nat->Option Ob):List Cut->Option (V×List Ob)
 | []=>none
 | c :: r=>bif Nat.beq f c.f && Nat.beq B 0 && zxZ (eqV 9) c.args args && Nat.beq n c.h0.length && eqG g 0 c.h0 then some (c.v,c.h1)else zFA B f args n g r
def zuj(cs:List Cut):Orc:=λB f args h=>(zFA B f args h.length (λk=>h[k]?) cs).map λx=>(.ret x.1,x.2)
theorem zrh{P:Program}:∀ {cs:List Cut},(∀ c∈cs,zoU P c)->zhv P (zuj cs)
 | [],_,_,_,_,_,_,_,h=>by cases h
 | c :: r,hk,B,f,args,h,cr,h',ho=>by
  unfold zuj zFA at ho;cases hb:Nat.beq f c.f && Nat.beq B 0 && zxZ (eqV 9) c.args args && Nat.beq h.length c.h0.length && eqG (λk=>h[k]?) 0 c.h0 with
  | false=>
   rw[hb,qdu]at ho;exact zrh (λd hd=>hk d (qah _ hd)) B f args h cr h' ho
  | true=>
   rw[hb,qdt]at ho;simp only[qai]at hb;obtain⟨⟨⟨⟨b1,b2⟩,b3⟩,b4⟩,b5⟩:=hb;have e1:=qaF b1;have e2:=qaF b2;have e3:=zlg (zvA 9) b3;have e4:h=c.h0:=by
    have hl:=qaF b4;refine qdb λk=>?_
    by_cases hk:k<c.h0.length
    .have:=zAV b5 k hk
     rwa [qaO]at this
    rw[qbx (by omega),qbx (by omega)]
   subst e1 e2;rw[<- e3,e4];cases ho;exact hk c qaj
def zAU(cs:List Cut)(fns:Nat->Option Fn):Nat->RecY
 | 0=>RecY.none
 | n+1=>⟨zfD (zAU cs fns n),λB f args H=>match zFA B f args H.n H.t.get cs with
   | some (v,h1)=>zAi h1 0 .leaf λt=>zd9 h1.length λm=>some (.ret v,⟨m,t⟩)
   | none=>match zGk B (zw7 H) f args with
    | some e=>apY H e λv H'=>some (.ret v,H')
    | none=>zwt (zAU cs fns n) fns B f args H,λB f=>zwk (zm6 (zvl (λB f args h=>zjH (zuj cs B f args h) (zho B f args h)) fns n) fns B f)⟩
theorem zny(cs:List Cut)(fns:Nat->Option Fn):∀ n,RRY (zAU cs fns n) (zvl (λB f args h=>zjH (zuj cs B f args h) (zho B f args h)) fns n)
 | 0=>⟨λ_ _ _ _ _ _ _ _ h=>(by cases h),λ_ _ _ _ _ _ _ _ h=>(by cases h),λ_ _ _ _ _ _ _ _ _ h=>(by cases h)⟩
 | n+1=>by
  refine⟨λB rd c T S ex T' hS hc=>zdz (zny cs fns n) c T T' S ex hS hc,λB f args H h cr H' hh hc=>?_,λB f args pv H h pv' H' hh hc=>zws hh hc⟩;simp only[zAU]at hc;rw[show zw7 H=zax h from funext (zrf hh),show H.t.get=λk=>h[k]? from funext hh.2,hh.1]at hc;show ∃ h',zjH (zjH (zuj cs B f args h) (zho B f args h)) (zi2 (zvl (λB f args h=>zjH (zuj cs B f args h) (zho B f args h)) fns n) fns B f args h)=some (cr,h')/\zfy H' h';rw[zC2 B f args h];cases hcut:zFA B f args h.length (λk=>h[k]?) cs with
  | some x=>
   rw[hcut]at hc;obtain⟨t,g1,g2⟩:=ziX _ _ _ _ hc;simp only[zcC,qae,qan]at g1;obtain⟨rfl,rfl⟩:=g1;have e:zuj cs B f args h=some (.ret x.1,x.2):=by unfold zuj; rw[hcut]; rfl
   exact⟨x.2,by rw[e]; rfl,zj8 g2⟩
  | none=>
   rw[hcut]at hc;have e:zuj cs B f args h=none:=by unfold zuj; rw[hcut]; rfl
   rw[e];cases ho:zGk B (zax h) f args with
   | some y=>
    rw[ho]at hc;obtain⟨H1,g1,g2⟩:=zz0 hh hc;simp only[qae,qan]at g2;obtain⟨rfl,rfl⟩:=g2;exact⟨_,rfl,g1⟩
   | none=>
    rw[ho]at hc;exact zuT (zny cs fns n) hh hc
def ztQ(cs:List Cut)(fns:Nat->Option Fn)(n f:Nat)(args:List V)(h0:List Ob):Option (CR×HY):=
 zAi h0 0 .leaf λt=>zd9 h0.length λm=>(zAU cs fns n).call 0 f args ⟨m,t⟩
def zub(x:Option (CR×HY))(v:V)(h1:List Ob):Bool:=
 match x with
 | some (.ret v',H)=>eqV 9 v v' && Nat.beq H.n h1.length && swG H.t.get 0 h1
 | _=>false
variable{fns:Nat->Option Fn}
theorem zg1(hm:P.follows .mixedOrders=true)(htab:∀ f fn,fns f=some fn->znE P f fn)(hl:zhv P zho){cs:List Cut}(hcs:∀ c∈cs,zoU P c){n f:Nat}{args:List V}{h0:List Ob}{v:V}{h1:List Ob}(hw:wrF f=false)(h:zub (ztQ cs fns n f args h0) v h1=true):zoU P ⟨f,args,h0,v,h1⟩:=by
 have hok:=zn4 hm htab (orc:=λB f args h=>zjH (zuj cs B f args h) (zho B f args h)) (ziZ (zrh hcs) hl) n;unfold zub at h;split at h
 .rename_i v' H heq;unfold ztQ at heq;obtain⟨t,g1,g2⟩:=ziX _ _ _ _ heq;rw[zcC]at g1;obtain⟨h',q1,q2⟩:=(zny cs fns n).call _ _ _ _ h0 _ _ (zj8 g2) g1;obtain⟨k1,k2⟩:=hok.call _ _ _ _ _ _ q1;simp only[qai]at h;obtain⟨⟨b1,b2⟩,b3⟩:=h;have e1:=zvA _ _ _ b1;subst e1;rw[show H.t.get=λk=>h'[k]? from funext q2.2]at b3;have hlen:h1.length=h'.length:=by rw[<- qaF b2,q2.1]
  have hd:zGZ h' h1:=⟨hlen,λβ o ho=>by have:=zA4 b3 β o ho; rwa [qaO]at this⟩;exact⟨k1.dead hd hw,λhB=>⟨by rw[hlen]; exact(k2 hB).1,λβ hβ=>absurd hβ (qam _)⟩⟩
 cases h
theorem zn0(hm:P.follows .mixedOrders=true)(htab:∀ f fn,fns f=some fn->znE P f fn)(hl:zhv P zho){cs:List Cut}(hcs:∀ c∈cs,zoU P c){n f:Nat}(h:zql ((zAU cs fns n).call 0 f [] HY.empty)=true)(w:World):
  Calls P f #[] w λe w'=>e=.returned (.bool true)/\Go.RowKit.Below w.heap.size w w':=by
 have hok:=zn4 hm htab (orc:=λB f args h=>zjH (zuj cs B f args h) (zho B f args h)) (ziZ (zrh hcs) hl) n;cases hc0:(zAU cs fns n).call 0 f [] HY.empty with
 | none=>rw[hc0]at h; cases h
 | some res=>
  rw[hc0]at h;obtain⟨cr,H'⟩:=res;obtain⟨h',hc,_⟩:=(zny cs fns n).call _ _ _ _ [] _ _ ⟨rfl,λk=>by simp[HY.empty,Tr.get]⟩ hc0;have hS:Sim P 0 w (λ_=>none) [] w:=⟨qap _,Go.RowKit.Below.refl _ _,by simp,by simp,by simp,by simp,by simp⟩;obtain⟨_,hcalls⟩:=(hok.call _ _ _ _ _ _ hc).1.1 w (λ_=>none) w #[] hS ⟨rfl,by simp⟩;have hw:CallsIn Fence.wide 0 P f #[] w (zfw P 0 w (λ_=>none) cr h'):=hcalls;refine Calls.mono (callsIn_wide.1 hw) λe w' hp=>?_
  obtain⟨ι',_,hS',hp⟩:=hp;unfold zql at h;split at h
  .rename_i b h2 heq;cases heq;obtain⟨u,rfl,hv⟩:=hp;cases hv;subst h;exact⟨rfl,hS'.below⟩
  cases h
end Go.Mx
