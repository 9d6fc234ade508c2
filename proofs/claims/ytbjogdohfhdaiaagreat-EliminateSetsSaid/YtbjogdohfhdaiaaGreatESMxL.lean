/-
 The machine with tries, with what is known of the library's own functions. Conditions: none.
-/
import Derived.Test.YtbjogdohfhdaiaaGreatESMx22
import Derived.Test.YtbjogdohfhdaiaaGreatESMxJ
set_option linter.unusedSimpArgs false
set_option linter.unusedVariables false
namespace Go.Mx
open Go Go.Proofs
def zx3(x:Int):List Int→List Int
 | []=>[x]
 | y :: ys=>bif decide (x≤y)then x :: y :: ys else y :: zx3 x ys
def zzq:List Int→List Int
 | []=>[]
 | x :: xs=>zx3 x (zzq xs)
theorem ziq(x:Int):∀ ys,(zx3 x ys).Perm (x :: ys)
 | []=>.refl _
 | y :: ys=>by
  unfold zx3;cases decide (x≤y)with
  | true=>exact .refl _
  | false=>exact((ziq x ys).cons y).trans (.swap x y ys)
theorem zla:∀ xs,(zzq xs).Perm xs
 | []=>.refl _
 | x :: xs=>(ziq x _).trans ((zla xs).cons x)
theorem ztl(x:Int):∀ {ys:List Int},ys.Pairwise (· ≤ ·)→(zx3 x ys).Pairwise (· ≤ ·)
 | [],_=>List.pairwise_singleton _ _
 | y :: ys,h=>by
  obtain⟨h1,h2⟩:=qbf.1 h;unfold zx3;cases hd:decide (x≤y)with
  | true=>
   have hxy:=of_decide_eq_true hd
   exact qbf.2 ⟨fun z hz=>by
    rcases qaz.1 hz with rfl | hz
    ·exact hxy
    ·exact Int.le_trans hxy (h1 z hz),h⟩
  | false=>
   have hyx:y≤x:=by have:=of_decide_eq_false hd; omega
   refine qbf.2 ⟨fun z hz=>?_,ztl x h2⟩;rcases qaz.1 ((ziq x ys).mem_iff.1 hz)with rfl | hz
   ·exact hyx
   exact h1 z hz
theorem zta:∀ xs,(zzq xs).Pairwise (· ≤ ·)
 | []=>.nil
 | x :: xs=>ztl x (zta xs)
theorem zt2(xs:List Int):ztZ xs=zzq xs:=by
 refine List.Perm.eq_of_pairwise (le:=fun a b:Int=>a≤b) (fun a b _ _ h1 h2=>Int.le_antisymm h1 h2) ?_ (zta xs) ((List.mergeSort_perm xs _).trans (zla xs).symm);have:=List.pairwise_mergeSort (le:=fun x y:Int=>decide (x≤y)) (fun a b c h1 h2=>by simp at *; omega) (fun a b=>by simp; omega) xs;exact this.imp fun h=>by simpa using h
abbrev zxQ(h:zaj)(e:EffR):CR×zaj:=(.ret (e.ap h).1,(e.ap h).2)
def zA0(B:Nat)(blk:Nat→Option (List V))(args:List V):Option EffR:=
 match args with
 | [s,.lit (.int .i64 z),.sl γ o2 n2 m c2]=>
  match blk γ with
  | some us=>
   if B≤γ∧0<m∧o2+m≤us.length∧n2=1∧0≤z then
    if zmH s=true then
     if z=0∧m * 8≤140737488355328 then some (.snoc (fun k=>.sl k 0 1 m none) (.blk ((us.drop o2).take m)))else none
    else
     match s with
     | .sl β o n len none=>
      match blk β with
      | some cs=>
       if n=1∧B≤β∧β≠γ∧o+len=cs.length∧z.toNat≤len∧(len+m)* 8≤140737488355328 then
        some (.setSnoc β .dead (fun k=>.sl k 0 1 (len+m) none) (.blk ((cs.drop o).take z.toNat ++ (us.drop o2).take m ++ (cs.drop o).drop z.toNat)))
       else none
      | none=>none
     | _=>none
   else none
  | none=>none
 | _=>none
theorem zwm(B:Nat)(args:List V)(h:zaj):zvU B 123 args h=(zA0 B (zaq h) args).map (zxQ h):=by
 unfold zvU zA0;rw[if_pos rfl];split
 ·rename_i s z γ o2 n2 m c2;simp only[];cases zaq h γ with
  | none=>rfl
  | some us=>
   simp only[];split
   ·split
    ·split<;>rfl
    split
    ·rename_i β o n len _;simp only[];cases zaq h β with
     | none=>rfl
     | some cs=>simp only[]; split<;>rfl
    rename_i hne;split
    ·rename_i β o n len _;exact absurd rfl (hne β o n len)
    rfl
   rfl
 rename_i hne;split
 ·rename_i s z γ o2 n2 m c2;exact absurd rfl (hne s z γ o2 n2 m c2)
 rfl
def zsx(blk:Nat→Option (List V))(args:List V):Option EffR:=
 match args with
 | [.lit (.slice none 0 0)]=>some (.zdr (.lit (.slice none 0 0)))
 | [.sl γ o n 0 cap]=>some (.snoc (fun k=>.sl k 0 1 0 none) (.blk []))
 | [.sl γ o n (len+1) cap]=>
  match blk γ with
  | some cs=>if n=1∧o+(len+1)≤cs.length∧(len+1)* 8≤140737488355328 then
    match ((cs.drop o).take (len+1)).mapM zi0 with
    | some _=>some (.snoc (fun k=>.sl k 0 1 (len+1) none) (.blk ((cs.drop o).take (len+1))))
    | none=>none
   else none
  | none=>none
 | _=>none
theorem zqF(B:Nat)(args:List V)(h:zaj):zfB B 109 args h=(zsx (zaq h) args).map (zxQ h):=by
 unfold zfB zsx;rw[if_pos rfl];split
 ·rfl
 ·rfl
 ·rename_i γ o n len cap;simp only[];cases zaq h γ with
  | none=>rfl
  | some cs=>
   simp only[];split
   ·cases((cs.drop o).take (len+1)).mapM zi0<;>rfl
   rfl
 rename_i h1 h2 h3;split
 ·exact absurd rfl h1
 ·rename_i γ o n cap; exact absurd rfl (h2 γ o n cap)
 ·rename_i γ o n len cap; exact absurd rfl (h3 γ o n len cap)
 rfl
def zAC(B:Nat)(blk:Nat→Option (List V))(args:List V):Option EffR:=
 match args with
 | [.sl β 0 1 len none,.lit (.int .i64 i),.lit (.int .i64 j)]=>
  match blk β with
  | some cs=>
   match cs.mapM zi0 with
   | some zs=>if(B≤β∧len=zs.length∧0<len)∧0≤i∧i≤j∧j≤len then
     some (.set (.sl β 0 1 (len - (j.toNat - i.toNat)) none) β (.blk ((zs.take i.toNat ++ zs.drop j.toNat ++ List.replicate (j.toNat - i.toNat) 0).map ziU)))
    else none
   | none=>none
  | none=>none
 | _=>none
theorem zwi(B:Nat)(args:List V)(h:zaj):zse B 108 args h=(zAC B (zaq h) args).map (zxQ h):=by
 unfold zse zAC;rw[if_pos rfl];split
 ·rename_i β len i j;simp only[];cases zaq h β with
  | none=>rfl
  | some cs=>
   simp only[];cases cs.mapM zi0 with
   | none=>rfl
   | some zs=>simp only[]; split<;>rfl
 rename_i h1;split
 ·rename_i β len i j; exact absurd rfl (h1 β len i j)
 rfl
def zAR(B:Nat)(blk:Nat→Option (List V))(args:List V):Option EffR:=
 match args with
 | [.lit (.slice none 0 0)]=>some (.zdr (.lit (.slice none 0 0)))
 | [.sl β 0 1 0 none]=>some (.zdr (.sl β 0 1 0 none))
 | [.sl β 0 1 (len+1) none]=>
  match blk β with
  | some cs=>
   match cs.mapM zi0 with
   | some zs=>if B≤β∧len+1=zs.length then
     some (.set (.sl β 0 1 (Go.Lib.compact zs).length none) β (.blk ((Go.Lib.compact zs ++ List.replicate (zs.length - (Go.Lib.compact zs).length) 0).map ziU)))
    else none
   | none=>none
  | none=>none
 | _=>none
theorem zw1(B:Nat)(args:List V)(h:zaj):zqD B 139 args h=(zAR B (zaq h) args).map (zxQ h):=by
 unfold zqD zAR;rw[if_pos rfl];split
 ·rfl
 ·rfl
 ·rename_i β len;simp only[];cases zaq h β with
  | none=>rfl
  | some cs=>
   simp only[];cases cs.mapM zi0 with
   | none=>rfl
   | some zs=>simp only[]; split<;>rfl
 rename_i h1 h2 h3;split
 ·exact absurd rfl h1
 ·rename_i β; exact absurd rfl (h2 β)
 ·rename_i β len; exact absurd rfl (h3 β len)
 rfl
def zAL(B:Nat)(blk:Nat→Option (List V))(args:List V):Option EffR:=
 match args with
 | [.lit (.slice none 0 0)]=>some (.zdr (.tup []))
 | [.sl β 0 1 0 none]=>some (.zdr (.tup []))
 | [.sl β 0 1 (len+1) none]=>
  match blk β with
  | some cs=>
   match cs.mapM zi0 with
   | some zs=>if(B≤β∧len+1=zs.length)∧zs.length * 8≤140737488355328 then some (.set (.tup []) β (.blk ((zzq zs).map ziU)))else none
   | none=>none
  | none=>none
 | _=>none
theorem zwd(B:Nat)(args:List V)(h:zaj):zqC B 138 args h=(zAL B (zaq h) args).map (zxQ h):=by
 unfold zqC zAL;rw[if_pos rfl];split
 ·rfl
 ·rfl
 ·rename_i β len;simp only[];cases zaq h β with
  | none=>rfl
  | some cs=>
   simp only[];cases cs.mapM zi0 with
   | none=>rfl
   | some zs=>simp only[zt2]; split<;>rfl
 rename_i h1 h2 h3;split
 ·exact absurd rfl h1
 ·rename_i β; exact absurd rfl (h2 β)
 ·rename_i β len; exact absurd rfl (h3 β len)
 rfl
def zz6(B:Nat)(blk:Nat→Option (List V))(f:Nat)(args:List V):Option EffR:=
 bif Nat.beq f 123 then zA0 B blk args else bif Nat.beq f 109 then zsx blk args else
 bif Nat.beq f 108 then zAC B blk args else bif Nat.beq f 139 then zAR B blk args else
 bif Nat.beq f 138 then zAL B blk args else none
theorem zpn(x y:Option (CR×zaj))(h:y=none):zhB x y=x:=by
 unfold zhB;cases x with
 | none=>exact h
 | some _=>rfl
theorem zw2(B f:Nat)(args:List V)(h:zaj):zow B f args h=(zz6 B (zaq h) f args).map (zxQ h):=by
 have ne:∀ {a b:Nat},Nat.beq a b=false→a≠b:=fun {a b} hb e=>by subst e; rw[Nat.beq_refl]at hb; cases hb
 unfold zow zz6;cases h1:Nat.beq f 123 with
 | true=>
  have:=qaE h1;subst this;rw[cond_true,← zwm];refine zpn _ _ ?_;unfold zhB zfB zse zqD zqC;simp
 | false=>
 rw[cond_false];have e1:zvU B f args h=none:=by unfold zvU; rw[if_neg (ne h1)]
 rw[e1];show zhB (zfB B f args h) _=_;cases h2:Nat.beq f 109 with
 | true=>
  have:=qaE h2;subst this;rw[cond_true,← zqF B];refine zpn _ _ ?_;unfold zhB zse zqD zqC;simp
 | false=>
 rw[cond_false];have e2:zfB B f args h=none:=by unfold zfB; rw[if_neg (ne h2)]
 rw[e2];show zhB (zse B f args h) _=_;cases h3:Nat.beq f 108 with
 | true=>
  have:=qaE h3;subst this;rw[cond_true,← zwi];refine zpn _ _ ?_;unfold zhB zqD zqC;simp
 | false=>
 rw[cond_false];have e3:zse B f args h=none:=by unfold zse; rw[if_neg (ne h3)]
 rw[e3];show zhB (zqD B f args h) _=_;cases h4:Nat.beq f 139 with
 | true=>
  have:=qaE h4;subst this;rw[cond_true,← zw1];refine zpn _ _ ?_;unfold zqC;simp
 | false=>
 rw[cond_false];have e4:zqD B f args h=none:=by unfold zqD; rw[if_neg (ne h4)]
 rw[e4];show zqC B f args h=_;cases h5:Nat.beq f 138 with
 | true=>
  have:=qaE h5;subst this;rw[cond_true,← zwd]
 | false=>
  rw[cond_false];unfold zqC;rw[if_neg (ne h5)];rfl
end Go.Mx
namespace Go.Mx
open Go Go.Proofs
def eqL:Value→Value→Bool
 | .int k n,.int k' n'=>decide (k=k') && decide (n=n')
 | .bool b,.bool b'=>decide (b=b')
 | .slice none 0 0,.slice none 0 0=>true
 | _,_=>false
theorem zzI{a b:Value}(h:eqL a b=true):a=b:=by
 unfold eqL at h;split at h
 ·simp only[qaf,decide_eq_true_eq]at h;rw[h.1,h.2]
 ·rw[of_decide_eq_true h]
 ·rfl
 cases h
def ztI(f:V→V→Bool):List V→List V→Bool
 | [],[]=>true
 | a :: xs,b :: ys=>f a b && ztI f xs ys
 | _,_=>false
theorem ziC{f:V→V→Bool}(hf:∀ a b,f a b=true→a=b):∀ {xs ys:List V},ztI f xs ys=true→xs=ys
 | [],[],_=>rfl
 | [],_ :: _,h=>by cases h
 | _ :: _,[],h=>by cases h
 | a :: xs,b :: ys,h=>by
  obtain⟨h1,h2⟩:=qbJ.1 (show(f a b && ztI f xs ys)=true from h);rw[hf a b h1,ziC hf h2]
def eqN:Option Nat→Option Nat→Bool
 | none,none=>true
 | some a,some b=>Nat.beq a b
 | _,_=>false
theorem zyc{a b:Option Nat}(h:eqN a b=true):a=b:=by
 unfold eqN at h;split at h
 ·rfl
 ·rw[qaE h]
 cases h
def eqV:Nat→V→V→Bool
 | 0,_,_=>false
 | n+1,.lit a,.lit b=>eqL a b
 | n+1,.ptr a b,.ptr c d=>Nat.beq a c && Nat.beq b d
 | n+1,.sl a b c d e,.sl a' b' c' d' e'=>Nat.beq a a' && Nat.beq b b' && Nat.beq c c' && Nat.beq d d' && eqN e e'
 | n+1,.agg xs,.agg ys=>ztI (eqV n) xs ys
 | n+1,.tup xs,.tup ys=>ztI (eqV n) xs ys
 | _,_,_=>false
theorem zr2:∀(n:Nat) (a b:V),eqV n a b=true→a=b:=by
 intro n;induction n with
 | zero=>intro a b h; cases h
 | succ n ih=>
  intro a b h;cases a with
  | lit x=>cases b with
   | lit y=>rw[zzI (show eqL x y=true from h)]
   | _=>cases h
  | ptr x y=>cases b with
   | ptr z w=>
    obtain⟨h1,h2⟩:=qbJ.1 (show(Nat.beq x z && Nat.beq y w)=true from h);rw[qaE h1,qaE h2]
   | _=>cases h
  | sl p q c d e=>cases b with
   | sl p' q' c' d' e'=>
    have h':(Nat.beq p p' && Nat.beq q q' && Nat.beq c c' && Nat.beq d d' && eqN e e')=true:=h;simp only[qaf]at h';obtain⟨⟨⟨⟨h1,h2⟩,h3⟩,h4⟩,h5⟩:=h';rw[qaE h1,qaE h2,qaE h3,qaE h4,zyc h5]
   | _=>cases h
  | agg xs=>cases b with
   | agg ys=>rw[ziC ih (show ztI (eqV n) xs ys=true from h)]
   | _=>cases h
  | tup xs=>cases b with
   | tup ys=>rw[ziC ih (show ztI (eqV n) xs ys=true from h)]
   | _=>cases h
  | _=>cases h
def zzT:Ob→Ob→Bool
 | .blk xs,.blk ys=>ztI (eqV 9) xs ys
 | .dead,.dead=>true
 | _,_=>false
theorem zso{a b:Ob}(h:zzT a b=true):a=b:=by
 unfold zzT at h;split at h
 ·rw[ziC (zr2 9) h]
 ·rfl
 cases h
def eqG(g:Nat→Option Ob):Nat→List Ob→Bool
 | _,[]=>true
 | i,o :: r=>(match g i with | some o'=>zzT o o' | none=>false) && zcS (Nat.succ i) fun i'=>eqG g i' r
theorem zva{h:zaj}:∀ {l:List Ob} {i:Nat},eqG (fun k=>h[k]?) i l=true→∀ k,k<l.length→h[i+k]? = l[k]?
 | [],_,_,_,hk=>absurd hk (qap _)
 | o :: r,i,he,k,hk=>by
  unfold eqG at he;obtain⟨h1,h2⟩:=qbJ.1 he;rw[zbK]at h2;cases k with
  | zero=>
   cases ho:h[i]? with
   | none=>rw[ho]at h1; cases h1
   | some o'=>
    rw[ho]at h1;rw[zso h1];rfl
  | succ k=>
   have:=zva h2 k (by simpa using hk);rw[show i+(k+1)=Nat.succ i+k by omega,this];rfl
def swG(g:Nat→Option Ob):Nat→List Ob→Bool
 | _,[]=>true
 | i,o :: r=>(match o with
   | .dead=>true
   | o=>match g i with | some o'=>zzT o o' | none=>false) && zcS (Nat.succ i) fun i'=>swG g i' r
def zAd(h' h1:zaj):Prop:=h1.length=h'.length∧∀(β:Nat) (o:Ob),h1[β]? = some o→o=.dead∨h'[β]? = some o
theorem zvI{h:zaj}:∀ {l:List Ob} {i:Nat},swG (fun k=>h[k]?) i l=true→∀(k:Nat) (o:Ob),l[k]? = some o→o=.dead∨h[i+k]? = some o
 | [],_,_,_,_,hk=>by cases hk
 | o :: r,i,he,k,o1,hk=>by
  unfold swG at he;obtain⟨h1,h2⟩:=qbJ.1 he;rw[zbK]at h2;cases k with
  | zero=>
   cases hk;split at h1
   ·exact .inl rfl
   ·cases ho:h[i]? with
    | none=>rw[ho]at h1; cases h1
    | some o'=>
     rw[ho]at h1;exact .inr (by rw[zso h1])
  | succ k=>
   rcases zvI h2 k o1 (by simpa using hk)with h3 | h3
   ·exact .inl h3
   exact .inr (by rw[show i+(k+1)=Nat.succ i+k by omega]; exact h3)
theorem Sim.dead{P:Program}{B:Nat}{w1 w:World}{ι:Io}{h' h1:zaj}(hS:Sim P B w1 ι h' w)(hd:zAd h' h1):Sim P B w1 ι h1 w:=by
 have hl:∀ {β:Nat} {o:Ob},h1[β]? = some o→o.live→h'[β]? = some o:=fun {β o} ho hv=>(hd.2 β o ho).elim (fun e=>by rw[e]at hv; exact hv.elim) id
 refine⟨by rw[hd.1]; exact hS.base,hS.below,fun β o ho=>?_,fun β o b s sz ho hv=>hS.own β o b s sz (hl ho hv) hv,fun β o b s sz ho hv=>hS.old β o b s sz (hl ho hv) hv,
  fun β β' o o' b s sz s' sz' ho ho' hv hv'=>hS.inj β β' o o' b s sz s' sz' (hl ho hv) (hl ho' hv') hv hv',fun β x hx=>by rw[hd.1]; exact hS.scope β x hx⟩
 rcases hd.2 β o ho with rfl | h
 ·trivial
 exact hS.obj β o h
theorem zeP.dead{P:Program}{B f:Nat}{args:List V}{h h' h1:zaj}{cr:CR}(hc:zeP P B f args h cr h')(hd:zAd h' h1)(hw:wrF f=false):zeP P B f args h cr h1:=by
 refine .of (fun w1 ι w vs hS ha=>?_) hw;obtain⟨g1,g2⟩:=hc.1 w1 ι w vs hS ha;exact⟨g1,CallsIn.mono g2 fun en w' ⟨ι',q1,q2,q3⟩=>⟨ι',q1,q2.dead hd,q3⟩⟩
structure Cut where
 f:Nat
 args:List V
 h0:List Ob
 v:V
 h1:List Ob
def zlR(P:Program)(c:Cut):Prop:=zeP P 0 c.f c.args c.h0 (.ret c.v) c.h1∧zar 0 c.h0 c.h1
def zyi(B f:Nat)(args:List V)(n:Nat)(g:Nat→Option Ob):List Cut→Option (V×List Ob)
 | []=>none
 | c :: r=>bif Nat.beq f c.f && Nat.beq B 0 && ztI (eqV 9) c.args args && Nat.beq n c.h0.length && eqG g 0 c.h0 then some (c.v,c.h1)else zyi B f args n g r
def zqB(cs:List Cut):Orc:=fun B f args h=>(zyi B f args h.length (fun k=>h[k]?) cs).map fun x=>(.ret x.1,x.2)
theorem znp{P:Program}:∀ {cs:List Cut},(∀ c∈cs,zlR P c)→zfF P (zqB cs)
 | [],_,_,_,_,_,_,_,h=>by cases h
 | c :: r,hk,B,f,args,h,cr,h',ho=>by
  unfold zqB zyi at ho;cases hb:Nat.beq f c.f && Nat.beq B 0 && ztI (eqV 9) c.args args && Nat.beq h.length c.h0.length && eqG (fun k=>h[k]?) 0 c.h0 with
  | false=>
   rw[hb,cond_false]at ho;exact znp (fun d hd=>hk d (qaj _ hd)) B f args h cr h' ho
  | true=>
   rw[hb,cond_true]at ho;simp only[qaf]at hb;obtain⟨⟨⟨⟨b1,b2⟩,b3⟩,b4⟩,b5⟩:=hb;have e1:=qaE b1;have e2:=qaE b2;have e3:=ziC (zr2 9) b3;have e4:h=c.h0:=by
    have hl:=qaE b4;refine qc6 fun k=>?_
    by_cases hk:k<c.h0.length
    ·have:=zva b5 k hk
     rwa [qaP]at this
    rw[qaN (by omega),qaN (by omega)]
   subst e1 e2;rw[← e3,e4];cases ho;exact hk c qao
def zvj(cs:List Cut)(fns:Nat→Option Fn):Nat→RecY
 | 0=>RecY.none
 | n+1=>⟨zd3 (zvj cs fns n),fun B f args H=>match zyi B f args H.n H.t.get cs with
   | some (v,h1)=>zvp h1 0 .leaf fun t=>zcS h1.length fun m=>some (.ret v,⟨m,t⟩)
   | none=>match zz6 B (zrd H) f args with
    | some e=>apY H e fun v H'=>some (.ret v,H')
    | none=>zqY (zvj cs fns n) fns B f args H,fun B f=>zsK (znP (ztB (fun B f args h=>zhB (zqB cs B f args h) (zow B f args h)) fns n) fns B f)⟩
theorem zkb(cs:List Cut)(fns:Nat→Option Fn):∀ n,RRY (zvj cs fns n) (ztB (fun B f args h=>zhB (zqB cs B f args h) (zow B f args h)) fns n)
 | 0=>⟨fun _ _ _ _ _ _ _ _ h=>(by cases h),fun _ _ _ _ _ _ _ _ h=>(by cases h),fun _ _ _ _ _ _ _ _ _ h=>(by cases h)⟩
 | n+1=>by
  refine⟨fun B rd c T S ex T' hS hc=>zcl (zkb cs fns n) c T T' S ex hS hc,fun B f args H h cr H' hh hc=>?_,fun B f args pv H h pv' H' hh hc=>zrL hh hc⟩;simp only[zvj]at hc;rw[show zrd H=zaq h from funext (znK hh),show H.t.get=fun k=>h[k]? from funext hh.2,hh.1]at hc;show ∃ h',zhB (zhB (zqB cs B f args h) (zow B f args h)) (zht (ztB (fun B f args h=>zhB (zqB cs B f args h) (zow B f args h)) fns n) fns B f args h)=some (cr,h')∧zeE H' h';rw[zw2 B f args h];cases hcut:zyi B f args h.length (fun k=>h[k]?) cs with
  | some x=>
   rw[hcut]at hc;obtain⟨t,g1,g2⟩:=zg4 _ _ _ _ hc;simp only[zbK,qad,qag]at g1;obtain⟨rfl,rfl⟩:=g1;have e:zqB cs B f args h=some (.ret x.1,x.2):=by unfold zqB; rw[hcut]; rfl
   exact⟨x.2,by rw[e]; rfl,zir g2⟩
  | none=>
   rw[hcut]at hc;have e:zqB cs B f args h=none:=by unfold zqB; rw[hcut]; rfl
   rw[e];cases ho:zz6 B (zaq h) f args with
   | some y=>
    rw[ho]at hc;obtain⟨H1,g1,g2⟩:=zvk hh hc;simp only[qad,qag]at g2;obtain⟨rfl,rfl⟩:=g2;exact⟨_,rfl,g1⟩
   | none=>
    rw[ho]at hc;exact ztm (zkb cs fns n) hh hc
def zqn(cs:List Cut)(fns:Nat→Option Fn)(n f:Nat)(args:List V)(h0:List Ob):Option (CR×HY):=
 zvp h0 0 .leaf fun t=>zcS h0.length fun m=>(zvj cs fns n).call 0 f args ⟨m,t⟩
def zqg(x:Option (CR×HY))(v:V)(h1:List Ob):Bool:=
 match x with
 | some (.ret v',H)=>eqV 9 v v' && Nat.beq H.n h1.length && swG H.t.get 0 h1
 | _=>false
theorem zfr{P:Program}(hm:P.follows .mixedOrders=true){fns:Nat→Option Fn}(htab:∀ f fn,fns f=some fn→zk6 P f fn)(hl:zfF P zow){cs:List Cut}(hcs:∀ c∈cs,zlR P c){n f:Nat}{args:List V}{h0:List Ob}{v:V}{h1:List Ob}
  (hw:wrF f=false) (h:zqg (zqn cs fns n f args h0) v h1=true):zlR P ⟨f,args,h0,v,h1⟩:=by
 have hok:=zjV hm htab (orc:=fun B f args h=>zhB (zqB cs B f args h) (zow B f args h)) (zg0 (znp hcs) hl) n;unfold zqg at h;split at h
 ·rename_i v' H heq;unfold zqn at heq;obtain⟨t,g1,g2⟩:=zg4 _ _ _ _ heq;rw[zbK]at g1;obtain⟨h',q1,q2⟩:=(zkb cs fns n).call _ _ _ _ h0 _ _ (zir g2) g1;obtain⟨k1,k2⟩:=hok.call _ _ _ _ _ _ q1;simp only[qaf]at h;obtain⟨⟨b1,b2⟩,b3⟩:=h;have e1:=zr2 _ _ _ b1;subst e1;rw[show H.t.get=fun k=>h'[k]? from funext q2.2]at b3;have hlen:h1.length=h'.length:=by rw[← qaE b2,q2.1]
  have hd:zAd h' h1:=⟨hlen,fun β o ho=>by have:=zvI b3 β o ho; rwa [qaP]at this⟩;exact⟨k1.dead hd hw,fun hB=>⟨by rw[hlen]; exact(k2 hB).1,fun β hβ=>absurd hβ (qap _)⟩⟩
 cases h
theorem zkU{P:Program}(hm:P.follows .mixedOrders=true){fns:Nat→Option Fn}(htab:∀ f fn,fns f=some fn→zk6 P f fn)(hl:zfF P zow){cs:List Cut}(hcs:∀ c∈cs,zlR P c){n f:Nat}
  (h:znu ((zvj cs fns n).call 0 f [] HY.empty)=true) (w:World):
  Calls P f #[] w fun e w'=>e=.returned (.bool true)∧Go.RowKit.Below w.heap.size w w':=by
 have hok:=zjV hm htab (orc:=fun B f args h=>zhB (zqB cs B f args h) (zow B f args h)) (zg0 (znp hcs) hl) n;cases hc0:(zvj cs fns n).call 0 f [] HY.empty with
 | none=>rw[hc0]at h; cases h
 | some res=>
  rw[hc0]at h;obtain⟨cr,H'⟩:=res;obtain⟨h',hc,_⟩:=(zkb cs fns n).call _ _ _ _ [] _ _ ⟨rfl,fun k=>by simp[HY.empty,Tr.get]⟩ hc0;have hS:Sim P 0 w (fun _=>none) [] w:=⟨qan _,Go.RowKit.Below.refl _ _,by simp,by simp,by simp,by simp,by simp⟩;obtain⟨_,hcalls⟩:=(hok.call _ _ _ _ _ _ hc).1.1 w (fun _=>none) w #[] hS ⟨rfl,by simp⟩;have hw:CallsIn Fence.wide 0 P f #[] w (zev P 0 w (fun _=>none) cr h'):=hcalls;refine Calls.mono (callsIn_wide.1 hw) fun e w' hp=>?_
  obtain⟨ι',_,hS',hp⟩:=hp;unfold znu at h;split at h
  ·rename_i b h2 heq;cases heq;obtain⟨u,rfl,hv⟩:=hp;cases hv;subst h;exact⟨rfl,hS'.below⟩
  cases h
end Go.Mx
