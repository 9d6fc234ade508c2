/-
 The machine with tries, with what is known of the library's own functions. Conditions: none.
-/
import Derived.Test.YtbjogdohfhdaiaaGreatETMx22
import Derived.Test.YtbjogdohfhdaiaaGreatETMxJ
set_option linter.unusedSimpArgs false
set_option linter.unusedVariables false
namespace Go.Mx
open Go Go.Proofs
def zBf(x:Int):List Int->List Int
 | []=>[x]
 | y :: ys=>bif decide (x<=y)then x :: y :: ys else y :: zBf x ys
def zCQ:List Int->List Int
 | []=>[]
 | x :: xs=>zBf x (zCQ xs)
theorem zjS(x:Int):∀ ys,(zBf x ys).Perm (x :: ys)
 | []=>.refl _
 | y :: ys=>by
  unfold zBf;cases decide (x<=y)with
  | true=>exact .refl _
  | false=>exact((zjS x ys).cons y).trans (.swap x y ys)
theorem zoj:∀ xs,(zCQ xs).Perm xs
 | []=>.refl _
 | x :: xs=>(zjS x _).trans ((zoj xs).cons x)
theorem zvl(x:Int):∀ {ys:List Int},ys.Pairwise (· <= ·)->(zBf x ys).Pairwise (· <= ·)
 | [],_=>List.pairwise_singleton _ _
 | y :: ys,h=>by
  obtain⟨h1,h2⟩:=qbg.1 h;unfold zBf;cases hd:decide (x<=y)with
  | true=>
   have hxy:=of_decide_eq_true hd
   exact qbg.2 ⟨λz hz=>by
    rcases qax.1 hz with rfl | hz
    .exact hxy
    .exact Int.le_trans hxy (h1 z hz),h⟩
  | false=>
   have hyx:y<=x:=by have:=qdF hd; omega
   refine qbg.2 ⟨λz hz=>?_,zvl x h2⟩;rcases qax.1 ((zjS x ys).mem_iff.1 hz)with rfl | hz
   .exact hyx
   exact h1 z hz
theorem ztF:∀ xs,(zCQ xs).Pairwise (· <= ·)
 | []=>.nil
 | x :: xs=>zvl x (ztF xs)
theorem zxO(xs:List Int):zfN xs=zCQ xs:=by
 refine List.Perm.eq_of_pairwise (le:=λa b:Int=>a<=b) (λa b _ _ h1 h2=>Int.le_antisymm h1 h2) ?_ (ztF xs) ((List.mergeSort_perm xs _).trans (zoj xs).symm);have:=List.pairwise_mergeSort (le:=λx y:Int=>decide (x<=y)) (λa b c h1 h2=>by simp at *; omega) (λa b=>by simp; omega) xs;exact this.imp λh=>by simpa using h
abbrev zBh(h:zaj)(e:EffR):CR×zaj:=(.ret (e.ap h).1,(e.ap h).2)
def zDF(B:Nat)(blk:Nat->Option (List V))(args:List V):Option EffR:=
 match args with
 | [s,.lit (.int .i64 z),.sl γ o2 n2 m c2]=>
  match blk γ with
  | some us=>
   if B<=γ/\0<m/\o2+m<=us.length/\n2=1/\0<=z then
    if zkg s=true then
     if z=0/\m * 8<=140737488355328 then some (.snoc (λk=>.sl k 0 1 m none) (.blk ((us.drop o2).take m)))else none
    else
     match s with
     | .sl β o n len none=>
      match blk β with
      | some cs=>
       if n=1/\B<=β/\β≠γ/\o+len=cs.length/\z.toNat<=len/\(len+m)* 8<=140737488355328 then
        some (.setSnoc β .dead (λk=>.sl k 0 1 (len+m) none) (.blk ((cs.drop o).take z.toNat ++ (us.drop o2).take m ++ (cs.drop o).drop z.toNat)))
       else none
      | none=>none
     | _=>none
   else none
  | none=>none
 | _=>none
theorem zz8(B:Nat)(args:List V)(h:zaj):zln B 123 args h=(zDF B (zax h) args).map (zBh h):=by
 unfold zln zDF;rw[if_pos rfl];split
 .rename_i s z γ o2 n2 m c2;simp only[];cases zax h γ with
  | none=>rfl
  | some us=>
   simp only[];split
   .split
    .split<;>rfl
    split
    .rename_i β o n len _;simp only[];cases zax h β with
     | none=>rfl
     | some cs=>simp only[]; split<;>rfl
    rename_i hne;split
    .rename_i β o n len _;exact absurd rfl (hne β o n len)
    rfl
   rfl
 rename_i hne;split
 .rename_i s z γ o2 n2 m c2;exact absurd rfl (hne s z γ o2 n2 m c2)
 rfl
def zuQ(blk:Nat->Option (List V))(args:List V):Option EffR:=
 match args with
 | [.lit (.slice none 0 0)]=>some (.zet (.lit (.slice none 0 0)))
 | [.sl γ o n 0 cap]=>some (.snoc (λk=>.sl k 0 1 0 none) (.blk []))
 | [.sl γ o n (len+1) cap]=>
  match blk γ with
  | some cs=>if n=1/\o+(len+1)<=cs.length/\(len+1)* 8<=140737488355328 then
    match ((cs.drop o).take (len+1)).mapM zkk with
    | some _=>some (.snoc (λk=>.sl k 0 1 (len+1) none) (.blk ((cs.drop o).take (len+1))))
    | none=>none
   else none
  | none=>none
 | _=>none
theorem zuV(B:Nat)(args:List V)(h:zaj):zdH B 109 args h=(zuQ (zax h) args).map (zBh h):=by
 unfold zdH zuQ;rw[if_pos rfl];split
 .rfl
 .rfl
 .rename_i γ o n len cap;simp only[];cases zax h γ with
  | none=>rfl
  | some cs=>
   simp only[];split
   .cases((cs.drop o).take (len+1)).mapM zkk<;>rfl
   rfl
 rename_i h1 h2 h3;split
 .exact absurd rfl h1
 .rename_i γ o n cap; exact absurd rfl (h2 γ o n cap)
 .rename_i γ o n len cap; exact absurd rfl (h3 γ o n len cap)
 rfl
def zEB(B:Nat)(blk:Nat->Option (List V))(args:List V):Option EffR:=
 match args with
 | [.sl β 0 1 len none,.lit (.int .i64 i),.lit (.int .i64 j)]=>
  match blk β with
  | some cs=>
   match cs.mapM zkk with
   | some zs=>if(B<=β/\len=zs.length/\0<len)/\0<=i/\i<=j/\j<=len then
     some (.set (.sl β 0 1 (len - (j.toNat - i.toNat)) none) β (.blk ((zs.take i.toNat ++ zs.drop j.toNat ++ List.replicate (j.toNat - i.toNat) 0).map zgH)))
    else none
   | none=>none
  | none=>none
 | _=>none
theorem zAX(B:Nat)(args:List V)(h:zaj):zom B 108 args h=(zEB B (zax h) args).map (zBh h):=by
 unfold zom zEB;rw[if_pos rfl];split
 .rename_i β len i j;simp only[];cases zax h β with
  | none=>rfl
  | some cs=>
   simp only[];cases cs.mapM zkk with
   | none=>rfl
   | some zs=>simp only[]; split<;>rfl
 rename_i h1;split
 .rename_i β len i j; exact absurd rfl (h1 β len i j)
 rfl
def zEf(B:Nat)(blk:Nat->Option (List V))(args:List V):Option EffR:=
 match args with
 | [.lit (.slice none 0 0)]=>some (.zet (.lit (.slice none 0 0)))
 | [.sl β 0 1 0 none]=>some (.zet (.sl β 0 1 0 none))
 | [.sl β 0 1 (len+1) none]=>
  match blk β with
  | some cs=>
   match cs.mapM zkk with
   | some zs=>if B<=β/\len+1=zs.length then
     some (.set (.sl β 0 1 (Go.Lib.compact zs).length none) β (.blk ((Go.Lib.compact zs ++ List.replicate (zs.length - (Go.Lib.compact zs).length) 0).map zgH)))
    else none
   | none=>none
  | none=>none
 | _=>none
theorem zAc(B:Nat)(args:List V)(h:zaj):zoM B 139 args h=(zEf B (zax h) args).map (zBh h):=by
 unfold zoM zEf;rw[if_pos rfl];split
 .rfl
 .rfl
 .rename_i β len;simp only[];cases zax h β with
  | none=>rfl
  | some cs=>
   simp only[];cases cs.mapM zkk with
   | none=>rfl
   | some zs=>simp only[]; split<;>rfl
 rename_i h1 h2 h3;split
 .exact absurd rfl h1
 .rename_i β; exact absurd rfl (h2 β)
 .rename_i β len; exact absurd rfl (h3 β len)
 rfl
def zDz(B:Nat)(blk:Nat->Option (List V))(args:List V):Option EffR:=
 match args with
 | [.lit (.slice none 0 0)]=>some (.zet (.tup []))
 | [.sl β 0 1 0 none]=>some (.zet (.tup []))
 | [.sl β 0 1 (len+1) none]=>
  match blk β with
  | some cs=>
   match cs.mapM zkk with
   | some zs=>if(B<=β/\len+1=zs.length)/\zs.length * 8<=140737488355328 then some (.set (.tup []) β (.blk ((zCQ zs).map zgH)))else none
   | none=>none
  | none=>none
 | _=>none
theorem zAV(B:Nat)(args:List V)(h:zaj):zq0 B 138 args h=(zDz B (zax h) args).map (zBh h):=by
 unfold zq0 zDz;rw[if_pos rfl];split
 .rfl
 .rfl
 .rename_i β len;simp only[];cases zax h β with
  | none=>rfl
  | some cs=>
   simp only[];cases cs.mapM zkk with
   | none=>rfl
   | some zs=>simp only[zxO]; split<;>rfl
 rename_i h1 h2 h3;split
 .exact absurd rfl h1
 .rename_i β; exact absurd rfl (h2 β)
 .rename_i β len; exact absurd rfl (h3 β len)
 rfl
def zDr(B:Nat)(blk:Nat->Option (List V))(f:Nat)(args:List V):Option EffR:=
 bif Nat.beq f 123 then zDF B blk args else bif Nat.beq f 109 then zuQ blk args else
 bif Nat.beq f 108 then zEB B blk args else bif Nat.beq f 139 then zEf B blk args else
 bif Nat.beq f 138 then zDz B blk args else none
theorem zqw(x y:Option (CR×zaj))(h:y=none):ziN x y=x:=by
 unfold ziN;cases x with
 | none=>exact h
 | some _=>rfl
theorem zzP(B f:Nat)(args:List V)(h:zaj):zgQ B f args h=(zDr B (zax h) f args).map (zBh h):=by
 have ne:∀ {a b:Nat},Nat.beq a b=false->a≠b:=λ{a b} hb e=>by subst e; rw[Nat.beq_refl]at hb; cases hb
 unfold zgQ zDr;cases h1:Nat.beq f 123 with
 | true=>
  have:=qaK h1;subst this;rw[qdw,<- zz8];refine zqw _ _ ?_;unfold ziN zdH zom zoM zq0;simp
 | false=>
 rw[qdx];have e1:zln B f args h=none:=by unfold zln; rw[if_neg (ne h1)]
 rw[e1];show ziN (zdH B f args h) _=_;cases h2:Nat.beq f 109 with
 | true=>
  have:=qaK h2;subst this;rw[qdw,<- zuV B];refine zqw _ _ ?_;unfold ziN zom zoM zq0;simp
 | false=>
 rw[qdx];have e2:zdH B f args h=none:=by unfold zdH; rw[if_neg (ne h2)]
 rw[e2];show ziN (zom B f args h) _=_;cases h3:Nat.beq f 108 with
 | true=>
  have:=qaK h3;subst this;rw[qdw,<- zAX];refine zqw _ _ ?_;unfold ziN zoM zq0;simp
 | false=>
 rw[qdx];have e3:zom B f args h=none:=by unfold zom; rw[if_neg (ne h3)]
 rw[e3];show ziN (zoM B f args h) _=_;cases h4:Nat.beq f 139 with
 | true=>
  have:=qaK h4;subst this;rw[qdw,<- zAc];refine zqw _ _ ?_;unfold zq0;simp
 | false=>
 rw[qdx];have e4:zoM B f args h=none:=by unfold zoM; rw[if_neg (ne h4)]
 rw[e4];show zq0 B f args h=_;cases h5:Nat.beq f 138 with
 | true=>
  have:=qaK h5;subst this;rw[qdw,<- zAV]
 | false=>
  rw[qdx];unfold zq0;rw[if_neg (ne h5)];rfl
end Go.Mx
