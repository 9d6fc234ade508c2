/-
 The machine with tries, with what is known of the library's own functions. Conditions: none.
-/
import Derived.Test.YtbjogdohfhdaiaaGreatENMx22
import Derived.Test.YtbjogdohfhdaiaaGreatENMxJ
set_option linter.unusedSimpArgs false
set_option linter.unusedVariables false
namespace Go.Mx
open Go Go.Proofs
def zAq(x:Int):List Int->List Int
 | []=>[x]
 | y :: ys=>bif decide (x<=y)then x :: y :: ys else y :: zAq x ys
def zB7:List Int->List Int
 | []=>[]
 | x :: xs=>zAq x (zB7 xs)
theorem ziQ(x:Int):∀ ys,(zAq x ys).Perm (x :: ys)
 | []=>.refl _
 | y :: ys=>by
  unfold zAq;cases decide (x<=y)with
  | true=>exact .refl _
  | false=>exact((ziQ x ys).cons y).trans (.swap x y ys)
theorem znD:∀ xs,(zB7 xs).Perm xs
 | []=>.refl _
 | x :: xs=>(ziQ x _).trans ((znD xs).cons x)
theorem ztR(x:Int):∀ {ys:List Int},ys.Pairwise (· <= ·)->(zAq x ys).Pairwise (· <= ·)
 | [],_=>List.pairwise_singleton _ _
 | y :: ys,h=>by
  obtain⟨h1,h2⟩:=qbp.1 h;unfold zAq;cases hd:decide (x<=y)with
  | true=>
   have hxy:=qdG hd
   exact qbp.2 ⟨λz hz=>by
    rcases qax.1 hz with rfl | hz
    .exact hxy
    .exact Int.le_trans hxy (h1 z hz),h⟩
  | false=>
   have hyx:y<=x:=by have:=of_decide_eq_false hd; omega
   refine qbp.2 ⟨λz hz=>?_,ztR x h2⟩;rcases qax.1 ((ziQ x ys).mem_iff.1 hz)with rfl | hz
   .exact hyx
   exact h1 z hz
theorem zsB:∀ xs,(zB7 xs).Pairwise (· <= ·)
 | []=>.nil
 | x :: xs=>ztR x (zsB xs)
theorem zwT(xs:List Int):zwU xs=zB7 xs:=by
 refine List.Perm.eq_of_pairwise (le:=λa b:Int=>a<=b) (λa b _ _ h1 h2=>Int.le_antisymm h1 h2) ?_ (zsB xs) ((List.mergeSort_perm xs _).trans (znD xs).symm);have:=List.pairwise_mergeSort (le:=λx y:Int=>decide (x<=y)) (λa b c h1 h2=>by simp at *; omega) (λa b=>by simp; omega) xs;exact this.imp λh=>by simpa using h
abbrev zAk(h:zan)(e:EffR):CR×zan:=(.ret (e.ap h).1,(e.ap h).2)
def zDc(B:Nat)(blk:Nat->Option (List V))(args:List V):Option EffR:=
 match args with
 | [s,.lit (.int .i64 z),.sl γ o2 n2 m c2]=>
  match blk γ with
  | some us=>
   if B<=γ/\0<m/\o2+m<=us.length/\n2=1/\0<=z then
    if znI s=true then
     if z=0/\m * 8<=140737488355328 then some (.snoc (λk=>.sl k 0 1 m none) (.blk ((us.drop o2).take m)))else none
    else
     match s with
     | .sl β o n len none=>
      match blk β with
      | some cs=>
       if n=1/\B<=β/\β≠γ/\o+len=cs.length/\z.toNat<=len/\(len+m)* 8<=140737488355328 then
        some (.setSnoc β .dead (λk=>.sl k 0 1 (len+m) none) (.blk ((cs.drop o).take z.toNat ++ (us.drop o2).take m ++ (cs.drop o).drop z.toNat)))
       else none
      | none=>none
     | _=>none
   else none
  | none=>none
 | _=>none
theorem zzX(B:Nat)(args:List V)(h:zan):zxF B 123 args h=(zDc B (zax h) args).map (zAk h):=by
 unfold zxF zDc;rw[if_pos rfl];split
 .rename_i s z γ o2 n2 m c2;simp only[];cases zax h γ with
  | none=>rfl
  | some us=>
   simp only[];split
   .split
    .split<;>rfl
    split
    .rename_i β o n len _;simp only[];cases zax h β with
     | none=>rfl
     | some cs=>simp only[]; split<;>rfl
    rename_i hne;split
    .rename_i β o n len _;exact absurd rfl (hne β o n len)
    rfl
   rfl
 rename_i hne;split
 .rename_i s z γ o2 n2 m c2;exact absurd rfl (hne s z γ o2 n2 m c2)
 rfl
def zuj(blk:Nat->Option (List V))(args:List V):Option EffR:=
 match args with
 | [.lit (.slice none 0 0)]=>some (.zeb (.lit (.slice none 0 0)))
 | [.sl γ o n 0 cap]=>some (.snoc (λk=>.sl k 0 1 0 none) (.blk []))
 | [.sl γ o n (len+1) cap]=>
  match blk γ with
  | some cs=>if n=1/\o+(len+1)<=cs.length/\(len+1)* 8<=140737488355328 then
    match ((cs.drop o).take (len+1)).mapM zkB with
    | some _=>some (.snoc (λk=>.sl k 0 1 (len+1) none) (.blk ((cs.drop o).take (len+1))))
    | none=>none
   else none
  | none=>none
 | _=>none
theorem zsK(B:Nat)(args:List V)(h:zan):zgq B 109 args h=(zuj (zax h) args).map (zAk h):=by
 unfold zgq zuj;rw[if_pos rfl];split
 .rfl
 .rfl
 .rename_i γ o n len cap;simp only[];cases zax h γ with
  | none=>rfl
  | some cs=>
   simp only[];split
   .cases((cs.drop o).take (len+1)).mapM zkB<;>rfl
   rfl
 rename_i h1 h2 h3;split
 .exact absurd rfl h1
 .rename_i γ o n cap; exact absurd rfl (h2 γ o n cap)
 .rename_i γ o n len cap; exact absurd rfl (h3 γ o n len cap)
 rfl
def zDE(B:Nat)(blk:Nat->Option (List V))(args:List V):Option EffR:=
 match args with
 | [.sl β 0 1 len none,.lit (.int .i64 i),.lit (.int .i64 j)]=>
  match blk β with
  | some cs=>
   match cs.mapM zkB with
   | some zs=>if(B<=β/\len=zs.length/\0<len)/\0<=i/\i<=j/\j<=len then
     some (.set (.sl β 0 1 (len - (j.toNat - i.toNat)) none) β (.blk ((zs.take i.toNat ++ zs.drop j.toNat ++ List.replicate (j.toNat - i.toNat) 0).map zjO)))
    else none
   | none=>none
  | none=>none
 | _=>none
theorem zzw(B:Nat)(args:List V)(h:zan):zvb B 108 args h=(zDE B (zax h) args).map (zAk h):=by
 unfold zvb zDE;rw[if_pos rfl];split
 .rename_i β len i j;simp only[];cases zax h β with
  | none=>rfl
  | some cs=>
   simp only[];cases cs.mapM zkB with
   | none=>rfl
   | some zs=>simp only[]; split<;>rfl
 rename_i h1;split
 .rename_i β len i j; exact absurd rfl (h1 β len i j)
 rfl
def zC8(B:Nat)(blk:Nat->Option (List V))(args:List V):Option EffR:=
 match args with
 | [.lit (.slice none 0 0)]=>some (.zeb (.lit (.slice none 0 0)))
 | [.sl β 0 1 0 none]=>some (.zeb (.sl β 0 1 0 none))
 | [.sl β 0 1 (len+1) none]=>
  match blk β with
  | some cs=>
   match cs.mapM zkB with
   | some zs=>if B<=β/\len+1=zs.length then
     some (.set (.sl β 0 1 (Go.Lib.compact zs).length none) β (.blk ((Go.Lib.compact zs ++ List.replicate (zs.length - (Go.Lib.compact zs).length) 0).map zjO)))
    else none
   | none=>none
  | none=>none
 | _=>none
theorem zz8(B:Nat)(args:List V)(h:zan):zr9 B 139 args h=(zC8 B (zax h) args).map (zAk h):=by
 unfold zr9 zC8;rw[if_pos rfl];split
 .rfl
 .rfl
 .rename_i β len;simp only[];cases zax h β with
  | none=>rfl
  | some cs=>
   simp only[];cases cs.mapM zkB with
   | none=>rfl
   | some zs=>simp only[]; split<;>rfl
 rename_i h1 h2 h3;split
 .exact absurd rfl h1
 .rename_i β; exact absurd rfl (h2 β)
 .rename_i β len; exact absurd rfl (h3 β len)
 rfl
def zD6(B:Nat)(blk:Nat->Option (List V))(args:List V):Option EffR:=
 match args with
 | [.lit (.slice none 0 0)]=>some (.zeb (.tup []))
 | [.sl β 0 1 0 none]=>some (.zeb (.tup []))
 | [.sl β 0 1 (len+1) none]=>
  match blk β with
  | some cs=>
   match cs.mapM zkB with
   | some zs=>if(B<=β/\len+1=zs.length)/\zs.length * 8<=140737488355328 then some (.set (.tup []) β (.blk ((zB7 zs).map zjO)))else none
   | none=>none
  | none=>none
 | _=>none
theorem zyQ(B:Nat)(args:List V)(h:zan):zr5 B 138 args h=(zD6 B (zax h) args).map (zAk h):=by
 unfold zr5 zD6;rw[if_pos rfl];split
 .rfl
 .rfl
 .rename_i β len;simp only[];cases zax h β with
  | none=>rfl
  | some cs=>
   simp only[];cases cs.mapM zkB with
   | none=>rfl
   | some zs=>simp only[zwT]; split<;>rfl
 rename_i h1 h2 h3;split
 .exact absurd rfl h1
 .rename_i β; exact absurd rfl (h2 β)
 .rename_i β len; exact absurd rfl (h3 β len)
 rfl
def zCC(B:Nat)(blk:Nat->Option (List V))(f:Nat)(args:List V):Option EffR:=
 bif Nat.beq f 123 then zDc B blk args else bif Nat.beq f 109 then zuj blk args else
 bif Nat.beq f 108 then zDE B blk args else bif Nat.beq f 139 then zC8 B blk args else
 bif Nat.beq f 138 then zD6 B blk args else none
theorem zqg(x y:Option (CR×zan))(h:y=none):ziz x y=x:=by
 unfold ziz;cases x with
 | none=>exact h
 | some _=>rfl
theorem zy1(B f:Nat)(args:List V)(h:zan):zpE B f args h=(zCC B (zax h) f args).map (zAk h):=by
 have ne:∀ {a b:Nat},Nat.beq a b=false->a≠b:=λ{a b} hb e=>by subst e; rw[Nat.beq_refl]at hb; cases hb
 unfold zpE zCC;cases h1:Nat.beq f 123 with
 | true=>
  have:=qaJ h1;subst this;rw[qdz,<- zzX];refine zqg _ _ ?_;unfold ziz zgq zvb zr9 zr5;simp
 | false=>
 rw[qdA];have e1:zxF B f args h=none:=by unfold zxF; rw[if_neg (ne h1)]
 rw[e1];show ziz (zgq B f args h) _=_;cases h2:Nat.beq f 109 with
 | true=>
  have:=qaJ h2;subst this;rw[qdz,<- zsK B];refine zqg _ _ ?_;unfold ziz zvb zr9 zr5;simp
 | false=>
 rw[qdA];have e2:zgq B f args h=none:=by unfold zgq; rw[if_neg (ne h2)]
 rw[e2];show ziz (zvb B f args h) _=_;cases h3:Nat.beq f 108 with
 | true=>
  have:=qaJ h3;subst this;rw[qdz,<- zzw];refine zqg _ _ ?_;unfold ziz zr9 zr5;simp
 | false=>
 rw[qdA];have e3:zvb B f args h=none:=by unfold zvb; rw[if_neg (ne h3)]
 rw[e3];show ziz (zr9 B f args h) _=_;cases h4:Nat.beq f 139 with
 | true=>
  have:=qaJ h4;subst this;rw[qdz,<- zz8];refine zqg _ _ ?_;unfold zr5;simp
 | false=>
 rw[qdA];have e4:zr9 B f args h=none:=by unfold zr9; rw[if_neg (ne h4)]
 rw[e4];show zr5 B f args h=_;cases h5:Nat.beq f 138 with
 | true=>
  have:=qaJ h5;subst this;rw[qdz,<- zyQ]
 | false=>
  rw[qdA];unfold zr5;rw[if_neg (ne h5)];rfl
end Go.Mx
