/-
 The machine with tries, with what is known of the library's own functions. Conditions: none.
-/
import Derived.Test.YtbjogdohfhdaiaaGreatEcMx22
import Derived.Test.YtbjogdohfhdaiaaGreatEcMxJ
set_option linter.unusedSimpArgs false
set_option linter.unusedVariables false
namespace Go.Mx
open Go Go.Proofs
def zC5(x:Int):List Int->List Int
 | []=>[x]
 | y :: ys=>bif decide (x<=y)then x :: y :: ys else y :: zC5 x ys
def zE4:List Int->List Int
 | []=>[]
 | x :: xs=>zC5 x (zE4 xs)
theorem zkP(x:Int):∀ ys,(zC5 x ys).Perm (x :: ys)
 | []=>.refl _
 | y :: ys=>by
  unfold zC5;cases decide (x<=y)with
  | true=>exact .refl _
  | false=>exact((zkP x ys).cons y).trans (.swap x y ys)
theorem zpu:∀ xs,(zE4 xs).Perm xs
 | []=>.refl _
 | x :: xs=>(zkP x _).trans ((zpu xs).cons x)
theorem zv4(x:Int):∀ {ys:List Int},ys.Pairwise (· <= ·)->(zC5 x ys).Pairwise (· <= ·)
 | [],_=>qc7 _ _
 | y :: ys,h=>by
  obtain⟨h1,h2⟩:=qa3.1 h;unfold zC5;cases hd:decide (x<=y)with
  | true=>
   have hxy:=of_decide_eq_true hd
   exact qa3.2 ⟨λz hz=>by
    rcases qav.1 hz with rfl | hz
    .exact hxy
    .exact Int.le_trans hxy (h1 z hz),h⟩
  | false=>
   have hyx:y<=x:=by have:=of_decide_eq_false hd; omega
   refine qa3.2 ⟨λz hz=>?_,zv4 x h2⟩;rcases qav.1 ((zkP x ys).mem_iff.1 hz)with rfl | hz
   .exact hyx
   exact h1 z hz
theorem zxk:∀ xs,(zE4 xs).Pairwise (· <= ·)
 | []=>.nil
 | x :: xs=>zv4 x (zxk xs)
theorem zyU(xs:List Int):zgn xs=zE4 xs:=by
 refine List.Perm.eq_of_pairwise (le:=λa b:Int=>a<=b) (λa b _ _ h1 h2=>Int.le_antisymm h1 h2) ?_ (zxk xs) ((List.mergeSort_perm xs _).trans (zpu xs).symm);have:=List.pairwise_mergeSort (le:=λx y:Int=>decide (x<=y)) (λa b c h1 h2=>by simp at *; omega) (λa b=>by simp; omega) xs;exact this.imp λh=>by simpa using h
abbrev zCP(h:zam)(e:EffR):CR×zam:=(.ret (e.ap h).1,(e.ap h).2)
def zGd(B:Nat)(blk:Nat->Option (List V))(args:List V):Option EffR:=
 match args with
 | [s,.lit (.int .i64 z),.sl γ o2 n2 m c2]=>
  match blk γ with
  | some us=>
   if B<=γ/\0<m/\o2+m<=us.length/\n2=1/\0<=z then
    if zjG s=true then
     if z=0/\m * 8<=140737488355328 then some (.snoc (λk=>.sl k 0 1 m none) (.blk ((us.drop o2).take m)))else none
    else
     match s with
     | .sl β o n len none=>
      match blk β with
      | some cs=>
       if n=1/\B<=β/\β≠γ/\o+len=cs.length/\z.toNat<=len/\(len+m)* 8<=140737488355328 then
        some (.setSnoc β .dead (λk=>.sl k 0 1 (len+m) none) (.blk ((cs.drop o).take z.toNat ++ (us.drop o2).take m ++ (cs.drop o).drop z.toNat)))
       else none
      | none=>none
     | _=>none
   else none
  | none=>none
 | _=>none
theorem zBd(B:Nat)(args:List V)(h:zam):zm5 B 123 args h=(zGd B (zaG h) args).map (zCP h):=by
 unfold zm5 zGd;rw[if_pos rfl];split
 .rename_i s z γ o2 n2 m c2;simp only[];cases zaG h γ with
  | none=>rfl
  | some us=>
   simp only[];split
   .split
    .split<;>rfl
    split
    .rename_i β o n len _;simp only[];cases zaG h β with
     | none=>rfl
     | some cs=>simp only[]; split<;>rfl
    rename_i hne;split
    .rename_i β o n len _;exact absurd rfl (hne β o n len)
    rfl
   rfl
 rename_i hne;split
 .rename_i s z γ o2 n2 m c2;exact absurd rfl (hne s z γ o2 n2 m c2)
 rfl
def zwJ(blk:Nat->Option (List V))(args:List V):Option EffR:=
 match args with
 | [.lit (.slice none 0 0)]=>some (.zgk (.lit (.slice none 0 0)))
 | [.sl γ o n 0 cap]=>some (.snoc (λk=>.sl k 0 1 0 none) (.blk []))
 | [.sl γ o n (len+1) cap]=>
  match blk γ with
  | some cs=>if n=1/\o+(len+1)<=cs.length/\(len+1)* 8<=140737488355328 then
    match ((cs.drop o).take (len+1)).mapM zjS with
    | some _=>some (.snoc (λk=>.sl k 0 1 (len+1) none) (.blk ((cs.drop o).take (len+1))))
    | none=>none
   else none
  | none=>none
 | _=>none
theorem zwO(B:Nat)(args:List V)(h:zam):zec B 109 args h=(zwJ (zaG h) args).map (zCP h):=by
 unfold zec zwJ;rw[if_pos rfl];split
 .rfl
 .rfl
 .rename_i γ o n len cap;simp only[];cases zaG h γ with
  | none=>rfl
  | some cs=>
   simp only[];split
   .cases((cs.drop o).take (len+1)).mapM zjS<;>rfl
   rfl
 rename_i h1 h2 h3;split
 .exact absurd rfl h1
 .rename_i γ o n cap; exact absurd rfl (h2 γ o n cap)
 .rename_i γ o n len cap; exact absurd rfl (h3 γ o n len cap)
 rfl
def zGW(B:Nat)(blk:Nat->Option (List V))(args:List V):Option EffR:=
 match args with
 | [.sl β 0 1 len none,.lit (.int .i64 i),.lit (.int .i64 j)]=>
  match blk β with
  | some cs=>
   match cs.mapM zjS with
   | some zs=>if(B<=β/\len=zs.length/\0<len)/\0<=i/\i<=j/\j<=len then
     some (.set (.sl β 0 1 (len - (j.toNat - i.toNat)) none) β (.blk ((zs.take i.toNat ++ zs.drop j.toNat ++ List.replicate (j.toNat - i.toNat) 0).map zgo)))
    else none
   | none=>none
  | none=>none
 | _=>none
theorem zBB(B:Nat)(args:List V)(h:zam):zn1 B 108 args h=(zGW B (zaG h) args).map (zCP h):=by
 unfold zn1 zGW;rw[if_pos rfl];split
 .rename_i β len i j;simp only[];cases zaG h β with
  | none=>rfl
  | some cs=>
   simp only[];cases cs.mapM zjS with
   | none=>rfl
   | some zs=>simp only[]; split<;>rfl
 rename_i h1;split
 .rename_i β len i j; exact absurd rfl (h1 β len i j)
 rfl
def zGw(B:Nat)(blk:Nat->Option (List V))(args:List V):Option EffR:=
 match args with
 | [.lit (.slice none 0 0)]=>some (.zgk (.lit (.slice none 0 0)))
 | [.sl β 0 1 0 none]=>some (.zgk (.sl β 0 1 0 none))
 | [.sl β 0 1 (len+1) none]=>
  match blk β with
  | some cs=>
   match cs.mapM zjS with
   | some zs=>if B<=β/\len+1=zs.length then
     some (.set (.sl β 0 1 (Go.Lib.compact zs).length none) β (.blk ((Go.Lib.compact zs ++ List.replicate (zs.length - (Go.Lib.compact zs).length) 0).map zgo)))
    else none
   | none=>none
  | none=>none
 | _=>none
theorem zBF(B:Nat)(args:List V)(h:zam):zpx B 139 args h=(zGw B (zaG h) args).map (zCP h):=by
 unfold zpx zGw;rw[if_pos rfl];split
 .rfl
 .rfl
 .rename_i β len;simp only[];cases zaG h β with
  | none=>rfl
  | some cs=>
   simp only[];cases cs.mapM zjS with
   | none=>rfl
   | some zs=>simp only[]; split<;>rfl
 rename_i h1 h2 h3;split
 .exact absurd rfl h1
 .rename_i β; exact absurd rfl (h2 β)
 .rename_i β len; exact absurd rfl (h3 β len)
 rfl
def zGm(B:Nat)(blk:Nat->Option (List V))(args:List V):Option EffR:=
 match args with
 | [.lit (.slice none 0 0)]=>some (.zgk (.tup []))
 | [.sl β 0 1 0 none]=>some (.zgk (.tup []))
 | [.sl β 0 1 (len+1) none]=>
  match blk β with
  | some cs=>
   match cs.mapM zjS with
   | some zs=>if(B<=β/\len+1=zs.length)/\zs.length * 8<=140737488355328 then some (.set (.tup []) β (.blk ((zE4 zs).map zgo)))else none
   | none=>none
  | none=>none
 | _=>none
theorem zBj(B:Nat)(args:List V)(h:zam):zrd B 138 args h=(zGm B (zaG h) args).map (zCP h):=by
 unfold zrd zGm;rw[if_pos rfl];split
 .rfl
 .rfl
 .rename_i β len;simp only[];cases zaG h β with
  | none=>rfl
  | some cs=>
   simp only[];cases cs.mapM zjS with
   | none=>rfl
   | some zs=>simp only[zyU]; split<;>rfl
 rename_i h1 h2 h3;split
 .exact absurd rfl h1
 .rename_i β; exact absurd rfl (h2 β)
 .rename_i β len; exact absurd rfl (h3 β len)
 rfl
def zFv(B:Nat)(blk:Nat->Option (List V))(f:Nat)(args:List V):Option EffR:=
 bif Nat.beq f 123 then zGd B blk args else bif Nat.beq f 109 then zwJ blk args else
 bif Nat.beq f 108 then zGW B blk args else bif Nat.beq f 139 then zGw B blk args else
 bif Nat.beq f 138 then zGm B blk args else none
theorem zsL(x y:Option (CR×zam))(h:y=none):zjm x y=x:=by
 unfold zjm;cases x with
 | none=>exact h
 | some _=>rfl
theorem zBi(B f:Nat)(args:List V)(h:zam):zhh B f args h=(zFv B (zaG h) f args).map (zCP h):=by
 have ne:∀ {a b:Nat},Nat.beq a b=false->a≠b:=λ{a b} hb e=>by subst e; rw[Nat.beq_refl]at hb; cases hb
 unfold zhh zFv;cases h1:Nat.beq f 123 with
 | true=>
  have:=qaE h1;subst this;rw[qdt,<- zBd];refine zsL _ _ ?_;unfold zjm zec zn1 zpx zrd;simp
 | false=>
 rw[qdu];have e1:zm5 B f args h=none:=by unfold zm5; rw[if_neg (ne h1)]
 rw[e1];show zjm (zec B f args h) _=_;cases h2:Nat.beq f 109 with
 | true=>
  have:=qaE h2;subst this;rw[qdt,<- zwO B];refine zsL _ _ ?_;unfold zjm zn1 zpx zrd;simp
 | false=>
 rw[qdu];have e2:zec B f args h=none:=by unfold zec; rw[if_neg (ne h2)]
 rw[e2];show zjm (zn1 B f args h) _=_;cases h3:Nat.beq f 108 with
 | true=>
  have:=qaE h3;subst this;rw[qdt,<- zBB];refine zsL _ _ ?_;unfold zjm zpx zrd;simp
 | false=>
 rw[qdu];have e3:zn1 B f args h=none:=by unfold zn1; rw[if_neg (ne h3)]
 rw[e3];show zjm (zpx B f args h) _=_;cases h4:Nat.beq f 139 with
 | true=>
  have:=qaE h4;subst this;rw[qdt,<- zBF];refine zsL _ _ ?_;unfold zrd;simp
 | false=>
 rw[qdu];have e4:zpx B f args h=none:=by unfold zpx; rw[if_neg (ne h4)]
 rw[e4];show zrd B f args h=_;cases h5:Nat.beq f 138 with
 | true=>
  have:=qaE h5;subst this;rw[qdt,<- zBj]
 | false=>
  rw[qdu];unfold zrd;rw[if_neg (ne h5)];rfl
end Go.Mx
