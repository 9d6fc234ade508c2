/-
 Lists that are nil while they are empty; elements of lists of one's own that are opened. Conditions: none.
-/
import Derived.Test.YtnfgibomhkbcpaaNfDc3
set_option linter.unusedSimpArgs false
set_option linter.unusedVariables false
namespace Go.Dc
open Go Go.Mx Go.Lx
variable {α β γ:Type}
def nE(t:Bool)(e:En α):List α→D
 | []=>zbs
 | x :: r=>fzE t e (x :: r)
theorem zud(t:Bool)(e:En α){xs:List α}(h:xs.isEmpty=true):nE t e xs=zbs:=by
 cases xs with
 | nil=>rfl
 | cons x r=>cases h
theorem zxm{L:List LB}{t t':Bool}(e:En α)(xs:List α)(h:t'=true→t=true):Snp L t' (nE t e xs) (nE t' e xs):=by
 cases xs with
 | nil=>exact .lit _
 | cons x r=>exact zat e _ h
theorem zne{L:List LB}{t t':Bool}(e:En α)(xs:List α)(h:t'=true→t=true):Snp L t' (nE t e xs) (fzE t' e xs):=by
 cases xs with
 | nil=>exact .nil _
 | cons x r=>exact zat e _ h
theorem zzs{L:List LB}{F:Nat→Bool}{s t1 t2:Bool}(e:En α)(xs:List α)(h:s=true∨t2=true→t1=true):Mz L F s (nE t1 e xs) (nE t2 e xs):=by
 cases xs with
 | nil=>exact .lit _
 | cons x r=>exact zen e _ h
theorem zyT(e:En α)(xs:List α):(nE false e xs).fr:=by
 cases xs with
 | nil=>trivial
 | cons x r=>exact zcu e _
theorem zkZ(kp:Nat→Bool)(t:Bool)(e:En α)(xs:List α):(nE t e xs).kin kp:=by
 cases xs with
 | nil=>trivial
 | cons x r=>trivial
def eN(e:En α):En (List α) where
 n:=1
 c t x:=[nE t e x]
 pos:=by simp
 len _ _:=rfl
 snp x h:=.cons (zxm e x h) .nil
 mz x h i d d' h1 h2:=by obtain⟨rfl,rfl⟩:=zkm h1 h2; exact zzs e x h
 fr x:=⟨zyT e x,qdc⟩
 kin kp t x:=⟨zkZ kp t e x,qdc⟩
section
variable {k0:Nat} {c:Cx} {L:List LB} {H:zap}
theorem zpy{vs:List V}{a m:Nat}(h:a+m≤vs.length):zbn vs a ((vs.drop a).take m)=vs:=by
 unfold zbn;rw[qbp,qbO,qbE (by omega),qaW,← List.drop_drop,qcc,qcc]
theorem zbx.zt1{N n m b i o:Nat}{E:List (Nat×D)}{L:List LB}{es:List (List D)}{cells:List D}(hn:0<n)(hb:L[b]? = some (.els m es))(hi:es[i]? = some cells)(ho:cells[o]? = some (.lit (.slice none 0 0))):
  zbx k0 ⟨N,E,L⟩ ⟨N,E,L.set b (.els m (es.set i (cells.set o (.sl L.length 0 n 0 none 0))))++ [.grow n []]⟩:=by
 intro c M h;obtain⟨g1,g2,g3⟩:=h.heap.new (x:=.ghost) (lb:=.grow n []) (o:=[]) (.inl ⟨rfl,rfl⟩) fun c' hle hρ=>⟨hn,.inl ⟨rfl,hρ⟩⟩
 rw[qaN]at g1 g2;have hβ:b<L.length:=(qab.1 hb).1;have hil:=(qab.1 hi).1;refine⟨_,⟨fun j d hj=>?_,h.len,⟨g1.base,g1.za,g1.zf,g1.own,g1.inj,fun k x hx=>?_,fun j lb hj=>?_⟩⟩,g2,g3.leK k0⟩
 ·obtain⟨v,q1,q2⟩:=h.env j d hj;exact⟨v,q1,q2.mono g3⟩
 ·have:=g1.scope k x hx;simpa using this
 by_cases hi':j=b
 ·subst hi';rw[qak (by simpa using hβ),qaA hβ]at hj;cases hj;obtain⟨q0,⟨qe,_⟩| ⟨bb,vs,q1,q2,q3⟩⟩:=g1.obj j (.els m es) (by rw[qak hβ]; exact hb)
  ·subst qe; cases hi
  have hcl:=q3.len cells (qaE hi);have hrow:=q3.at_ hi;have hvl:=q3.ziu;have hroom:i * m+m≤vs.length:=by
   rw[hvl];have:(i+1)* m≤es.length * m:=qax m hil;rw[qaP,qbq]at this;exact this
  have hnew:Rs (c.put L.length .ghost) (cells.set o (.sl L.length 0 n 0 none 0)) ((vs.drop (i * m)).take m):=by
   refine⟨by rw[qat]; exact hrow.1,fun k d v w1 w2=>?_⟩;rw[qcU]at w1;split at w1
   ·rename_i hk;subst hk;split at w1
    ·cases w1;have:=hrow.2 o _ v ho w2;cases zha this;exact .slg (zaB _ _ _)
    cases w1
   exact hrow.2 k d v w1 w2
  refine⟨q0,.inr ⟨bb,vs,by rw[qat]; exact q1,q2,?_⟩⟩;have:=q3.set hil (by rw[qat]; exact hcl) hnew;rw[zpy hroom]at this;exact this
 refine g1.obj j lb ?_;rw[← hj];show(L ++ [LB.grow n []])[j]? =(L.set b _ ++ [LB.grow n []])[j]?;by_cases hl:j<L.length
 ·rw[qak hl,qak (by simpa using hl),qan (Ne.symm hi')]
 rw[qaB (by omega),qaB (by simp; omega)];simp
end
section
variable {L:List LB} {F kp:Nat→Bool}
theorem zqn{s t t':Bool}{b n st:Nat}{e:En α}{xs:List α}(hF:F b=true)(hn:n=e.n)(he:L[b]? = some (.grow n (xs.map (e.c t))))(hs:st=xs.length)(h:s=true∨t'=true→t=true):Mz L F s (.sl b 0 n xs.length none st) (nE t' e xs):=by
 subst hs;cases xs with
 | nil=>exact .ghost he
 | cons x r=>exact zc8 hF hn (.inr he) rfl rfl (fun k h=>nomatch h) h
theorem Mt.set{a b:List (List D)}{c d:List D}(h:Mt L F kp a b)(hc:Mos L F kp c d):∀ i:Nat,Mt L F kp (a.set i c) (b.set i d):=by
 induction h with
 | nil=>intro i; exact .nil
 | cons h1 h2 ih=>
  intro i;cases i with
  | zero=>exact .cons hc h2
  | succ i=>exact .cons h1 (ih i)
theorem MB.close{n:Nat}{e:En α}{t:Bool}{xs ys:List α}{i:Int}{y:α}{c:List D}(g:zfP xs i y=some ys)(hc:Mos L F kp c (e.c t y)):MB L F kp (.els n ((xs.map (e.c t)).set i.toNat c)) (.els n (ys.map (e.c t))):=by
 rw[← zb1 g (e.c t)];exact MB.zy9 (Mt.set (Mt.map e t xs) hc _)
theorem MB.opn{n:Nat}{e:En α}{t:Bool}{xs:List α}{i:Nat}{c:List D}(h:D.zbC kp c):MB L F kp (.els n ((xs.map (e.c t)).set i c)) (.els n ((xs.map (e.c t)).set i c)):=MB.zy9 (Mt.set (Mt.map e t xs) (Mos.kin h) i)
theorem Pw.set{P:D→D→Prop}{a b:List (List D)}{c d:List D}(h:Pw P a b)(h1:c.length=d.length)(h2:∀(j:Nat) x x',c[j]? = some x→d[j]? = some x'→P x x'):∀ i:Nat,Pw P (a.set i c) (b.set i d):=by
 induction h with
 | nil=>intro i; exact .nil
 | cons g1 g2 g3 ih=>
  intro i;cases i with
  | zero=>exact .cons h1 h2 g3
  | succ i=>exact .cons g1 g2 (ih i)
end
end Go.Dc
namespace Go.Dc
open Go Go.Mx Go.Lx
variable {α:Type}
theorem zrb{e:En α}{t:Bool}:∀ {xs:List α} {i:Nat} {x:α},xs[i]? = some x→(((xs.map (e.c t)).flatten.drop (i * e.n)).take e.n)=e.c t x
 | y :: r,0,x,h=>by
  simp at h;subst h;rw[qb9,qaS,qaH,qbb,qbW (by rw[e.len]; exact qaj _),qaJ (by rw[e.len]; exact qaj _)]
 | y :: r,i+1,x,h=>by
  have h1:(i+1)* e.n=e.n+i * e.n:=by rw[qaP,qbq,qb2]
  rw[qaH,qbb,h1,List.drop_append,e.len,qb5 (by rw[e.len]; omega),qa5,show e.n+i * e.n - e.n=i * e.n by omega];exact zrb (by simpa using h)
theorem zxk{e:En α}{n:Nat}(hn:n=e.n){xs:List α}{i:Int}{x:α}(h:zaP xs i=some x):i.toNat * n+n≤xs.length * n:=by
 have h1:=(qab.1 (zgO h)).1;rw[← qbN];exact qax n h1
theorem ztu{e:En α}{n:Nat}(hn:n=e.n){xs:List α}{i:Int}{x:α}(h:zaP xs i=some x){t:Bool}{ds:List D}(hd:ds=(xs.map (e.c t)).flatten):(ds.drop (i.toNat * n)).take n=e.c t x:=by
 subst hn hd;exact zrb (zgO h)
end Go.Dc
