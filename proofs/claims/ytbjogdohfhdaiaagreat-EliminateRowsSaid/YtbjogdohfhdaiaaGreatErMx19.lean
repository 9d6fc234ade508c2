/-
 The machine for the kernel with frames and memory as tries. Conditions: none.
-/
import Derived.Test.YtbjogdohfhdaiaaGreatErJ23
set_option linter.unusedSimpArgs false
set_option linter.unusedVariables false
namespace Go.Mx
open Go
inductive Tr (α:Type) where
 | leaf
 | node (o:Option α) (l r:Tr α)
def Tr.get{α:Type}:Tr α->Nat->Option α
 | .leaf,_=>none
 | .node o l r,k=>match k with
  | .zero=>o
  | .succ j=>bif Nat.beq (Nat.mod j 2) 0 then l.get (Nat.div j 2)else r.get (Nat.div j 2)
def zIP{α β:Type}(o:Option α)(r:Tr α)(c:Tr α->Option β):Tr α->Option β:=λl=>c (.node o l r)
def zH9{α β:Type}(o:Option α)(l:Tr α)(c:Tr α->Option β):Tr α->Option β:=λr=>c (.node o l r)
def zuH{α β:Type}(v:α)(t:Tr α)(c:Tr α->Option β):Option β:=
 match t with
 | .leaf=>c (.node (some v) .leaf .leaf)
 | .node _ l r=>c (.node (some v) l r)
abbrev zGi(α β:Type):=Tr α->Nat->(Tr α->Option β)->Option β
def zwi{α β:Type}(b:Bool)(ih:zGi α β)(i:Nat)(o:Option α)(l r:Tr α)(c:Tr α->Option β):Option β:=
 match b with
 | true=>ih l i (zIP o r c)
 | false=>ih r i (zH9 o l c)
def zz5{α β:Type}(ih:zGi α β)(j:Nat)(t:Tr α)(c:Tr α->Option β):Option β:=
 match t with
 | .leaf=>zwi (Nat.beq (Nat.mod j 2) 0) ih (Nat.div j 2) none .leaf .leaf c
 | .node o l r=>zwi (Nat.beq (Nat.mod j 2) 0) ih (Nat.div j 2) o l r c
def zqZ{α β:Type}(v:α)(ih:zGi α β)(t:Tr α)(k:Nat)(c:Tr α->Option β):Option β:=
 match k with
 | .zero=>zuH v t c
 | .succ j=>zz5 ih j t c
def Tr.put{α β:Type}(v:α):Nat->zGi α β
 | 0=>λ_ _ _=>none
 | d+1=>zqZ v (Tr.put v d)
theorem half{i j:Nat}(h1:Nat.beq (Nat.mod i 2) 0=Nat.beq (Nat.mod j 2) 0)(h2:Nat.div i 2=Nat.div j 2):i=j:=by
 have h3:i / 2=j / 2:=h2;have h4:i % 2=j % 2:=by
  have a1:i % 2=0\/i % 2=1:=by omega
  have a2:j % 2=0\/j % 2=1:=by omega
  have e1:Nat.mod i 2=i % 2:=rfl;have e2:Nat.mod j 2=j % 2:=rfl;rw[e1,e2]at h1;rcases a1 with a1 | a1<;>rcases a2 with a2 | a2<;>rw[a1,a2]at h1<;>first | (exact absurd h1 (by decide))| (rw[a1,a2])
 omega
theorem Tr.zlA{α β:Type}{v:α}{x:β}:∀(d:Nat) (t:Tr α) (k:Nat) (c:Tr α->Option β),Tr.put v d t k c=some x->∃ t',c t'=some x/\∀ j,t'.get j=if j=k then some v else t.get j
 | 0,_,_,_,h=>by cases h
 | d+1,t,0,c,h=>by
  simp only[Tr.put,zqZ,zuH]at h;cases t with
  | leaf=>exact⟨_,h,λj=>by cases j<;>simp[Tr.get]⟩
  | node o l r=>exact⟨_,h,λj=>by cases j<;>simp[Tr.get]⟩
 | d+1,t,k+1,c,h=>by
  simp only[Tr.put,zqZ,zz5]at h;have key:∀(o:Option α) (l r:Tr α),zwi (Nat.beq (Nat.mod k 2) 0) (Tr.put v d) (Nat.div k 2) o l r c=some x ->
    ∃ t',c t'=some x/\∀ j,t'.get j=if j=k+1 then some v else(Tr.node o l r).get j:=by
   intro o l r hk;cases hb:Nat.beq (Nat.mod k 2) 0 with
   | true=>
    rw[hb]at hk;simp only[zwi]at hk;obtain⟨t',g1,g2⟩:=Tr.zlA d l _ _ hk;refine⟨_,g1,λj=>?_⟩;cases j with
    | zero=>simp[Tr.get]
    | succ i=>
     simp only[Tr.get,g2,Nat.add_right_cancel_iff];cases hi:Nat.beq (Nat.mod i 2) 0 with
     | true=>
      simp only[qdt];by_cases he:i=k
      .subst he; simp
      .rw[if_neg he,if_neg (λh0=>he (half (hi.trans hb.symm) h0))]
     | false=>
      simp only[qdu];rw[if_neg (λh0=>by subst h0; rw[hb]at hi; cases hi)]
   | false=>
    rw[hb]at hk;simp only[zwi]at hk;obtain⟨t',g1,g2⟩:=Tr.zlA d r _ _ hk;refine⟨_,g1,λj=>?_⟩;cases j with
    | zero=>simp[Tr.get]
    | succ i=>
     simp only[Tr.get,g2,Nat.add_right_cancel_iff];cases hi:Nat.beq (Nat.mod i 2) 0 with
     | false=>
      simp only[qdu];by_cases he:i=k
      .subst he; simp
      .rw[if_neg he,if_neg (λh0=>he (half (hi.trans hb.symm) h0))]
     | true=>
      simp only[qdt];rw[if_neg (λh0=>by subst h0; rw[hb]at hi; cases hi)]
  cases t with
  | leaf=>
   obtain⟨t',g1,g2⟩:=key none .leaf .leaf h;refine⟨t',g1,λj=>?_⟩;rw[g2];by_cases hj:j=k+1
   .rw[if_pos hj,if_pos hj]
   .rw[if_neg hj,if_neg hj];cases j with
    | zero=>simp[Tr.get]
    | succ i=>simp only[Tr.get]; cases Nat.beq (Nat.mod i 2) 0<;>rfl
  | node o l r=>exact key o l r h
def zAi{α β:Type}:List α->Nat->Tr α->(Tr α->Option β)->Option β
 | [],_,t,c=>c t
 | v :: r,i,t,c=>Tr.put v 40 t i λt'=>zd9 (Nat.succ i) λi'=>zAi r i' t' c
theorem ziX{α β:Type}{x:β}:∀(l:List α) (i:Nat) (t:Tr α) (c:Tr α->Option β),zAi l i t c=some x->∃ t',c t'=some x/\∀ j,t'.get j=if i<=j/\j<i+l.length then l[j - i]? else t.get j
 | [],i,t,c,h=>⟨t,h,λj=>by rw[if_neg (by simp only[qa8]; omega)]⟩
 | v :: r,i,t,c,h=>by
  simp only[zAi,zcC]at h;obtain⟨t1,g1,g2⟩:=Tr.zlA _ _ _ _ h;obtain⟨t2,g3,g4⟩:=ziX r _ _ _ g1
  grind
def lst{α:Type}(g:Nat->Option α):Nat->Nat->List α
 | 0,_=>[]
 | m+1,i=>match g i with
  | some v=>v :: lst g m (Nat.succ i)
  | none=>[]
theorem zv4{α:Type}{g:Nat->Option α}{l:List α}(h:∀ k,g k=l[k]?):∀(m i:Nat),m+i=l.length->lst g m i=l.drop i
 | 0,i,hi=>by rw[qbn (by omega)]; rfl
 | m+1,i,hi=>by
  simp only[lst,h];rw[qac (by omega)];simp only[];rw[zv4 h m (i+1) (by omega)]
  simp_all
structure HY where
 n:Nat
 t:Tr Ob
structure TY where
 N:Nat
 env:Tr V
 dfs:List Df
 hp:HY
def zfy(H:HY)(h:zam):Prop:=H.n=h.length/\∀ k,H.t.get k=h[k]?
def zyt(T:TY)(k:Nat):Option V:=match T.env.get k with
 | some v=>some v
 | none=>bif Nat.blt k T.N then some zbc else none
def RY(T:TY)(S:St):Prop:=S.env.length=T.N/\(∀ k,zyt T k=S.env[k]?)/\T.dfs=S.dfs/\zfy T.hp S.heap
def zu6(H:HY):zam:=lst H.t.get H.n 0
theorem zuW{H:HY}{h:zam}(hh:zfy H h):zu6 H=h:=by
 have:=zv4 hh.2 H.n 0 (by simpa using hh.1);simpa [zu6]using this
def zBn(T:TY):List V:=lst (zyt T) T.N 0
theorem zy9{T:TY}{S:St}(h:RY T S):zBn T=S.env:=by
 have:=zv4 h.2.1 T.N 0 (by simpa using h.1.symm);simpa [zBn]using this
def evY(T:TY):X->Option V
 | .c v=>some (.lit v)
 | .s k=>zyt T k
 | .f f=>some (.clo f [] [])
def zAf(T:TY):List X->Option (List V)
 | []=>some []
 | x :: r=>match evY T x with
  | some v=>(match zAf T r with
   | some vs=>some (v :: vs)
   | none=>none)
  | none=>none
theorem zkF{T:TY}{S:St}(h:RY T S)(x:X):evY T x=ev S.env x:=by cases x<;>simp only[evY,ev,h.2.1]
theorem zkD{T:TY}{S:St}(h:RY T S):∀ l,zAf T l=evs S.env l
 | []=>rfl
 | x :: r=>by
  simp only[zAf,evs,zkF h,zkD h r]
  grind
def zw7(H:HY)(β:Nat):Option (List V):=
 match H.t.get β with
 | some (.blk cs)=>some cs
 | _=>none
theorem zrf{H:HY}{h:zam}(hh:zfy H h)(β:Nat):zw7 H β=zax h β:=by simp only[zw7,zax,hh.2]; rfl
inductive EffR where
 | zgl (v:V)
 | snoc (f:Nat->V) (o:Ob)
 | set (v:V) (β:Nat) (o:Ob)
 | setSnoc (β:Nat) (o:Ob) (f:Nat->V) (o':Ob)
def EffR.ap(h:zam):EffR->V×zam
 | .zgl v=>(v,h)
 | .snoc f o=>(f h.length,h ++ [o])
 | .set v β o=>(v,h.set β o)
 | .setSnoc β o f o'=>(f h.length,h.set β o ++ [o'])
def zc9(v:Option V):Option (List V):=v.bind V.cells
def zyB(g:X->Option V)(n:Nat)(cs:List V):List (Nat×X)->Option (List V)
 | []=>some cs
 |(i,x):: r=>match zc9 (g x)with
  | some l=>bif (l.length == n) && Nat.ble (i * n+n) cs.length then zd3 (zbT cs (i * n) l) λcs'=>zyB g n cs' r else none
  | none=>none
theorem zsj(env:List V)(n:Nat):∀(ps:List (Nat×X)) (cs:List V),zyB (ev env) n cs ps=zli env n cs ps
 | [],cs=>rfl
 |(i,x):: r,cs=>by simp only[zyB,zli,zdc,zsj env n r,zc9]; rfl
def zDr(blk:Nat->Option (List V))(n:Nat):V->Option (Nat×List V)
 | .lit (.slice none 0 0)=>some (0,[])
 | .sl β o n' len _=>bif n == n' then(bif len == 0 then some (0,[])else((blk β).bind (slot o (len * n))).map λl=>(len,l))else none
 | _=>none
theorem zuE(h:zam)(n:Nat)(v:V):zDr (zax h) n v=zgj h n v:=by unfold zDr zgj; rfl
def zHt(l:Option (List V)):Option EffR:=match l with | some l=>some (.snoc (λm=>.ptr m 0) (.blk l))| none=>none
def zHP(n len:Nat)(l:Option (List V)):Option EffR:=match l with | some l=>some (.snoc (λm=>.sl m 0 n len (some len)) (.blk l))| none=>none
def zw1(B:Nat)(blk:Nat->Option (List V))(n:Nat)(a:Option V)(l:Option (List V)):Option EffR:=
 match a,l with
 | some (.ptr β o),some l=>(match blk β with
  | some cs=>bif Nat.ble B β && Nat.beq l.length n && Nat.ble (o+n) cs.length then some (.set zbc β (.blk (zbT cs o l)))else none
  | none=>none)
 | _,_=>none
def dMk(n bytes:Nat)(z:List Value)(l c:Option Int):Option EffR:=
 match l,c with
 | some l,some c=>bif decide (0<=l) && decide (l<=c) && decide (c * bytes<=zah)then some (.snoc (λm=>.sl m 0 n l.toNat (some c.toNat)) (.blk (zm7 c.toNat (z.map .lit))))else none
 | _,_=>none
def zHp(B:Nat)(blk:Nat->Option (List V))(n bytes:Nat)(s:Option V)(x:Option (Nat×List V)):Option EffR:=
 match s,x with
 | some (.lit (.slice none 0 0)),some (k,l)=>
  bif k == 0 then some (.zgl (.lit (.slice none 0 0)))else
  bif Nat.ble (k * bytes) zah then some (.snoc (λm=>.sl m 0 n k none) (.blk l))else none
 | some (.sl β o n' len cap),some (k,l)=>
  bif !(n == n')then none else
  bif k == 0 then some (.zgl (.sl β o n len cap))else
  (match blk β,cap with
  | some cs,some c=>
   bif Nat.ble (len+k) c then(bif Nat.ble B β && Nat.ble (o+(len+k)* n) cs.length then some (.set (.sl β o n (len+k) cap) β (.blk (zbT cs (o+len * n) l)))else none)
   else bif Nat.ble (o+len * n) cs.length && Nat.ble ((len+k)* bytes) zah then some (.snoc (λm=>.sl m 0 n (len+k) none) (.blk ((cs.drop o).take (len * n)++ l)))else none
  | some cs,none=>
   bif Nat.ble (o+(len+k)* n) cs.length then(bif Nat.ble B β then some (.set (.sl β o n (len+k) none) β (.blk (zbT cs (o+len * n) l)))else none)
   else bif Nat.ble B β && (o+len * n == cs.length) && Nat.ble ((len+k)* bytes) zah then some (.setSnoc β .dead (λm=>.sl m 0 n (len+k) none) (.blk (cs.drop o ++ l)))else none
  | none,_=>none)
 | _,_=>none
def zEJ(B:Nat)(blk:Nat->Option (List V))(n:Nat)(d s:Option V):Option EffR:=
 match d,s with
 | some (.sl β o n' len _),some w=>(match zDr blk n w with
  | some (k,l)=>(match blk β with
   | some cs=>bif (n == n') && Nat.ble B β && Nat.ble (o+min k len * n) cs.length then
     some (.set (.lit (.int .i64 (min k len:Nat))) β (.blk (zbT cs o (l.take (min k len * n)))))else none
   | none=>none)
  | none=>none)
 | _,_=>none
def zHZ(B:Nat)(blk:Nat->Option (List V))(n:Nat)(z:List Value)(d:Option V):Option EffR:=
 match d with
 | some (.lit (.slice none 0 0))=>some (.zgl zbc)
 | some (.sl β o n' len _)=>bif !(n == n')then none else
  bif len == 0 then some (.zgl zbc)else
  (match blk β with
  | some cs=>bif Nat.ble B β && Nat.ble (o+len * n) cs.length then some (.set zbc β (.blk (zbT cs o (zm7 len (z.map .lit)))))else none
  | none=>none)
 | _=>none
def zyO(B:Nat)(blk:Nat->Option (List V))(g:X->Option V)(i:I):Option EffR:=
 match i with
 | .alloc z=>some (.snoc (λm=>.ptr m 0) (.blk (z.map .lit)))
 | .box x=>zHt (zc9 (g x))
 | .bsl n len z parts=>zHP n len (zyB g n (zm7 len (z.map .lit)) parts)
 | .store n a x=>zw1 B blk n (g a) (zc9 (g x))
 | .mk n bytes z l c=>dMk n bytes z (ztA g l) (ztA g c)
 | .app n bytes s x=>zHp B blk n bytes (g s) ((g x).bind (zDr blk n))
 | .copy n d s=>zEJ B blk n (g d) (g s)
 | .clr n z x=>zHZ B blk n z (g x)
 | _=>none
theorem zBw(B:Nat)(h:zam)(env:List V)(i:I):(zyO B (zax h) (ev env) i).map (EffR.ap h)=eff B h env i:=by
 cases i with
 | alloc z=>rfl
 | box x=>
  simp only[zyO,eff,zc9]
  grind [EffR.ap,Go.Mx.zHt]
 | bsl n len z parts=>
  simp only[zyO,eff,zsj]
  grind [EffR.ap,Go.Mx.zHP]
 | store n a x=>
  simp only[zyO,eff,zc9,zw1,zq3];split
  .rename_i β o l h1 h2;simp only[h1,h2];cases zax h β with
   | none=>rfl
   | some cs=>simp only[]; cases Nat.ble B β && (l.length == n) && Nat.ble (o+n) cs.length<;>rfl
  .split
   .rename_i h0 _ _ β o l h1 h2;exact(h0 _ _ _ h1 h2).elim
   .rfl
 | mk n bytes z l c=>
  simp only[zyO,eff,dMk];have e:∀ x,ztA (ev env) x=evI env x:=λx=>rfl
  rw[e,e];cases evI env l with
  | none=>rfl
  | some l=>
   cases evI env c with
   | none=>rfl
   | some c=>simp only[]; cases decide (0<=l) && decide (l<=c) && decide (c * bytes<=zah)<;> rfl
 | app n bytes s x=>
  simp only[zyO,eff];rw[show zDr (zax h) n=zgj h n from funext (zuE h n)];generalize (ev env x).bind (zgj h n)=y;generalize ev env s=u;unfold zHp;split
  .rename_i k l;simp only[];cases k == 0
   .cases Nat.ble (k * bytes) zah<;>rfl
   rfl
  .rename_i β o n' len cap k l;simp only[];cases !(n == n')with
   | true=>rfl
   | false=>
    simp only[qdu];cases k == 0 with
    | true=>rfl
    | false=>
     simp only[qdu];cases zax h β with
     | none=>rfl
     | some cs=>
      cases cap with
      | some c=>
       simp only[];cases Nat.ble (len+k) c with
       | true=>simp only[qdt]; cases Nat.ble B β && Nat.ble (o+(len+k)* n) cs.length<;>rfl
       | false=>simp only[qdu]; cases Nat.ble (o+len * n) cs.length && Nat.ble ((len+k)* bytes) zah<;>rfl
      | none=>
       simp only[];cases Nat.ble (o+(len+k)* n) cs.length with
       | true=>simp only[qdt]; cases Nat.ble B β<;>rfl
       | false=>simp only[qdu]; cases Nat.ble B β && (o+len * n == cs.length) && Nat.ble ((len+k)* bytes) zah<;>rfl
  .rename_i h1 h2;split
   .exact(h1 _ _ rfl rfl).elim
   .exact(h2 _ _ _ _ _ _ _ rfl rfl).elim
   .rfl
 | clr n z x=>
  simp only[zyO,eff];generalize ev env x=u;unfold zHZ;split
  .rfl
  .rename_i β o n' len cap;simp only[];cases !(n == n')with
   | true=>rfl
   | false=>
    simp only[qdu];cases len == 0 with
    | true=>rfl
    | false=>
     simp only[qdu];cases zax h β with
     | none=>rfl
     | some cs=>simp only[]; cases Nat.ble B β && Nat.ble (o+len * n) cs.length<;>rfl
  .rename_i h1 h2;split
   .exact(h1 rfl).elim
   .exact(h2 _ _ _ _ _ rfl).elim
   .rfl
 | copy n d s=>
  simp only[zyO,eff,zEJ];generalize ev env d=u;generalize ev env s=y;split
  .rename_i β o n' len cap w;simp only[zuE];cases zgj h n w with
   | none=>rfl
   | some kl=>
    obtain⟨k,l⟩:=kl;simp only[];cases zax h β with
    | none=>rfl
    | some cs=>simp only[]; cases(n == n') && Nat.ble B β && Nat.ble (o+min k len * n) cs.length<;>rfl
  .rename_i h1;split
   .exact(h1 _ _ _ _ _ _ rfl rfl).elim
   .rfl
 | _=>rfl
end Go.Mx
