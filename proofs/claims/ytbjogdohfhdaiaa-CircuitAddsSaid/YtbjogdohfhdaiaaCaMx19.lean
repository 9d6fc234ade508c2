/-
 The machine for the kernel with frames and memory as tries. Conditions: none.
-/
import Derived.Test.YtbjogdohfhdaiaaCaJ21
set_option linter.unusedSimpArgs false
set_option linter.unusedVariables false
namespace Go.Mx
open Go
inductive Tr (α:Type) where
 | leaf
 | node (o:Option α) (l r:Tr α)
def Tr.get{α:Type}:Tr α->Nat->Option α
 | .leaf,_=>none
 | .node o l r,k=>match k with
  | .zero=>o
  | .succ j=>bif Nat.beq (Nat.mod j 2) 0 then l.get (Nat.div j 2)else r.get (Nat.div j 2)
def zyf{α β:Type}(o:Option α)(r:Tr α)(c:Tr α->Option β):Tr α->Option β:=λl=>c (.node o l r)
def zyk{α β:Type}(o:Option α)(l:Tr α)(c:Tr α->Option β):Tr α->Option β:=λr=>c (.node o l r)
def zoV{α β:Type}(v:α)(t:Tr α)(c:Tr α->Option β):Option β:=
 match t with
 | .leaf=>c (.node (some v) .leaf .leaf)
 | .node _ l r=>c (.node (some v) l r)
abbrev zwt(α β:Type):=Tr α->Nat->(Tr α->Option β)->Option β
def zpa{α β:Type}(b:Bool)(ih:zwt α β)(i:Nat)(o:Option α)(l r:Tr α)(c:Tr α->Option β):Option β:=
 match b with
 | true=>ih l i (zyf o r c)
 | false=>ih r i (zyk o l c)
def zsC{α β:Type}(ih:zwt α β)(j:Nat)(t:Tr α)(c:Tr α->Option β):Option β:=
 match t with
 | .leaf=>zpa (Nat.beq (Nat.mod j 2) 0) ih (Nat.div j 2) none .leaf .leaf c
 | .node o l r=>zpa (Nat.beq (Nat.mod j 2) 0) ih (Nat.div j 2) o l r c
def zlw{α β:Type}(v:α)(ih:zwt α β)(t:Tr α)(k:Nat)(c:Tr α->Option β):Option β:=
 match k with
 | .zero=>zoV v t c
 | .succ j=>zsC ih j t c
def Tr.put{α β:Type}(v:α):Nat->zwt α β
 | 0=>λ_ _ _=>none
 | d+1=>zlw v (Tr.put v d)
theorem half{i j:Nat}(h1:Nat.beq (Nat.mod i 2) 0=Nat.beq (Nat.mod j 2) 0)(h2:Nat.div i 2=Nat.div j 2):i=j:=by
 have h3:i / 2=j / 2:=h2;have h4:i % 2=j % 2:=by
  have a1:i % 2=0\/i % 2=1:=by omega
  have a2:j % 2=0\/j % 2=1:=by omega
  have e1:Nat.mod i 2=i % 2:=rfl;have e2:Nat.mod j 2=j % 2:=rfl;rw[e1,e2]at h1;rcases a1 with a1 | a1<;>rcases a2 with a2 | a2<;>rw[a1,a2]at h1<;>first | (exact absurd h1 (by decide))| (rw[a1,a2])
 omega
theorem Tr.zhm{α β:Type}{v:α}{x:β}:∀(d:Nat) (t:Tr α) (k:Nat) (c:Tr α->Option β),Tr.put v d t k c=some x->∃ t',c t'=some x/\∀ j,t'.get j=if j=k then some v else t.get j
 | 0,_,_,_,h=>by cases h
 | d+1,t,0,c,h=>by
  simp only[Tr.put,zlw,zoV]at h;cases t with
  | leaf=>exact⟨_,h,λj=>by cases j<;>simp[Tr.get]⟩
  | node o l r=>exact⟨_,h,λj=>by cases j<;>simp[Tr.get]⟩
 | d+1,t,k+1,c,h=>by
  simp only[Tr.put,zlw,zsC]at h;have key:∀(o:Option α) (l r:Tr α),zpa (Nat.beq (Nat.mod k 2) 0) (Tr.put v d) (Nat.div k 2) o l r c=some x ->
    ∃ t',c t'=some x/\∀ j,t'.get j=if j=k+1 then some v else(Tr.node o l r).get j:=by
   intro o l r hk;cases hb:Nat.beq (Nat.mod k 2) 0 with
   | true=>
    rw[hb]at hk;simp only[zpa]at hk;obtain⟨t',g1,g2⟩:=Tr.zhm d l _ _ hk;refine⟨_,g1,λj=>?_⟩;cases j with
    | zero=>simp[Tr.get]
    | succ i=>
     simp only[Tr.get,g2,Nat.add_right_cancel_iff];cases hi:Nat.beq (Nat.mod i 2) 0 with
     | true=>
      simp only[qcR];by_cases he:i=k
      .subst he; simp
      .rw[if_neg he,if_neg (λh0=>he (half (hi.trans hb.symm) h0))]
     | false=>
      simp only[qcS];rw[if_neg (λh0=>by subst h0; rw[hb]at hi; cases hi)]
   | false=>
    rw[hb]at hk;simp only[zpa]at hk;obtain⟨t',g1,g2⟩:=Tr.zhm d r _ _ hk;refine⟨_,g1,λj=>?_⟩;cases j with
    | zero=>simp[Tr.get]
    | succ i=>
     simp only[Tr.get,g2,Nat.add_right_cancel_iff];cases hi:Nat.beq (Nat.mod i 2) 0 with
     | false=>
      simp only[qcS];by_cases he:i=k
      .subst he; simp
      .rw[if_neg he,if_neg (λh0=>he (half (hi.trans hb.symm) h0))]
     | true=>
      simp only[qcR];rw[if_neg (λh0=>by subst h0; rw[hb]at hi; cases hi)]
  cases t with
  | leaf=>
   obtain⟨t',g1,g2⟩:=key none .leaf .leaf h;refine⟨t',g1,λj=>?_⟩;rw[g2];by_cases hj:j=k+1
   .rw[if_pos hj,if_pos hj]
   .rw[if_neg hj,if_neg hj];cases j with
    | zero=>simp[Tr.get]
    | succ i=>simp only[Tr.get]; cases Nat.beq (Nat.mod i 2) 0<;>rfl
  | node o l r=>exact key o l r h
def zuB{α β:Type}:List α->Nat->Tr α->(Tr α->Option β)->Option β
 | [],_,t,c=>c t
 | v :: r,i,t,c=>Tr.put v 40 t i λt'=>zcs (Nat.succ i) λi'=>zuB r i' t' c
theorem zi4{α β:Type}{x:β}:∀(l:List α) (i:Nat) (t:Tr α) (c:Tr α->Option β),zuB l i t c=some x->∃ t',c t'=some x/\∀ j,t'.get j=if i<=j/\j<i+l.length then l[j - i]? else t.get j
 | [],i,t,c,h=>⟨t,h,λj=>by rw[if_neg (by simp only[qaU]; omega)]⟩
 | v :: r,i,t,c,h=>by
  simp only[zuB,zbP]at h;obtain⟨t1,g1,g2⟩:=Tr.zhm _ _ _ _ h;obtain⟨t2,g3,g4⟩:=zi4 r _ _ _ g1;refine⟨t2,g3,λj=>?_⟩;rw[g4,g2];simp only[qaP];by_cases hj:j=i
  .subst hj;rw[if_neg (by omega),if_pos rfl,if_pos (by omega)]; simp
  by_cases hi:i<=j/\j<i+(r.length+1)
  .rw[if_pos hi,if_pos (by omega),show j - i=(j - (i+1))+1 by omega,qaZ]
  rw[if_neg hi,if_neg (by omega),if_neg hj]
def lst{α:Type}(g:Nat->Option α):Nat->Nat->List α
 | 0,_=>[]
 | m+1,i=>match g i with
  | some v=>v :: lst g m (Nat.succ i)
  | none=>[]
theorem zo9{α:Type}{g:Nat->Option α}{l:List α}(h:∀ k,g k=l[k]?):∀(m i:Nat),m+i=l.length->lst g m i=l.drop i
 | 0,i,hi=>by rw[qaM (by omega)]; rfl
 | m+1,i,hi=>by
  simp only[lst,h];rw[qad (by omega)];simp only[];rw[zo9 h m (i+1) (by omega)];exact(qau (by omega)).symm
structure HY where
 n:Nat
 t:Tr Ob
structure TY where
 N:Nat
 env:Tr V
 dfs:List Df
 hp:HY
def zdu(H:HY)(h:zaf):Prop:=H.n=h.length/\∀ k,H.t.get k=h[k]?
def zro(T:TY)(k:Nat):Option V:=match T.env.get k with
 | some v=>some v
 | none=>bif Nat.blt k T.N then some zav else none
def RY(T:TY)(S:St):Prop:=S.env.length=T.N/\(∀ k,zro T k=S.env[k]?)/\T.dfs=S.dfs/\zdu T.hp S.heap
def zok(H:HY):zaf:=lst H.t.get H.n 0
theorem zo5{H:HY}{h:zaf}(hh:zdu H h):zok H=h:=by
 have:=zo9 hh.2 H.n 0 (by simpa using hh.1);simpa [zok]using this
def zti(T:TY):List V:=lst (zro T) T.N 0
theorem zrj{T:TY}{S:St}(h:RY T S):zti T=S.env:=by
 have:=zo9 h.2.1 T.N 0 (by simpa using h.1.symm);simpa [zti]using this
def evY(T:TY):X->Option V
 | .c v=>some (.lit v)
 | .s k=>zro T k
 | .f f=>some (.clo f [] [])
def zsX(T:TY):List X->Option (List V)
 | []=>some []
 | x :: r=>match evY T x with
  | some v=>(match zsX T r with
   | some vs=>some (v :: vs)
   | none=>none)
  | none=>none
theorem zgS{T:TY}{S:St}(h:RY T S)(x:X):evY T x=ev S.env x:=by cases x<;>simp only[evY,ev,h.2.1]
theorem zgF{T:TY}{S:St}(h:RY T S):∀ l,zsX T l=evs S.env l
 | []=>rfl
 | x :: r=>by
  simp only[zsX,evs,zgS h,zgF h r];cases ev S.env x<;>cases evs S.env r<;>rfl
def zpJ(H:HY)(β:Nat):Option (List V):=
 match H.t.get β with
 | some (.blk cs)=>some cs
 | _=>none
theorem zkK{H:HY}{h:zaf}(hh:zdu H h)(β:Nat):zpJ H β=zak h β:=by simp only[zpJ,zak,hh.2]; rfl
inductive EffR where
 | zdn (v:V)
 | snoc (f:Nat->V) (o:Ob)
 | set (v:V) (β:Nat) (o:Ob)
 | setSnoc (β:Nat) (o:Ob) (f:Nat->V) (o':Ob)
def EffR.ap(h:zaf):EffR->V×zaf
 | .zdn v=>(v,h)
 | .snoc f o=>(f h.length,h ++ [o])
 | .set v β o=>(v,h.set β o)
 | .setSnoc β o f o'=>(f h.length,h.set β o ++ [o'])
def zbT(v:Option V):Option (List V):=v.bind V.cells
def zrN(g:X->Option V)(n:Nat)(cs:List V):List (Nat×X)->Option (List V)
 | []=>some cs
 |(i,x):: r=>match zbT (g x)with
  | some l=>bif (l.length == n) && Nat.ble (i * n+n) cs.length then zcc (zaR cs (i * n) l) λcs'=>zrN g n cs' r else none
  | none=>none
theorem zl3(env:List V)(n:Nat):∀(ps:List (Nat×X)) (cs:List V),zrN (ev env) n cs ps=zgn env n cs ps
 | [],cs=>rfl
 |(i,x):: r,cs=>by simp only[zrN,zgn,zbJ,zl3 env n r,zbT]; rfl
def zur(blk:Nat->Option (List V))(n:Nat):V->Option (Nat×List V)
 | .lit (.slice none 0 0)=>some (0,[])
 | .sl β o n' len _=>bif n == n' then(bif len == 0 then some (0,[])else((blk β).bind (slot o (len * n))).map λl=>(len,l))else none
 | _=>none
theorem zqa(h:zaf)(n:Nat)(v:V):zur (zak h) n v=zdL h n v:=by unfold zur zdL; rfl
def zxM(l:Option (List V)):Option EffR:=match l with | some l=>some (.snoc (λm=>.ptr m 0) (.blk l))| none=>none
def zxS(n len:Nat)(l:Option (List V)):Option EffR:=match l with | some l=>some (.snoc (λm=>.sl m 0 n len (some len)) (.blk l))| none=>none
def zoC(B:Nat)(blk:Nat->Option (List V))(n:Nat)(a:Option V)(l:Option (List V)):Option EffR:=
 match a,l with
 | some (.ptr β o),some l=>(match blk β with
  | some cs=>bif Nat.ble B β && Nat.beq l.length n && Nat.ble (o+n) cs.length then some (.set zav β (.blk (zaR cs o l)))else none
  | none=>none)
 | _,_=>none
def dMk(n bytes:Nat)(z:List Value)(l c:Option Int):Option EffR:=
 match l,c with
 | some l,some c=>bif decide (0<=l) && decide (l<=c) && decide (c * bytes<=zag)then some (.snoc (λm=>.sl m 0 n l.toNat (some c.toNat)) (.blk (zhw c.toNat (z.map .lit))))else none
 | _,_=>none
def zwT(B:Nat)(blk:Nat->Option (List V))(n bytes:Nat)(s:Option V)(x:Option (Nat×List V)):Option EffR:=
 match s,x with
 | some (.lit (.slice none 0 0)),some (k,l)=>
  bif k == 0 then some (.zdn (.lit (.slice none 0 0)))else
  bif Nat.ble (k * bytes) zag then some (.snoc (λm=>.sl m 0 n k none) (.blk l))else none
 | some (.sl β o n' len cap),some (k,l)=>
  bif !(n == n')then none else
  bif k == 0 then some (.zdn (.sl β o n len cap))else
  (match blk β,cap with
  | some cs,some c=>
   bif Nat.ble (len+k) c then(bif Nat.ble B β && Nat.ble (o+(len+k)* n) cs.length then some (.set (.sl β o n (len+k) cap) β (.blk (zaR cs (o+len * n) l)))else none)
   else bif Nat.ble (o+len * n) cs.length && Nat.ble ((len+k)* bytes) zag then some (.snoc (λm=>.sl m 0 n (len+k) none) (.blk ((cs.drop o).take (len * n)++ l)))else none
  | some cs,none=>
   bif Nat.ble (o+(len+k)* n) cs.length then(bif Nat.ble B β then some (.set (.sl β o n (len+k) none) β (.blk (zaR cs (o+len * n) l)))else none)
   else bif Nat.ble B β && (o+len * n == cs.length) && Nat.ble ((len+k)* bytes) zag then some (.setSnoc β .dead (λm=>.sl m 0 n (len+k) none) (.blk (cs.drop o ++ l)))else none
  | none,_=>none)
 | _,_=>none
def zwh(B:Nat)(blk:Nat->Option (List V))(n:Nat)(d s:Option V):Option EffR:=
 match d,s with
 | some (.sl β o n' len _),some w=>(match zur blk n w with
  | some (k,l)=>(match blk β with
   | some cs=>bif (n == n') && Nat.ble B β && Nat.ble (o+min k len * n) cs.length then
     some (.set (.lit (.int .i64 (min k len:Nat))) β (.blk (zaR cs o (l.take (min k len * n)))))else none
   | none=>none)
  | none=>none)
 | _,_=>none
def zxw(B:Nat)(blk:Nat->Option (List V))(n:Nat)(z:List Value)(d:Option V):Option EffR:=
 match d with
 | some (.lit (.slice none 0 0))=>some (.zdn zav)
 | some (.sl β o n' len _)=>bif !(n == n')then none else
  bif len == 0 then some (.zdn zav)else
  (match blk β with
  | some cs=>bif Nat.ble B β && Nat.ble (o+len * n) cs.length then some (.set zav β (.blk (zaR cs o (zhw len (z.map .lit)))))else none
  | none=>none)
 | _=>none
def zrE(B:Nat)(blk:Nat->Option (List V))(g:X->Option V)(i:I):Option EffR:=
 match i with
 | .alloc z=>some (.snoc (λm=>.ptr m 0) (.blk (z.map .lit)))
 | .box x=>zxM (zbT (g x))
 | .bsl n len z parts=>zxS n len (zrN g n (zhw len (z.map .lit)) parts)
 | .store n a x=>zoC B blk n (g a) (zbT (g x))
 | .mk n bytes z l c=>dMk n bytes z (zm9 g l) (zm9 g c)
 | .app n bytes s x=>zwT B blk n bytes (g s) ((g x).bind (zur blk n))
 | .copy n d s=>zwh B blk n (g d) (g s)
 | .clr n z x=>zxw B blk n z (g x)
 | _=>none
theorem ztC(B:Nat)(h:zaf)(env:List V)(i:I):(zrE B (zak h) (ev env) i).map (EffR.ap h)=eff B h env i:=by
 cases i with
 | alloc z=>rfl
 | box x=>
  simp only[zrE,eff,zbT];cases(ev env x).bind V.cells<;>rfl
 | bsl n len z parts=>
  simp only[zrE,eff,zl3];cases zgn env n (zhw len (z.map .lit)) parts<;>rfl
 | store n a x=>
  simp only[zrE,eff,zbT,zoC,zlf];split
  .rename_i β o l h1 h2;simp only[h1,h2];cases zak h β with
   | none=>rfl
   | some cs=>simp only[]; cases Nat.ble B β && (l.length == n) && Nat.ble (o+n) cs.length<;>rfl
  .split
   .rename_i h0 _ _ β o l h1 h2;exact(h0 _ _ _ h1 h2).elim
   .rfl
 | mk n bytes z l c=>
  simp only[zrE,eff,dMk];have e:∀ x,zm9 (ev env) x=evI env x:=λx=>rfl
  rw[e,e];cases evI env l with
  | none=>rfl
  | some l=>
   cases evI env c with
   | none=>rfl
   | some c=>simp only[]; cases decide (0<=l) && decide (l<=c) && decide (c * bytes<=zag)<;> rfl
 | app n bytes s x=>
  simp only[zrE,eff];rw[show zur (zak h) n=zdL h n from funext (zqa h n)];generalize (ev env x).bind (zdL h n)=y;generalize ev env s=u;unfold zwT;split
  .rename_i k l;simp only[];cases k == 0
   .cases Nat.ble (k * bytes) zag<;>rfl
   rfl
  .rename_i β o n' len cap k l;simp only[];cases !(n == n')with
   | true=>rfl
   | false=>
    simp only[qcS];cases k == 0 with
    | true=>rfl
    | false=>
     simp only[qcS];cases zak h β with
     | none=>rfl
     | some cs=>
      cases cap with
      | some c=>
       simp only[];cases Nat.ble (len+k) c with
       | true=>simp only[qcR]; cases Nat.ble B β && Nat.ble (o+(len+k)* n) cs.length<;>rfl
       | false=>simp only[qcS]; cases Nat.ble (o+len * n) cs.length && Nat.ble ((len+k)* bytes) zag<;>rfl
      | none=>
       simp only[];cases Nat.ble (o+(len+k)* n) cs.length with
       | true=>simp only[qcR]; cases Nat.ble B β<;>rfl
       | false=>simp only[qcS]; cases Nat.ble B β && (o+len * n == cs.length) && Nat.ble ((len+k)* bytes) zag<;>rfl
  .rename_i h1 h2;split
   .exact(h1 _ _ rfl rfl).elim
   .exact(h2 _ _ _ _ _ _ _ rfl rfl).elim
   .rfl
 | clr n z x=>
  simp only[zrE,eff];generalize ev env x=u;unfold zxw;split
  .rfl
  .rename_i β o n' len cap;simp only[];cases !(n == n')with
   | true=>rfl
   | false=>
    simp only[qcS];cases len == 0 with
    | true=>rfl
    | false=>
     simp only[qcS];cases zak h β with
     | none=>rfl
     | some cs=>simp only[]; cases Nat.ble B β && Nat.ble (o+len * n) cs.length<;>rfl
  .rename_i h1 h2;split
   .exact(h1 rfl).elim
   .exact(h2 _ _ _ _ _ rfl).elim
   .rfl
 | copy n d s=>
  simp only[zrE,eff,zwh];generalize ev env d=u;generalize ev env s=y;split
  .rename_i β o n' len cap w;simp only[zqa];cases zdL h n w with
   | none=>rfl
   | some kl=>
    obtain⟨k,l⟩:=kl;simp only[];cases zak h β with
    | none=>rfl
    | some cs=>simp only[]; cases(n == n') && Nat.ble B β && Nat.ble (o+min k len * n) cs.length<;>rfl
  .rename_i h1;split
   .exact(h1 _ _ _ _ _ _ rfl rfl).elim
   .rfl
 | _=>rfl
end Go.Mx
