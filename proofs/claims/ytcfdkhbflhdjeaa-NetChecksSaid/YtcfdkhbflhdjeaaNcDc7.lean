/-
 A block of cells seen as a list, and back; a slice of a whole array. Conditions: none.
-/
import Derived.Test.YtcfdkhbflhdjeaaNcDc4
set_option linter.unusedSimpArgs false
set_option linter.unusedVariables false
namespace Go.Dc
open Go Go.Mx Go.Lx
section
variable {m:Mach} {k0:Nat} {Q:LX→LSt→Prop} {S:LSt}
theorem zmh{c:Cx}{L:List LB}{H:zap}(h:RelH c L H)(β:Nat)(x:Lc):Cx.but β c (c.put β x):=
 ⟨rfl,fun _ _ h=>h,fun k hk=>by simp[Cx.put,hk],rfl,fun b cs cs' h1 h2=>h.apart b cs cs' h1 h2⟩
theorem Rs.but{c c':Cx}{β:Nat}{ds:List D}{vs:List V}(h:Rs c ds vs)(hb:Cx.but β c c')(ha:D.avs β ds):Rs c' ds vs:=
 ⟨h.1,fun i d v h1 h2=>(h.2 i d v h1 h2).but hb (zgj ha h1)⟩
theorem Els.but{c c':Cx}{β n:Nat}{es:List (List D)}{vs:List V}(h:Els c n es vs)(hb:Cx.but β c c')(ha:∀ cells∈es,D.avs β cells):Els c' n es vs:=
 ⟨h.len,Rs.but h.rel hb (by
  have:∀ es:List (List D),(∀ cells∈es,D.avs β cells)→D.avs β es.flatten:=by
   intro es;induction es with
   | nil=>intro _; trivial
   | cons a r ih=>
    intro h;have h1:=h a qas;have h2:=ih fun c hc=>h c (qar _ hc)
    rw[qa0];clear h ih;induction a with
    | nil=>exact h2
    | cons x a iha=>exact⟨h1.1,iha h1.2⟩
  exact this es ha)⟩
theorem zhY.but{c c':Cx}{H:zap}{β γ:Nat}{lb:LB}(h:zhY c H γ lb)(hb:Cx.but β c c')(hne:γ≠β)(ha:lb.av β):zhY c' H γ lb:=by
 cases lb with
 | cells ds=>
  obtain⟨b,vs,h1,h2,h3⟩:=h;exact⟨b,vs,by rw[hb.ρ _ hne]; exact h1,h2,Rs.but h3 hb ha⟩
 | els n es=>
  obtain⟨h0,b,vs,h1,h2,h3⟩:=h;exact⟨h0,b,vs,by rw[hb.ρ _ hne]; exact h1,h2,Els.but h3 hb ha⟩
 | grow n es=>
  obtain⟨h0,⟨g1,g2⟩| ⟨g0,b,vs,h1,h2,h3⟩⟩:=h
  ·exact⟨h0,.inl ⟨g1,by rw[hb.ρ _ hne]; exact g2⟩⟩
  ·exact⟨h0,.inr ⟨g0,b,vs,by rw[hb.ρ _ hne]; exact h1,h2,Els.but h3 hb ha⟩⟩
 | gone=>exact(hb.ρ _ hne).trans h
 | lp st pend N E ps asg body=>
  obtain⟨b,env,h1,h2,h3,h4⟩:=h;exact⟨b,env,by rw[hb.ρ _ hne]; exact h1,h2,h3,fun k d hk=>by obtain⟨v,g1,g2⟩:=h4 k d hk; exact⟨v,g1,g2.but hb (ha k d hk)⟩⟩
 | lost=>
  obtain⟨b,h1,h2⟩:=h;exact⟨b,by rw[hb.ρ _ hne]; exact h1,h2⟩
theorem zbu.zsJ{N β:Nat}{E E':List (Nat×D)}{L:List LB}{lb lb':LB}(hk:k0≤β)(hb:L[β]? = some lb)
  (hx:∀ c H,RelH c L H→zhY c H β lb→∃ b x x',c.ρ β=some x∧x.blk=some b∧x'.blk=some b∧zhY (c.put β x') H β lb'∧∀ k d',lk E' k=some d'→∃ d,lk E k=some d∧∀ v,R c d v→R (c.put β x') d' v)
  (hLL:∀ i b,i≠β→L[i]? = some b→b.av β):zbu k0 ⟨N,E,L⟩ ⟨N,E',L.set β lb'⟩:=by
 intro c M h;have hβ:β<L.length:=(qac.1 hb).1;obtain⟨b,x,x',h1,h2,h3,h4,h5⟩:=hx c M.heap h.heap (h.heap.obj β lb hb);have hput:=zmh h.heap β x';have hρ:∀ γ y,(c.put β x').ρ γ=some y→(γ=β∧y=x')∨(γ≠β∧c.ρ γ=some y):=by
  intro γ y hy;by_cases hg:γ=β
  ·subst hg; rw[zay]at hy; cases hy; exact .inl ⟨rfl,rfl⟩
  rw[hput.ρ _ hg]at hy; exact .inr ⟨hg,hy⟩
 refine⟨c.put β x',⟨fun k d' hd=>?_,h.len,⟨h.heap.base,h.heap.za,h.heap.zf,fun γ y b' hy hb'=>?_,fun γ γ' y y' b' hy hy' hb1 hb2=>?_,fun γ y hy=>?_,fun γ o ho=>?_⟩⟩,?_,?_⟩
 ·obtain⟨d,q1,q2⟩:=h5 k d' hd;obtain⟨v,q3,q4⟩:=h.env k d q1;exact⟨v,q3,q2 v q4⟩
 ·rcases hρ γ y hy with⟨rfl,rfl⟩| ⟨_,hy⟩
  ·rw[h3]at hb'; cases hb'; exact h.heap.own _ x b h1 h2
  exact h.heap.own γ y b' hy hb'
 ·rcases hρ γ y hy with⟨e1,e2⟩| ⟨n1,k1⟩<;> rcases hρ γ' y' hy' with⟨e3,e4⟩| ⟨n2,k2⟩
  ·rw[e1,e3]
  ·rw[e2,h3]at hb1; cases hb1; exact absurd (h.heap.inj _ _ x y' b h1 k2 h2 hb2).symm n2
  ·rw[e4,h3]at hb2; cases hb2; exact absurd (h.heap.inj _ _ y x b k1 h1 hb1 h2) n1
  exact h.heap.inj γ γ' y y' b' k1 k2 hb1 hb2
 ·rw[qan];rcases hρ γ y hy with⟨rfl,rfl⟩| ⟨_,hy⟩
  ·exact hβ
  exact h.heap.scope γ y hy
 ·by_cases hg:γ=β
  ·subst hg; rw[qau hβ]at ho; cases ho; exact h4
  rw[qal (Ne.symm hg)]at ho;exact zhY.but (h.heap.obj γ o ho) hput hg (hLL γ o hg ho)
 ·refine⟨qak _,rfl,rfl,fun _ _ h=>h,fun _ _ _=>rfl,fun γ y b' hy hb'=>?_,fun _ h=>h⟩;rcases hρ γ y hy with⟨rfl,rfl⟩| ⟨_,hy⟩
  ·rw[h3]at hb'; cases hb'; exact .inl ⟨_,x,h1,h2⟩
  exact .inl ⟨γ,y,hy,hb'⟩
 refine⟨fun _ _ h=>h,fun _ _ h=>h,fun γ y hγ hy=>⟨y,?_,Lc.up.refl y⟩⟩;rw[hput.ρ _ (by omega)]; exact hy
theorem zbu.zwj{N β n:Nat}{E E':List (Nat×D)}{L:List LB}{es:List (List D)}(hk:k0≤β)(hn:0<n)(hb:L[β]? = some (.cells es.flatten))(hl:∀ cells∈es,cells.length=n)(ha:∀ cells∈es,D.avs β cells)
  (hE:∀ k d',lk E' k=some d'→(lk E k=some d'∧d'.av β)∨(∃ o,lk E k=some (.ptr β o)∧d'=.eptr β n 0 o es.length)) (hLL:∀ i b,i≠β→L[i]? = some b→b.av β):zbu k0 ⟨N,E,L⟩ ⟨N,E',L.set β (.els n es)⟩:=by
 refine zbu.zsJ hk hb (fun c H hr hbr=>?_) hLL;obtain⟨b,vs,h1,h2,h3⟩:=hbr;have hput:=zmh hr β (.list b es.length);refine⟨b,.cell b,.list b es.length,h1,rfl,rfl,⟨hn,b,vs,zay _ _ _,h2,Els.but (c:=c) ⟨hl,h3⟩ hput ha⟩,fun k d' hd=>?_⟩;rcases hE k d' hd with⟨q1,q2⟩| ⟨o,q1,rfl⟩
 ·exact⟨d',q1,fun v hv=>hv.but hput q2⟩
 refine⟨_,q1,fun v hv=>?_⟩;cases hv with
 | ptr g=>
  rw[h1]at g;cases g;exact .eptr (zay _ _ _) (.inr ⟨rfl,by rw[qbC,qaU]⟩)
theorem zbu.ztD{N β n:Nat}{E E':List (Nat×D)}{L:List LB}{es:List (List D)}(hk:k0≤β)(hb:L[β]? = some (.els n es))(ha:∀ cells∈es,D.avs β cells)
  (hE:∀ k d',lk E' k=some d'→(lk E k=some d'∧d'.av β)∨(∃ o,lk E k=some (.eptr β n 0 o es.length)∧d'=.ptr β o)) (hLL:∀ i b,i≠β→L[i]? = some b→b.av β):zbu k0 ⟨N,E,L⟩ ⟨N,E',L.set β (.cells es.flatten)⟩:=by
 refine zbu.zsJ hk hb (fun c H hr hbr=>?_) hLL;obtain⟨hn,b,vs,h1,h2,h3⟩:=hbr;have hput:=zmh hr β (.cell b);refine⟨b,.list b es.length,.cell b,h1,rfl,rfl,⟨b,vs,zay _ _ _,h2,(Els.but h3 hput ha).rel⟩,fun k d' hd=>?_⟩;rcases hE k d' hd with⟨q1,q2⟩| ⟨o,q1,rfl⟩
 ·exact⟨d',q1,fun v hv=>hv.but hput q2⟩
 refine⟨_,q1,fun v hv=>?_⟩;cases hv with
 | eptr g g'=>
  rw[h1]at g;cases g;rcases g' with⟨g',_⟩| ⟨_,rfl⟩
  ·omega
  rw[qbC,qaU]; exact .ptr (zay _ _ _)
def EC(E:List (Nat×D))(P:D→D→Prop):List (Nat×D)→Prop
 | []=>True
 |(k,d'):: r=>(∃ d,lk E k=some d∧P d d')∧EC E P r
theorem EC.get{E:List (Nat×D)}{P:D→D→Prop}:∀ {E':List (Nat×D)},EC E P E'→∀ k d',lk E' k=some d'→∃ d,lk E k=some d∧P d d'
 | [],_,k,d',h=>by cases h
 |(j,x):: r,hc,k,d',h=>by
  simp only[lk]at h;split at h
  ·rename_i hj; subst hj; cases h; exact hc.1
  exact hc.2.get k d' h
def nk(β:Nat)(b:Nat):Bool:=!(Nat.beq b β)
theorem zrT{β b:Nat}(h:nk β b=true):b≠β:=by
 intro e;subst e;have:Nat.beq b b=true:=Nat.beq_refl b;simp[nk,this]at h
mutual
theorem zmX{β:Nat}:∀(d:D),d.kin (nk β)→d.av β
 | .ptr b _,h=>zrT h
 | .eptr b _ _ _ _,h=>zrT h
 | .sl b _ _ _ _ _,h=>zrT h
 | .yld b,h=>zrT h
 | .clo _ xs ys,h=>⟨zd0 xs h.1,zd0 ys h.2⟩
 | .ifc _ d,h=>zmX d h
 | .agg ds,h=>zd0 ds h
 | .tup ds,h=>zd0 ds h
 | .any,_=>trivial
 | .lit _,_=>trivial
 | .fptr _ _,_=>trivial
 | .fz _ _ _,_=>trivial
 | .z0 _ _,_=>trivial
theorem zd0{β:Nat}:∀(ds:List D),D.za8 (nk β) ds→D.avs β ds
 | [],_=>trivial
 | d :: r,h=>⟨zmX d h.1,zd0 r h.2⟩
end
def LK(kp:Nat→Bool):LB→Prop
 | .cells ds=>D.za8 kp ds
 | .els _ es=>∀ cells,cells∈es→D.za8 kp cells
 | .grow _ es=>∀ cells,cells∈es→D.za8 kp cells
 | .gone=>True
 | .lp ..=>False
 | .lost=>True
theorem LK.av{β:Nat}{b:LB}(h:LK (nk β) b):b.av β:=by
 cases b with
 | cells ds=>exact zd0 ds h
 | els n es=>exact fun c hc=>zd0 c (h c hc)
 | grow n es=>exact fun c hc=>zd0 c (h c hc)
 | gone=>trivial
 | lp=>exact h.elim
 | lost=>trivial
def LA(β:Nat):Nat→List LB→Prop
 | _,[]=>True
 | i,b :: r=>(i=β∨LK (nk β) b)∧LA β (i+1) r
theorem LA.get{β:Nat}:∀ {i:Nat} {L:List LB},LA β i L→∀ j b,i+j≠β→L[j]? = some b→b.av β
 | i,[],_,j,b,_,h=>by simp at h
 | i,x :: r,hl,0,b,hne,h=>by
  simp at h; subst h;rcases hl.1 with h | h
  ·exact absurd h hne
  ·exact h.av
 | i,x :: r,hl,j+1,b,hne,h=>hl.2.get j b (by omega) (by simpa using h)
theorem zrZ{kp:Nat→Bool}{α:Type}(e:En α)(t:Bool)(xs:List α):∀ cells,cells∈xs.map (e.c t)→D.za8 kp cells:=fun c hc=>by
 obtain⟨x,_,rfl⟩:=qay.1 hc;exact e.kin _ _ _
theorem EvL.toE{N β n:Nat}{E E':List (Nat×D)}{L L':List LB}{es:List (List D)}{k:List K}(hn:0<n)(hb:L[β]? = some (.cells es.flatten))(hl:∀ cells∈es,cells.length=n)(ha:∀ cells∈es,D.za8 (nk β) cells)
  (hE:EC E (fun d d'=>(d=d'∧d'.kin (nk β))∨(∃ o,d=.ptr β o∧d'=.eptr β n 0 o es.length)) E') (hLL:LA β 0 L) (hL:L.set β (.els n es)=L') (h:EvL m 0 k ⟨N,E',L'⟩ Q):EvL m 0 k ⟨N,E,L⟩ Q:=by
 subst hL;refine EvL.zd1 (zbu.zwj (qav _) hn hb hl (fun c hc=>zd0 c (ha c hc)) (fun j d' hd=>?_) fun i b hi hb=>hLL.get i b (by omega) hb) h;obtain⟨d,h1,⟨rfl,h2⟩| ⟨o,rfl,rfl⟩⟩:=hE.get j d' hd
 ·exact .inl ⟨h1,zmX _ h2⟩
 exact .inr ⟨o,h1,rfl⟩
theorem EvL.toC{N β n:Nat}{E E':List (Nat×D)}{L L':List LB}{es:List (List D)}{k:List K}(hb:L[β]? = some (.els n es))(ha:∀ cells∈es,D.za8 (nk β) cells)
  (hE:EC E (fun d d'=>(d=d'∧d'.kin (nk β))∨(∃ o,d=.eptr β n 0 o es.length∧d'=.ptr β o)) E') (hLL:LA β 0 L) (hL:L.set β (.cells es.flatten)=L') (h:EvL m 0 k ⟨N,E',L'⟩ Q):EvL m 0 k ⟨N,E,L⟩ Q:=by
 subst hL;refine EvL.zd1 (zbu.ztD (qav _) hb (fun c hc=>zd0 c (ha c hc)) (fun j d' hd=>?_) fun i b hi hb=>hLL.get i b (by omega) hb) h;obtain⟨d,h1,⟨rfl,h2⟩| ⟨o,rfl,rfl⟩⟩:=hE.get j d' hd
 ·exact .inl ⟨h1,zmX _ h2⟩
 exact .inr ⟨o,h1,rfl⟩
theorem EvL.one{k:List K}{d:Option Nat}{i:I}{g:Option (Nat×Bool)}{l:List O}{bar e:Bool}{S1:LSt}(hs:ziQ S d i (zbo S.env g)=some S1)(hc:zbQ i=false)(h:EvL m k0 (.ops bar e l :: k) S1 Q):EvL m k0 (.ops bar e (⟨d,i,g⟩:: l):: k) S Q:=by
 intro c0 H0 c B rd M hd hway hr hB;refine zdn hr hB hc hs fun c' M' g1 g2 g3 g4 g5=>?_
 exact h c0 H0 c' B rd M' hd (hway.go g1 g2 hr.heap g3) g5 (by rw[g4]; exact hB)
theorem EvL.ep{N β n i o st j i' o':Nat}{E:List (Nat×D)}{L:List LB}{k:List K}(hj:lk E j=some (.eptr β n i o st))(he:i * n+o=i' * n+o')(h:EvL m 0 k ⟨N,(j,.eptr β n i' o' st):: E,L⟩ Q):EvL m 0 k ⟨N,E,L⟩ Q:=by
 refine EvL.zd1 (S':=⟨N,(j,.eptr β n i' o' st):: E,L⟩) (fun c M hr=>⟨c,⟨fun x d hx=>?_,hr.len,hr.heap⟩,Step.refl _ _,Cx.leK.refl _ _⟩) h;simp only[lk]at hx;split at hx
 ·rename_i hjx;subst hjx;cases hx;obtain⟨v,h1,h2⟩:=hr.env _ _ hj;refine⟨v,h1,?_⟩;cases h2 with
  | eptr g g'=>exact .eptr g (by rw[← he]; exact g')
 exact hr.env x d hx
theorem EvL.zoi{k:List K}{d:Option Nat}{n cnt β:Nat}{x:X}{l:List O}{bar e:Bool}{es:List (List D)}(hx:evD S.env x=some (.eptr β n 0 0 es.length))(hb:S.heap[β]? = some (.els n es))(hc:es.length=cnt)(h63:cnt<2 ^ 63)
  {S1:LSt} (hs:S.put d (.sl β 0 n cnt (some cnt) es.length)=some S1) (hk:EvL m k0 (.ops bar e l :: k) S1 Q):EvL m k0 (.ops bar e (⟨d,.zoi n cnt x none none none,none⟩:: l):: k) S Q:=by
 intro c0 H0 c B rd M hd hway hr hB;obtain⟨u,g1,g2⟩:=zaf hr hx;obtain⟨hn,b,vs,h1,h2,h3⟩:=hr.heap.obj β _ hb;have hu:u=.ptr b 0:=by
  cases g2 with
  | eptr g g'=>
   rw[h1]at g;cases g;rcases g' with⟨g',_⟩| ⟨_,rfl⟩
   ·omega
   rw[qbC]
 subst hu;have hlen:vs.length=cnt * n:=by rw[h3.zlg,hc]
 have hq:q M.heap M.env (.zoi n cnt x none none none)=some (.sl b 0 n cnt (some cnt)):=by
  have e1:(Nat.blt 0 n && Nat.blt cnt (2 ^ 63) && ztZ M.heap b (cnt * n))=true:=by
   have h4:ztZ M.heap b (cnt * n)=true:=by simp[ztZ,zaM,h2,hlen]
   have h5:Nat.blt 0 n=true:=by rw[qbb]; exact hn
   have h6:Nat.blt cnt (2 ^ 63)=true:=by rw[qbb]; exact h63
   rw[h4,h5,h6]; rfl
  have e2:bounds cnt (some cnt) none none none=some (0,cnt,some cnt):=by
   simp[bounds,zdJ]
  simp only[q,g1,znm,e1,e2,cond_true,qaI,qbC,qaU,qcw]
 have hput:=zdc (L:=S.heap) (H:=M.heap) hr hr.le0 hr.heap (.sl (v:=.sl b 0 n cnt (some cnt)) h1 (.inr ⟨by rw[hc],by rw[qbC]⟩)) hs;refine EvO.quiet (o:=⟨d,.zoi n cnt x none none none,none⟩) rfl rfl hq ?_;exact hk c0 H0 c B rd _ (by cases d<;>exact hd) ⟨by cases d<;>exact hway.step,hway.le,by cases d<;>exact hway.dfs⟩ hput hB
end
end Go.Dc
