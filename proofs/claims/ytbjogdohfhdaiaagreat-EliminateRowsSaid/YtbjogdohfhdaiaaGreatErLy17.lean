/-
 Trees: functions that hand back lists of their own, to which one may append. Conditions: none.
-/
import Derived.Test.YtbjogdohfhdaiaaGreatErDm
import Derived.Test.YtbjogdohfhdaiaaGreatErDc1
import Derived.Test.YtbjogdohfhdaiaaGreatErLy16
set_option linter.unusedSimpArgs false
set_option linter.unusedVariables false
namespace Go.Lx
open Go Go.Mx
def D.sh1(n:Nat):D->D
 | .sl β s k len cap st=>.sl (n+β) s k len cap st
 | .ptr β o=>.ptr (n+β) o
 | d=>d
def D.sh(n:Nat):D->D
 | .clo f xs ys=>.clo f xs (ys.map (D.sh1 n))
 | d=>d.sh1 n
def D.zGK:D->Prop
 | .sl _ _ _ _ _ _=>True
 | .ptr _ _=>True
 | d=>d.fr
def D.okT:D->Prop
 | .clo _ xs ys=>D.frs xs/\∀ y∈ys,y.zGK
 | d=>d.zGK
def LB.okT:LB->Prop
 | .cells ds=>D.frs ds
 | .els _ es=>∀ cells∈es,D.frs cells
 | .grow _ es=>∀ cells∈es,D.frs cells
 | .gone=>True
 | _=>False
theorem zHw{d:D}(h:d.fr)(n:Nat):d.sh1 n=d:=by cases d<;>first | rfl | exact h.elim
section
variable {fns:Mach} {k0:Nat} {Q:LX->LSt->Prop} {c:Cx} {L:List LB} {S S':LSt} {M:St} {H:zam} {B:Nat} {rd:Option Nat} {bar top e:Bool}
def FnT(fns:Mach)(f:Nat)(args ds:List D)(Ls:List LB):Prop:=
 ∀(z:Nat->Option (List V)) (B:Nat) (H:zam) (vs:List V),(∀ b cs,z b=some cs->H[b]? = some (.blk cs))->B<=H.length->Rs ⟨z,λ_=>none,λ_=>none,H.length⟩ args vs ->
  EvF fns B f vs H λcr H'=>H.length<=H'.length/\(∀ b,b<H.length->H'[b]? = H[b]?)/\∃ us c',cr=.ret (zhB us)/\c'.za=z/\c'.base=H.length/\RelH c' Ls H'/\Rs c' ds us
theorem FnT.call{f:Nat}{args ds:List D}{Ls:List LB}(h:FnT fns f args ds Ls)(hfr:D.frs args)(hT:∀ d∈ds,d.okT)(hL:∀ o∈Ls,o.okT)(bar:Bool)(Qp:D->List LB->Prop):
  zdD fns bar f args L (λd L'=>d=zdX (ds.map (D.sh L.length))/\L'=L ++ Ls) Qp:=by
 intro c B H vs hH hB hr;have hBl:(bif bar then H.length else B)<=H.length:=by
  grind [Go.Lx.RelH]
 have hrs:Rs ⟨c.look false,λ_=>none,λ_=>none,H.length⟩ args vs:=⟨hr.1,λi d v h1 h2=>(hr.2 i d v h1 h2).fr (zeN hfr h1) λb cs hb=>by simpa [Cx.look]using hb⟩;refine EvF.mono (h (c.look false) _ H vs (λb cs hb=>hH.look hb) hBl hrs) ?_;rintro cr H' ⟨h1,h2,us,c1,rfl,hza,hbase,hR,hus⟩;have hlt:∀ b cs,H[b]? = some (Ob.blk cs)->H'[b]? = some (Ob.blk cs):=λb cs hb=>(h2 b (qab.1 hb).1).trans hb
 have h3:∀ b cs,c1.zf b=some cs->H.length<=b/\H'[b]? = some (.blk cs):=λb cs hb=>by
  have:=hR.zf b cs hb;rw[hbase]at this;exact this
 let c':Cx:={ c with zf:=λb=>(match c.zf b with | some cs=>some cs | none=>c1.zf b),ρ:=λβ=>if β<L.length then c.ρ β else c1.ρ (β - L.length) }
 have hρo:∀ β,β<L.length->c'.ρ β=c.ρ β:=λβ hb=>by simp only[c']; rw[if_pos hb]
 have hρn:∀ β,c'.ρ (L.length+β)=c1.ρ β:=λβ=>by simp only[c']; rw[if_neg (by omega),qbL]
 have hzf:∀ b cs,c'.zf b=some cs->(c.zf b=some cs)\/(c.zf b=none/\c1.zf b=some cs):=by
  intro b cs hb;simp only[c']at hb;cases hz:c.zf b with
  | some x=>rw[hz]at hb; cases hb; exact .inl rfl
  | none=>rw[hz]at hb; exact .inr ⟨rfl,hb⟩
 have hnew:∀ b cs,c1.zf b=some cs->c.zf b=none:=by
  intro b cs hb;cases hz:c.zf b with
  | none=>rfl
  | some x=>
   have h5:=(qab.1 (hH.zf b x hz).2).1;have h6:=(h3 b cs hb).1;omega
 have hap:∀ b cs cs',c'.zf b=some cs->c'.za b=some cs'->cs=cs':=by
  intro b cs cs' hb hb';have h5:=(hH.za b cs' hb').1;have h7:=hH.base;rcases hzf b cs hb with h6 | ⟨_,h6⟩
  .have:=(hH.zf b cs h6).1; omega
  have:=(h3 b cs h6).1; omega
 have hle:c.le c':=⟨λ_ _ h=>h,λb cs hb=>by simp only[c',hb],λβ x hx=>⟨x,by rw[hρo β (hH.scope β x hx)]; exact hx,Lc.up.refl x⟩,hap⟩;have hown:∀ β x b,c'.ρ β=some x->x.blk=some b->(β<L.length/\c.ρ β=some x/\b<H.length)\/(∃ γ,β=L.length+γ/\c1.ρ γ=some x/\H.length<=b):=by
  intro β x b hx hb;rcases qa0 β L.length with hβ | hβ
  .rw[hρo β hβ]at hx;exact .inl ⟨hβ,hx,(hH.own β x b hx hb).2.1⟩
  obtain⟨γ,rfl⟩:∃ γ,β=L.length+γ:=⟨β - L.length,by omega⟩;rw[hρn]at hx;have:=(hR.own γ x b hx hb).1;rw[hbase]at this;exact .inr ⟨γ,rfl,hx,this⟩
 have hlook:∀ b cs,c1.look false b=some cs->c'.look false b=some cs:=by
  intro b cs hb;unfold Cx.look at hb;cases hz:c1.zf b with
  | some x=>
   rw[hz]at hb;cases hb;simp only[Cx.look,c',hnew b _ hz,hz]
  | none=>
   rw[hz,hza]at hb;simp only[qbv,if_false,Cx.look]at hb;cases hzc:c.zf b with
   | some x=>rw[hzc]at hb; cases hb; simp only[Cx.look,c',hzc]
   | none=>rw[hzc]at hb; simp only at hb; simp only[Cx.look,c',hzc,hz,hb,qbv,if_false]
 have hels:∀(n:Nat) (es:List (List D)) (ws:List V),(∀ cells∈es,D.frs cells)->Els c1 n es ws->Els c' n es ws:=λn es ws hf he=>⟨he.len,he.rel.1,λi d v g1 g2=>(he.rel.2 i d v g1 g2).fr (by
  have hm:=qaC g1;obtain⟨cells,m1,m2⟩:=qcM.1 hm;obtain⟨k,hk⟩:=qcw.1 m2
  exact zeN (hf cells m1) hk) hlook⟩
 refine⟨c',zdX (ds.map (D.sh L.length)),L ++ Ls,⟨h1,rfl,rfl,hle.zf,λb hb _=>h2 b hb,λβ x b hx hb=>?_,λb hb=>hb.zgl (h2 b hb.lt)⟩,⟨?_,?_,?_,?_,?_,?_,?_⟩,hle,?_,rfl,rfl⟩
 .rcases hown β x b hx hb with⟨_,g,_⟩| ⟨_,_,_,g⟩
  .exact .inl ⟨β,x,g,hb⟩
  exact .inr g
 .exact qaq hH.base h1
 .intro b cs hb;exact⟨(hH.za b cs hb).1,hlt b cs (hH.za b cs hb).2⟩
 .intro b cs hb;rcases hzf b cs hb with h6 | ⟨_,h6⟩
  .exact⟨(hH.zf b cs h6).1,hlt b cs (hH.zf b cs h6).2⟩
  exact⟨qaq hH.base (h3 b cs h6).1,(h3 b cs h6).2⟩
 .intro β x b hx hb;rcases hown β x b hx hb with⟨g0,g,g4⟩| ⟨γ,rfl,g,g4⟩
  .obtain⟨g1,g2,g3⟩:=hH.own β x b g hb;refine⟨g1,qb2 g2 h1,?_⟩;cases hz:c'.zf b with
   | none=>rfl
   | some cs=>
    rcases hzf b cs hz with h6 | ⟨_,h6⟩
    .rw[g3]at h6; cases h6
    have:=(h3 b cs h6).1; omega
  obtain⟨g1,g2,g3⟩:=hR.own γ x b g hb;refine⟨qaq hH.base g4,g2,?_⟩;cases hz:c'.zf b with
  | none=>rfl
  | some cs=>
   rcases hzf b cs hz with h6 | ⟨_,h6⟩
   .have:=(qab.1 (hH.zf b cs h6).2).1; omega
   rw[g3]at h6; cases h6
 .intro β β' x x' b hx hx' hb hb';rcases hown β x b hx hb with⟨g0,g,g4⟩| ⟨γ,rfl,g,g4⟩<;> rcases hown β' x' b hx' hb' with⟨g0',g',g4'⟩| ⟨γ',rfl,g',g4'⟩
  .exact hH.inj β β' x x' b g g' hb hb'
  .omega
  .omega
  rw[hR.inj γ γ' x x' b g g' hb hb']
 .intro β x hx;rw[qaz];rcases qa0 β L.length with hβ | hβ
  .omega
  obtain⟨γ,rfl⟩:∃ γ,β=L.length+γ:=⟨β - L.length,by omega⟩;rw[hρn]at hx;have:=hR.scope γ x hx;omega
 .intro β o ho;rcases qa0 β L.length with hβ | hβ
  .rw[qar hβ]at ho;exact(hH.obj β o ho).mono hle (hρo β hβ) λx b hx hb=>h2 b (hH.own β x b hx hb).2.1
  obtain⟨γ,rfl⟩:∃ γ,β=L.length+γ:=⟨β - L.length,by omega⟩;rw[qaV (by omega),qbL]at ho;have hok:=hL o (qaC ho);have hb:=hR.obj γ o ho;cases o with
  | cells ds=>
   obtain⟨b,ws,b1,b2,b3⟩:=hb;exact⟨b,ws,(hρn γ).trans b1,b2,b3.1,λi d v g1 g2=>(b3.2 i d v g1 g2).fr (zeN hok g1) hlook⟩
  | els n es=>
   obtain⟨b1,b2⟩:=hb;refine⟨b1,?_⟩;rcases b2 with⟨b2,b3⟩| ⟨b,ws,b2,b3,b4⟩
   .exact .inl ⟨b2,(hρn γ).trans b3⟩
   .exact .inr ⟨b,ws,(hρn γ).trans b2,b3,hels n es ws hok b4⟩
  | grow n es=>
   obtain⟨b1,b2⟩:=hb;refine⟨b1,?_⟩;rcases b2 with⟨b2,b3⟩| ⟨b0,b,ws,b2,b3,b4⟩
   .exact .inl ⟨b2,(hρn γ).trans b3⟩
   .exact .inr ⟨b0,b,ws,(hρn γ).trans b2,b3,hels n es ws hok b4⟩
  | gone=>exact(hρn γ).trans hb
  | _=>exact hok.elim
 refine zgx ⟨by rw[qak]; exact hus.1,λi d v g1 g2=>?_⟩;rw[qa6,qal]at g1;obtain⟨d0,g1,rfl⟩:=g1;have hr0:=hus.2 i d0 v g1 g2;have hok:=hT d0 (qaC g1);have one:∀ {d1:D} {v1:V},d1.zGK->R c1 d1 v1->R c' (d1.sh1 L.length) v1:=by
  intro d1 v1 h1 hr1;cases d1 with
  | sl β s k len cap st=>
   show R c' (.sl (L.length+β) s k len cap st) v1;cases hr1 with
   | sl q1 q2=>exact .sl ((hρn β).trans q1) q2
   | slg q1=>exact .slg ((hρn β).trans q1)
  | ptr β o=>
   show R c' (.ptr (L.length+β) o) v1;cases hr1 with
   | ptr q1=>exact .ptr ((hρn β).trans q1)
  | _=>
   rw[zHw h1];exact hr1.fr h1 hlook
 cases d0 with
 | clo f xs ys=>
  show R c' (.clo f xs (ys.map (D.sh1 L.length))) v;cases hr0 with
  | clo q1 q2 q3 q4=>
   refine .clo q1 (by rw[qak]; exact q2) (λk d w e1 e2=>(q3 k d w e1 e2).fr (zeN hok.1 e1) hlook) λk d w e1 e2=>?_
   rw[qa6,qal]at e1;obtain⟨d1,e1,rfl⟩:=e1;exact one (hok.2 d1 (qaC e1)) (q4 k d1 w e1 e2)
 | _=>exact(λhk=>one hk hr0) hok
def zBK(rs:List RX)(ds:List D)(Ls:List LB):LX->LSt->Prop:=λx S'=>(x=.ret\/x=.normal)/\∃ S2,zbi 0 S' S2/\zfQ S2.heap S2.env rs=some ds/\S2.heap=Ls
variable{rs:List RX}{Ls:List LB}
theorem zBK.ret{ds:List D}(S2:LSt)(hw:zbi 0 S S2)(h:zfQ S2.heap S2.env rs=some ds)(hs:S2.heap=Ls):zBK rs ds Ls .ret S:=⟨.inl rfl,S2,hw,h,hs⟩
theorem FnT.intro{f:Nat}{fn:Mx.Fn}{args ds:List D}{Ls:List LB}(hf:fns.has f fn)(hN:args.length<=fn.N)(hp:fn.p=false)
  (h:EvL fns 0 [.code fn.c] ⟨fn.N,zeY 0 args,[]⟩ (zBK fn.rs ds Ls)):FnT fns f args ds Ls:=by
 intro z B H vs hz hB hr;have hH:RelH ⟨z,λ_=>none,λ_=>none,H.length⟩ [] H:=⟨qap _,λb cs hb=>⟨(qab.1 (hz b cs hb)).1,hz b cs hb⟩,λb cs hb=>(by cases hb),λβ x b hx=>(by cases hx),λβ β' x x' b hx=>(by cases hx),λβ x hx=>(by cases hx),λβ o ho=>(by simp at ho)⟩;have hrel:=zjP hH hr hN;have hN':vs.length<=fn.N:=by rw[<- hr.1]; exact hN
 have post:EvC fns B none fn.c ⟨vs ++ List.replicate (fn.N - vs.length) zbc,[],H⟩ λex M'=>(ex=.ret\/ex=.normal)/\∃ H2:zam,Leaves B M'.dfs M'.heap H2/\∃ us,zcL H2 M'.env fn.rs=some us /\
   H.length<=H2.length/\(∀ b:Nat,b<H.length->H2[b]? = H[b]?)/\∃ c':Cx,c'.za=z/\c'.base=H.length/\RelH c' Ls H2/\Rs c' ds us:=by
  refine EvC.mono (h _ H _ B none _ (zCW.none _) (Way.start _ _ _ _) hrel hB) ?_;intro ex M' hx;have hx':=zg9 hx;obtain⟨c0,S',x,h1,h2,h3,h4,S2,hw,h5,h6⟩:=hx';have hex:ex=.ret\/ex=.normal:=by
   grind [Go.Lx.XR]
  obtain⟨c',k1,k2,k3⟩:=hw c0 M' h2;have h1:Way _ _ _ c' M':=⟨h1.step.trans k2,h1.le.trans k3,h1.dfs⟩;have h2:=k1;obtain⟨H2,l1,l2,l3⟩:=h1.leave h2.heap hB;have h2':Rel c' S2 { M' with heap:=H2 }:=⟨h2.env,h2.len,l2⟩
  grind [zen,Go.Lx.Step]
 obtain⟨N,ex,S',h1,h2,H2,h3,us,h4,h5,h6,c',h7,h8,h9,h10⟩:=post;exact EvF.plain hf hp hN' ⟨N,ex,S',h1,h2,H2,h3,us,h4,h5,h6,us,c',rfl,h7,h8,h9,h10⟩
theorem FnT.of{m:Mach}{f N:Nat}{cm:C}{args ds:List D}(h:zt6 m f=some (N,cm,rs,false))(ho:∀ B args hp,m.orc B f args hp=none)(hN:args.length<=N)(hb:EvL m 0 [.code cm] ⟨N,zeY 0 args,[]⟩ (zBK rs ds Ls)):FnT m f args ds Ls:=by
 grind [zjM,FnT.intro,EvL.zh0]
end
end Go.Lx
namespace Go.Dc
open Go Go.Mx Go.Lx
def zGU:List D->Prop
 | []=>True
 | d :: r=>d.okT/\zGU r
theorem zr7:∀ {ds:List D},zGU ds->∀ d∈ds,d.okT
 | [],_,d,h=>by cases h
 | e :: r,hs,d,h=>by
  rcases qav.1 h with rfl | h
  .exact hs.1
  exact zr7 hs.2 d h
def zHv:List LB->Prop
 | []=>True
 | d :: r=>d.okT/\zHv r
theorem zso:∀ {ds:List LB},zHv ds->∀ d∈ds,d.okT
 | [],_,d,h=>by cases h
 | e :: r,hs,d,h=>by
  rcases qav.1 h with rfl | h
  .exact hs.1
  exact zso hs.2 d h
theorem zwA{α:Type}{t:Bool}{n:Nat}(e:En α)(h:∀ x,D.frs (e.c t x))(xs:List α):(LB.grow n (xs.map (e.c t))).okT:=by
 grind [Go.Lx.LB.okT]
theorem EvL.fnT{fns:Mach}{k0:Nat}{Q:LX->LSt->Prop}{S:LSt}{bar e:Bool}{k:List K}{d:Option Nat}{f:Nat}{xs:List X}{g:Option (Nat×Bool)}{l:List O}{ds args rs:List D}{Ls L':List LB}{r:D}(hf:FnT fns f args rs Ls)
  (hw:zbB S.env g=some true) (hx:zhj S.env xs=some ds) (hz:Mzs S.heap (λ_=>false) ds args) (hfr:D.frs args) (hT:zGU rs) (hL:zHv Ls) (hr:zdX (rs.map (D.sh S.heap.length))=r) (hh:S.heap ++ Ls=L')
  (hk:wp fns k0 (.ops bar e l :: k) (LSt.put ⟨S.N,S.env,L'⟩ d r) Q):EvL fns k0 (.ops bar e (⟨d,.call f xs,g⟩:: l):: k) S Q:=by
 refine EvL.call (Qp1:=λ_ _=>False) hw hx (λc B H vs hH hB hv=>(hf.call hfr (zr7 hT) (zso hL) (zrn bar _) (λ_ _=>False)) c B H vs hH hB ⟨by rw[<- hz.len]; exact hv.1,λi d' v h1 h2=>?_⟩) (λq M h=>by obtain⟨rfl,rfl⟩:=h; rw[hr,hh]; exact hk) λ_ _ h=>h.elim
 have hi:=(qab.1 h1).1;have hi0:ds[i]? = some (ds[i]'(by have:=hz.len; omega)):=qac _;have hm:=znM (kp:=λ_=>true) hH (hz.get i _ d' hi0 h1) (Und.refl c) (hv.2 i _ v hi0 h2);rw[zus]at hm;exact hm.zu7 hH.apart
end Go.Dc
namespace Go.Dc
open Go Go.Mx Go.Lx Go.Proofs
theorem zHI{f N:Nat}{cm:C}{rs:List RX}{args ds:List D}{Ls:List LB}(h:zxA Tryz.prog f=some (N,cm,rs,false))(hb:EvL mC 0 [.code cm] ⟨N,zeY 0 args,[]⟩ (zBK rs ds Ls))(ho:isO f=false:=by rfl)(hN:Nat.ble args.length N=true:=by rfl):FnT mC f args ds Ls:=
 FnT.of (zGH h) (zeD ho) (qad hN) hb
end Go.Dc
