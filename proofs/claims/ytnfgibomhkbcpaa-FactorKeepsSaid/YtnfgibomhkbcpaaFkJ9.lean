/-
 Plain laws: Keep and Total; FactorKeeps. Conditions: none.
-/
import Derived.Test.YtnfgibomhkbcpaaFkJ8
import Derived.Test.YtnfgibomhkbcpaaFkQ6
set_option linter.unusedSimpArgs false
set_option linter.unusedVariables false
set_option maxRecDepth 100000
namespace Go.Dc
open Go Go.Mx Go.Lx
def upB:List Int→Bool
 | x :: y :: r=>decide (x<y) && upB (y :: r)
 | _=>true
def zlB(f:Fc)(xs:List Int):Bool:=xs.all fun x=>(zfn (iL f.vs) x).isSome
theorem zrm(x y:Int):decide (y≤x)=!decide (x<y):=by
 by_cases h:x<y
 ·rw[decide_eq_true h]; exact decide_eq_false (by omega)
 rw[decide_eq_false h]; exact decide_eq_true (by omega)
theorem zmf{i:Nat}(h:1≤i)(h2:i≤100000):w64 ((i:Int) - 1)=((i - 1:Nat):Int):=by
 rw[zeb (by omega) (by omega)]; omega
theorem znV{xs:List Int}(hl:xs.length≤1000):∀(n i:Nat),1≤i→xs.length - i<n→zbz xs n (i:Int)=some (bif upB (xs.drop (i - 1))then .go ()else .ret (noF,2))
 | 0,_,_,h=>absurd h (qaw _)
 | n+1,i,h1,hn=>by
  unfold zbz;rw[zpS];by_cases h:i<xs.length
  ·have e:xs.drop (i - 1)=xs[i - 1]:: xs[i]:: xs.drop (i+1):=by
    rw[qak (show i - 1<xs.length by omega),show i - 1+1=i by omega,qak h]
   have ih:=znV hl n (i+1) (by omega) (by omega);rw[show i+1 - 1=i by omega,qak h]at ih;rw[decide_eq_true h,cond_true,zaG h,qab,zmf h1 (by omega),zaG (show i - 1<xs.length by omega),qab,zrm,zaI (by omega),ih,e];rw[show upB (xs[i - 1]:: xs[i]:: xs.drop (i+1))=(decide (xs[i - 1]<xs[i]) && upB (xs[i]:: xs.drop (i+1)))from rfl];cases decide (xs[i - 1]<xs[i])<;> rfl
  rw[decide_eq_false h,cond_false];have:upB (xs.drop (i - 1))=true:=by
   rcases qaF (i - 1) xs.length with h3 | h3
   ·rw[qak h3,qbc (by omega)]; rfl
   rw[qbc h3]; rfl
  rw[this,cond_true]
theorem zoh{f:Fc}(hf:FcOk f){e:Int}{xs:List Int}(hl:xs.length≤1000):∀(n i:Nat),i≤xs.length→xs.length - i<n→zbw xs (f.T,e) n (i:Int)=some (bif zlB f (xs.drop i)then .go ()else .ret (noF,4))
 | 0,_,_,h=>absurd h (qaw _)
 | n+1,i,h1,hn=>by
  unfold zbw;rcases qaF i xs.length with h | h
  ·rw[zjn h,cond_true,zaG h,qab];simp only[];rw[zoO hf,qab,zoi,zaI (by omega),zoh hf hl n (i+1) h (by omega),qak h,show zlB f (xs[i]:: xs.drop (i+1))=((zfn (iL f.vs) xs[i]).isSome && zlB f (xs.drop (i+1)))from rfl];cases(zfn (iL f.vs) xs[i]).isSome<;>rfl
  obtain rfl:i=xs.length:=by omega
  rw[zja,cond_false,qaC];rfl
theorem zti{f:Fc}{xs:List Int}(h1:upB xs=true)(h2:zlB f xs=true):∃ us,xs=iL us∧Sel f us:=by
 have key:∀ {xs:List Int},upB xs=true→zlB f xs=true→∃ us,xs=iL us∧us.Pairwise (· < ·)∧∀ u∈us,u∈f.vs:=by
  intro xs;induction xs with
  | nil=>exact fun _ _=>⟨[],rfl,.nil,fun u hu=>by simp at hu⟩
  | cons x r ih=>
   intro h1 h2;rw[show zlB f (x :: r)=((zfn (iL f.vs) x).isSome && zlB f r)from rfl,qaf]at h2;obtain⟨k,hk⟩:=qaH.1 h2.1;obtain⟨u,rfl,hu⟩:=zqo hk;have hm:u∈f.vs:=by
    obtain⟨hk2,e⟩:=zg3 hu;exact e ▸ qbe hk2
   have h3:upB r=true:=by
    cases r with
    | nil=>rfl
    | cons y r=>
     rw[show upB ((u:Int):: y :: r)=(decide ((u:Int)<y) && upB (y :: r))from rfl,qaf]at h1;exact h1.2
   obtain⟨us,rfl,h4,h5⟩:=ih h3 h2.2;refine⟨u :: us,rfl,qa0.2 ⟨?_,h4⟩,List.forall_mem_cons.2 ⟨hm,h5⟩⟩;cases us with
   | nil=>exact fun a ha=>by simp at ha
   | cons y ys=>
    rw[show upB ((u:Int):: iL (y :: ys))=(decide ((u:Int)<(y:Int)) && upB (iL (y :: ys)))from rfl,qaf]at h1;have hy:u<y:=by have:=of_decide_eq_true h1.1; omega
    intro a ha;rcases qaL.1 ha with rfl | ha
    ·exact hy
    exact Nat.lt_trans hy ((qa0.1 h4).1 a ha)
 obtain⟨us,h3,h4,h5⟩:=key h1 h2;exact⟨us,h3,h4,h5⟩
theorem zo8{f:Fc}(hf:FcOk f){xs:List Int}(hl:xs.length≤1000):zaM f.D xs=(bif upB xs then bif zlB f xs then(zdg 8 xs).bind fun y16=>(zau f.T y16).bind fun r18=>some (r18.1,r18.2)else some (noF,4)else some (noF,2)):=by
 unfold zaM;rw[zot hf,qab];simp only[];have h1:=znV hl (((xs.length:Int) - 1+2).toNat) 1 (qai _) (by omega);rw[show((0:Int)== 0)=true from rfl,cond_true,show zbz xs (((xs.length:Int) - 1+2).toNat) 1=_ from h1,qab,show 1 - 1=0 from rfl,qaK];cases upB xs with
 | false=>rfl
 | true=>
  have h2:=zoh hf (e:=0) hl (xs.length+2) 0 (qaQ _) (by omega);rw[cond_true,cond_true];simp only[];rw[zbb,show zbw xs (f.T,0) (xs.length+2) 0=_ from h2,qab,qaK];cases zlB f xs<;>rfl
theorem zqO{x:S_api_Factor}(h:zk6 x=false)(xs:List Int):zaM x xs=some (noF,30):=by
 unfold zaM;rw[zop h,qab];rfl
theorem zqD{f:Fc}(hf:FcOk f){us:List Nat}(hs:Sel f us)(h1:upB (iL us)=true)(h2:zlB f (iL us)=true):zaM f.D (iL us)=some (ztS (gat false f us) f us):=by
 have hl:=zfG hf hs;rw[zo8 hf (by rw[zaS]; omega),h1,h2,cond_true,cond_true,zqG (by rw[zaS]; omega),qab,zmT hf hs,qab];cases gat false f us<;>rfl
theorem zr3(f:Fc):Sel f []:=⟨.nil,fun u hu=>by simp at hu⟩
theorem zrY{f:Fc}{b:Bool}{l:List Nat}(h:gat b f []=some l):l.length=1:=(zhB h).trans (by simp[cof,zai])
theorem zn7{f:Fc}(hf:FcOk f):zbm f.D=some (match gat false f []with | some l=>(((l.getD 0 0:Nat):Int),0)| none=>(0,6)):=by
 unfold zbm;rw[zot hf,qab];simp only[];rw[show((0:Int)== 0)=true from rfl,cond_true,show([]:List Int)=iL []from rfl,zmT hf (zr3 f),qab];cases h:gat false f []with
 | none=>rfl
 | some l=>
  have hl:=zrY h;show(za4 (iL l) ((0:Nat):Int)).bind _=_;rw[zd1 (by omega)];rfl
theorem zpb{x:S_api_Factor}(h:zk6 x=false):zbm x=some (0,30):=by
 unfold zbm;rw[zop h,qab];rfl
theorem ztC(f:Fc)(i:Nat):ix f [] i=0:=rfl
theorem zs3{f:Fc}(hf:FcOk f):∀(m i n s:Nat),i+m=zai f.cs→s≤zgG→m<n→zbM f.D n (s:Int) (i:Int)=some (match zfz false f [] m i [s]with | some l=>.go ((l.getD 0 0:Nat):Int)| none=>.ret (0,false))
 | _,_,0,_,_,_,h=>absurd h (qaw _)
 | 0,i,n+1,s,h,_,_=>by
  unfold zbM;obtain rfl:i=zai f.cs:=by omega
  rw[show f.D.w=iL f.ws from rfl,zaS,hf.size,zja,cond_false];rfl
 | m+1,i,n+1,s,h,hs,hn=>by
  have hi:i<zai f.cs:=by omega
  have hp:=hf.prod;have h1:s≤4611686018427387903:=hs;have h2:f.get i≤4611686018427387903:=Fc.zo1 hf i;unfold zbM;rw[show f.D.w=iL f.ws from rfl,zaS,hf.size,zjn hi,cond_true,show za4 (iL f.ws) (i:Int)=some ((f.get i:Nat):Int)from zrS hf hi,qab,← Int.natCast_add,zcj (by omega),zq2];unfold zfz;rw[ztC,show gop false ([s].getD 0 0) (f.get i)=s+f.get i from rfl,show [s].set 0 (s+f.get i)=[s+f.get i]from rfl];cases hd:decide (s+f.get i≤zgG)with
  | false=>rfl
  | true=>
   rw[qaP,cond_false,cond_true,zaI (by omega)];exact zs3 hf m (i+1) n _ (by omega) (of_decide_eq_true hd) (by omega)
theorem zmn{f:Fc}(hf:FcOk f):zdC f.D=some (match gat false f []with | some l=>(((l.getD 0 0:Nat):Int),true)| none=>(0,false)):=by
 unfold zdC;have hp:=hf.prod;have h:=zs3 hf (zai f.cs) 0 (zai f.cs+2) 0 (by omega) (qaQ _) (by omega);rw[show f.D.w=iL f.ws from rfl,zaS,hf.size,zbb,show zbM f.D (zai f.cs+2) 0 0=_ from h,qab];unfold gat;rw[show List.replicate (zai (cof f [])) 0=[0]from rfl];cases zfz false f [] (zai f.cs) 0 [0]<;>rfl
theorem zqK(xs:List Int)(k:Nat):zfo xs 0 (zlO (xs.length:Int) (k:Int))=some (xs.take (min xs.length k)):=by
 have hm:zlO (xs.length:Int) (k:Int)=((min xs.length k:Nat):Int):=by unfold zlO; split<;>omega
 rw[hm];unfold zfo;rw[if_pos ⟨qbo _,qbD _,by omega⟩,qaI];simp
theorem zsp(x:S_api_Factor):∃ y,zeT x=some y∧y.vars.length≤1000:=by
 have c1:=zqK x.vars 4;have c2:=zqK x.cards 4;have c3:=zqK x.w 40;unfold zeT;rw[show zlO (x.vars.length:Int) 4=zlO (x.vars.length:Int) ((4:Nat):Int)from rfl,c1,qab,show zlO (x.cards.length:Int) 4=zlO (x.cards.length:Int) ((4:Nat):Int)from rfl,c2,qab,show zlO (x.w.length:Int) 40=zlO (x.w.length:Int) ((40:Nat):Int)from rfl,c3,qab];refine⟨_,rfl,?_⟩;simp only[qa5];omega
section
variable {x:S_api_Factor} {p3:Int}
theorem zls(hx:x.vars.length≤1000):∀(n i:Nat) (acc:List Int),i≤x.vars.length→acc.length≤i→x.vars.length - i<n→∃ zs,zaZ x p3 n (i:Int) acc=some zs∧zs.length≤1000
 | 0,_,_,_,_,h=>absurd h (qaw _)
 | n+1,i,acc,hi,ha,hn=>by
  unfold zaZ;rcases qaF i x.vars.length with h | h
  ·obtain⟨q,hq⟩:∃ q,zmH .u8 p3 (i:Int)=some q:=by unfold zmH; rw[if_pos (qbD i)]; exact⟨_,rfl⟩
   rw[zjn h,cond_true,zaG h,qab,hq,qab];cases(znr .u8 q 1 == 1)with
   | true=>
    rw[cond_true,znY (by simp; omega),qab,qab,zaI (by omega)];exact zls hx n (i+1) _ h (by simp; omega) (by omega)
   | false=>
    rw[cond_false,qab,zaI (by omega)];exact zls hx n (i+1) _ h (by omega) (by omega)
  obtain rfl:i=x.vars.length:=by omega
  rw[zja,cond_false];exact⟨_,rfl,by omega⟩
end
theorem zsF{xs:List Int}(hl:xs.length≤1000):∀(n i:Nat) (v:Int),1≤i→xs.length - i<n→zaN xs n v (i:Int)=some (bif upB (xs.drop (i - 1))then v else 2)
 | 0,_,_,_,h=>absurd h (qaw _)
 | n+1,i,v,h1,hn=>by
  unfold zaN;rw[zpS];by_cases h:i<xs.length
  ·have e:xs.drop (i - 1)=xs[i - 1]:: xs[i]:: xs.drop (i+1):=by
    rw[qak (show i - 1<xs.length by omega),show i - 1+1=i by omega,qak h]
   rw[decide_eq_true h,cond_true,show decide ((0:Int)<(i:Int))=true from decide_eq_true (by omega),cond_true,zaG h,qab,zmf h1 (by omega),zaG (show i - 1<xs.length by omega),qab,qab,zrm,zaI (by omega),e];rw[show upB (xs[i - 1]:: xs[i]:: xs.drop (i+1))=(decide (xs[i - 1]<xs[i]) && upB (xs[i]:: xs.drop (i+1)))from rfl];have ih:=fun v=>zsF hl n (i+1) v (by omega) (by omega)
   rw[show i+1 - 1=i by omega,qak h]at ih;cases decide (xs[i - 1]<xs[i])with
   | true=>rw[qaP,cond_false,qab,ih,qaS]
   | false=>
    rw[qbk,cond_true,qab,ih,Bool.false_and,cond_false];cases upB (xs[i]:: xs.drop (i+1))<;> rfl
  rw[decide_eq_false h,cond_false];have:upB (xs.drop (i - 1))=true:=by
   rcases qaF (i - 1) xs.length with h3 | h3
   ·rw[qak h3,qbc (by omega)]; rfl
   rw[qbc h3]; rfl
  rw[this,cond_true]
theorem zmA{xs:List Int}(hl:xs.length≤1000):zaN xs (xs.length+2) 0 0=some (bif upB xs then 0 else 2):=by
 cases xs with
 | nil=>rfl
 | cons x r=>
  have h:=zsF hl ((x :: r).length+1) 1 0 (qai _) (by omega);unfold zaN;rw[show(decide ((0:Int)<((x :: r).length:Int)))=true from decide_eq_true (by simp),cond_true,show decide ((0:Int)<0)=false from rfl,cond_false,qab,cond_false,qab,show w64 (0+1)=((1:Nat):Int)from rfl];exact h
theorem ztL{f:Fc}(hf:FcOk f){xs:List Int}(hl:xs.length≤1000):∀(n i:Nat) (v:Int),i≤xs.length→xs.length - i<n→zaA xs f.D n v (i:Int)=some (bif v == 0 then(bif zlB f (xs.drop i)then 0 else 4)else v)
 | 0,_,_,_,h=>absurd h (qaw _)
 | n+1,i,v,hi,hn=>by
  unfold zaA;rcases qaF i xs.length with h | h
  ·have ih:=fun v=>ztL hf hl n (i+1) v h (by omega)
   rw[zjn h,cond_true,zaG h,qab,zaI (by omega),qak h,show zlB f (xs[i]:: xs.drop (i+1))=((zfn (iL f.vs) xs[i]).isSome && zlB f (xs.drop (i+1)))from rfl];cases hv:(v == 0)with
   | false=>
    rw[cond_false,qab,cond_false,qab,ih,hv,cond_false,cond_false]
   | true=>
    rw[cond_true,zqZ hf,qab,zoi,qab];cases(zfn (iL f.vs) xs[i]).isSome with
    | true=>rw[qaP,cond_false,qab,ih,hv,cond_true,cond_true,qaS]
    | false=>
     rw[qbk,cond_true,qab,ih,cond_true,Bool.false_and,cond_false];rfl
  obtain rfl:i=xs.length:=by omega
  rw[zja,cond_false,qaC];cases hv:(v == 0)with
  | false=>rfl
  | true=>rw[beq_iff_eq.1 hv]; rfl
theorem zob{x:S_api_Factor}(hx:x.vars.length≤1000){xs:List Int}(hl:xs.length≤1000):∀(n i:Nat) (v:Int),i≤xs.length→xs.length - i<n→∃ r,zaA xs x n v (i:Int)=some r
 | 0,_,_,_,h=>absurd h (qaw _)
 | n+1,i,v,hi,hn=>by
  unfold zaA;rcases qaF i xs.length with h | h
  ·have ih:=fun v=>zob hx hl n (i+1) v h (by omega)
   rw[zjn h,cond_true,zaG h,qab,zaI (by omega),znZ (by omega),qab];cases(v == 0)with
   | false=>rw[cond_false,qab,cond_false,qab]; exact ih v
   | true=>
    rw[cond_true,qab];cases decide (ixZ (zfn x.vars xs[i])<0)with
    | true=>rw[cond_true,qab]; exact ih 4
    | false=>rw[cond_false,qab]; exact ih v
  obtain rfl:i=xs.length:=by omega
  rw[zja,cond_false];exact⟨_,rfl⟩
section
variable {y4 l1:List Int} {x:S_api_Factor}
theorem zpx(h4:y4.length≤1000)(h1:l1.length≤1000)(hx:x.vars.length≤1000)(n i:Nat)(hi:i<2):zaO y4 l1 x (n+1) (zk6 x) (i:Int)=zaO y4 l1 x n (zk6 x) ((i+1:Nat):Int):=by
 conv=>lhs; unfold zaO
 obtain⟨xs,hz,hxs⟩:∃ xs,za4 [y4,l1] (i:Int)=some xs∧xs.length≤1000:=by
  have hi2:i < [y4,l1].length:=by simpa using hi
  refine⟨_,zaG hi2,?_⟩;have:[y4,l1][i]=y4∨[y4,l1][i]=l1:=by
   rcases qaF i 1 with h | h
   ·obtain rfl:i=0:=by omega
    exact .inl rfl
   obtain rfl:i=1:=by omega
   exact .inr rfl
  rcases this with e | e<;>rw[e]<;>assumption
 rw[show decide ((i:Int)<2)=true from decide_eq_true (by omega),cond_true,hz,qab,zaI (by omega)];have e00:((0:Int)== 0)=true:=rfl;rcases zqT x with ha | ⟨f,hf,rfl⟩
 ·obtain⟨r,hr⟩:=zob (v:=bif upB xs then 0 else 2) hx hxs (xs.length+2) 0 (qaQ _) (by omega);have t:=zhx (x:=noF) (y:=noF) zjZ (c:=30) (d:=30) rfl rfl;have e30:((30:Int)== 0)=false:=rfl;have hr2:zaA xs x (xs.length+2) (bif upB xs then 0 else 2) 0=some r:=hr;simp only[zqO ha,zmA hxs,zbb,hr2,ha,qab,cond_true,cond_false,e30,t]
 have hfb:=zld hf;have hp:=fun v=>ztL hf hxs (xs.length+2) 0 v (qaQ _) (by omega)
 have hp2:∀ v,zaA xs f.D (xs.length+2) v 0=some (bif v == 0 then(bif zlB f xs then 0 else 4)else v):=fun v=>hp v
 cases hu:upB xs with
 | false=>
  have t:=zhx (x:=noF) (y:=noF) zjZ (c:=2) (d:=2) rfl rfl;have e20:((2:Int)== 0)=false:=rfl;have hk:zaM f.D xs=some (noF,2):=by rw[zo8 hf hxs,hu]; rfl
  simp only[hk,zmA hxs,zbb,hp2,hu,hfb,qab,cond_true,cond_false,e20,t]
 | true=>
  cases hq:zlB f xs with
  | false=>
   have t:=zhx (x:=noF) (y:=noF) zjZ (c:=4) (d:=4) rfl rfl;have e40:((4:Int)== 0)=false:=rfl;have hk:zaM f.D xs=some (noF,4):=by rw[zo8 hf hxs,hu,hq]; rfl
   simp only[hk,zmA hxs,zbb,hp2,hu,hq,hfb,qab,cond_true,cond_false,e00,e40,t]
  | true=>
   obtain⟨us,rfl,hs⟩:=zti hu hq;obtain⟨c,t1,t2⟩:=zpR hf hs;simp only[zqD hf hs hu hq,zmA hxs,zbb,hp2,hu,hq,hfb,zsk hf hs,t1,t2,qab,cond_true,cond_false,e00]
theorem zsH(h4:y4.length≤1000)(h1:l1.length≤1000)(hx:x.vars.length≤1000):zaO y4 l1 x (2 - 0+2:Int).toNat (zk6 x) 0=some (.go ()):=by
 have e:(2 - 0+2:Int).toNat=4:=rfl;rw[e,show(0:Int)=((0:Nat):Int)from rfl,zpx h4 h1 hx 3 0 (by decide),zpx h4 h1 hx 2 1 (by decide)];rfl
end
section
variable {r6 r8:S_api_Factor} {p3:Int} {y4:List Int}
theorem zif(h4:y4.length≤1000)(h6:r6.vars.length≤1000)(h8:r8.vars.length≤1000)(n i:Nat)(hi:i<2):zaP r6 r8 p3 y4 (n+1) (i:Int)=zaP r6 r8 p3 y4 n ((i+1:Nat):Int):=by
 conv=>lhs; unfold zaP
 obtain⟨x,hz,hx⟩:∃ x,za4 [r6,r8] (i:Int)=some x∧x.vars.length≤1000:=by
  have hi2:i < [r6,r8].length:=by simpa using hi
  refine⟨_,zaG hi2,?_⟩;have:[r6,r8][i]=r6∨[r6,r8][i]=r8:=by
   rcases qaF i 1 with h | h
   ·obtain rfl:i=0:=by omega
    exact .inl rfl
   obtain rfl:i=1:=by omega
   exact .inr rfl
  rcases this with e | e<;>rw[e]<;>assumption
 obtain⟨zs,hzs,hzl⟩:=zls (p3:=p3) hx (x.vars.length+2) 0 [] (qaQ _) (qai _) (by omega);have hzs2:zaZ x p3 (x.vars.length+2) 0 []=some zs:=hzs;have ka:=zsH h4 hzl hx;rw[show decide ((i:Int)<2)=true from decide_eq_true (by omega),cond_true,hz,qab,zaI (by omega),zbb,hzs2,qab];rcases zqT x with ha | ⟨f,hf,rfl⟩
 ·rw[ha]at ka;have e0:((0:Int)== 0)=true:=rfl;have e30:(!((30:Int)== 30))=false:=rfl;simp only[zpb ha,zlK,ha,qab,cond_true,cond_false,e0,e30,ka]
 have hfb:=zld hf;rw[hfb]at ka;have e0:((0:Int)== 0)=true:=rfl;cases hg:gat false f []with
 | none=>
  have b1:zdO false=some 6:=rfl;have e6:((6:Int)== 6)=true:=rfl;simp only[zn7 hf,zmn hf,hg,zlK,hfb,b1,qab,cond_true,cond_false,e0,e6,qaP,ka]
 | some l=>
  have b1:zdO true=some 0:=rfl;have e6:(((l.getD 0 0:Nat):Int)==((l.getD 0 0:Nat):Int))=true:=beq_self_eq_true _;simp only[zn7 hf,zmn hf,hg,zlK,hfb,b1,qab,cond_true,cond_false,e0,e6,qaP,ka]
theorem zpn(h4:y4.length≤1000)(h6:r6.vars.length≤1000)(h8:r8.vars.length≤1000):zaP r6 r8 p3 y4 (2 - 0+2:Int).toNat 0=some (.go ()):=by
 have e:(2 - 0+2:Int).toNat=4:=rfl;rw[e,show(0:Int)=((0:Nat):Int)from rfl,zif h4 h6 h8 3 0 (by decide),zif h4 h6 h8 2 1 (by decide)];rfl
end
theorem zlU(hw:zcX=some true)(p0:S_api_Factor)(p1:List Int){p2:S_haruspexref03_Draft}(h2:DrOk p2)(p3:Int):zcf 5000 p0 p1 p2 p3=some true:=by
 obtain⟨y0,e0,h0⟩:=zsp p0;obtain⟨w,n,hw2,_,e2⟩:=h2.s;have h8:(drF w n p2.large).D.vars.length≤1000:=by
  show(iL (drV w)).length≤1000;rw[zaS];have:=List.length_filter_le w.testBit (List.range' 0 5);unfold drV;rw[List.length_range']at this;omega
 have c:=zqK p1 5;have hc:(p1.take (min p1.length 5)).length≤1000:=by rw[qa5]; omega
 unfold zcf;rw[hw,qab,cond_true,show zlO (p1.length:Int) 5=zlO (p1.length:Int) ((5:Nat):Int)from rfl,c,qab,e0,qab,e2,qab,zpn hc h0 h8];rfl
def zsr(x:Int):List Int→List Int
 | []=>[x]
 | y :: ys=>bif decide (x≤y)then x :: y :: ys else y :: zsr x ys
def zs9:List Int→List Int
 | []=>[]
 | x :: xs=>zsr x (zs9 xs)
theorem zhL(x:Int):∀ ys,(zsr x ys).Perm (x :: ys)
 | []=>.refl _
 | y :: ys=>by
  unfold zsr;cases decide (x≤y)with
  | true=>exact .refl _
  | false=>exact((zhL x ys).cons y).trans (.swap x y ys)
theorem zk2:∀ xs,(zs9 xs).Perm xs
 | []=>.refl _
 | x :: xs=>(zhL x _).trans ((zk2 xs).cons x)
theorem zpK(x:Int):∀ {ys:List Int},ys.Pairwise (· ≤ ·)→(zsr x ys).Pairwise (· ≤ ·)
 | [],_=>List.pairwise_singleton _ _
 | y :: ys,h=>by
  obtain⟨h1,h2⟩:=qa0.1 h;unfold zsr;cases hd:decide (x≤y)with
  | true=>
   have:=of_decide_eq_true hd;refine qa0.2 ⟨fun z hz=>?_,h⟩;rcases qaL.1 hz with rfl | hz
   ·exact this
   ·exact Int.le_trans this (h1 z hz)
  | false=>
   have:=of_decide_eq_false hd;refine qa0.2 ⟨fun z hz=>?_,zpK x h2⟩;rcases qaL.1 ((zhL x ys).mem_iff.1 hz)with rfl | hz
   ·omega
   exact h1 z hz
theorem zoF:∀ xs,(zs9 xs).Pairwise (· ≤ ·)
 | []=>.nil
 | x :: xs=>zpK x (zoF xs)
theorem zqm:zgW=zs9:=by
 funext xs
 refine List.Perm.eq_of_pairwise (le:=fun a b:Int=>a≤b) (fun a b _ _ h1 h2=>Int.le_antisymm h1 h2) ?_ (zoF xs) ((List.mergeSort_perm xs _).trans (zk2 xs).symm);have:=List.pairwise_mergeSort (le:=fun x y:Int=>decide (x≤y)) (fun a b c h1 h2=>by simp at *; omega) (fun a b=>by simp; omega) xs;exact this.imp fun h=>by simpa using h
def ztx(b:Nat)(xs:List Int):Option (List Int):=if xs.length * b≤zap then some (zs9 xs)else none
theorem zqA:zkR=ztx:=by
 funext b xs
 unfold zkR ztx;rw[zqm]
theorem ztf:zcX=some true:=by
 delta zcX zcE zdb
 rw[zqA];decide +kernel
end Go.Dc
