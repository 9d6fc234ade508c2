/-
 Plain laws: a row of a table sums to the grain. Conditions: none.
-/
import Derived.Test.YtnfgibomhkbcpaaNfJ15
import Derived.Test.YtnfgibomhkbcpaaNfJ7
import Derived.Test.YtnfgibomhkbcpaaNfQt
import Derived.Test.YtnfgibomhkbcpaaNfJ11
set_option linter.unusedSimpArgs false
set_option linter.unusedVariables false
namespace Go.Dc
open Go Go.Mx Go.Lx
theorem zqr{xs:List Nat}{i v:Nat}(h:i<xs.length):zfP (iL xs) (i:Int) (v:Int)=some (iL (xs.set i v)):=by
 rw[zeF (by rw[zaq]; exact h)]; simp[iL]
theorem zja(xs ys:List Nat):iL (xs ++ ys)=iL xs ++ iL ys:=by simp[iL]
theorem zqJ:∀ {xs:List Nat} {i k:Nat} (h:i<xs.length),(xs.set i (xs[i]+k)).sum=xs.sum+k
 | [],i,k,h=>absurd h (qam _)
 | x :: xs,0,k,h=>by simp; omega
 | x :: xs,i+1,k,h=>by
  have:=zqJ (xs:=xs) (i:=i) (k:=k) (by simpa using h);simp only[qcP,qbR,List.getElem_cons_succ,this];omega
theorem ziH:∀ {xs:List Nat} {i:Nat} (h:i<xs.length),xs[i]≤xs.sum
 | [],i,h=>absurd h (qam _)
 | x :: xs,0,h=>by simp
 | x :: xs,i+1,h=>by
  have:=ziH (xs:=xs) (i:=i) (by simpa using h);simp only[qbR,List.getElem_cons_succ];omega
theorem zdp{xs0 bs:List Nat}{x:Nat}:zaP (iL (xs0 ++ x :: bs)) ((xs0.length:Nat):Int)=some (x:Int):=by
 rw[za2 (by simp)]; simp
theorem zfA{xs0 bs:List Nat}{x y:Nat}:zfP (iL (xs0 ++ x :: bs)) ((xs0.length:Nat):Int) (y:Int)=some (iL (xs0 ++ y :: bs)):=by
 rw[zqr (by simp)]; simp
theorem zmM{a b:Nat}(hb:0<b):zoO (a:Int) (b:Int)=some ((a % b:Nat):Int):=by
 unfold zoO;have:((b:Int)== 0)=false:=by simp; omega
 rw[this,cond_false]; rfl
theorem zzC{ws:List Nat}{g p c:Nat}(hp:p≤65536)(hc:c≤8):∀(n:Nat) (xs0:List Nat) (k:Nat),xs0.length+k=c→xs0.sum≤7 * xs0.length→k<n →
  ∃ zs:List Nat,zs.length=c∧zs.sum≤7 * c∧zcS (c:Int) (iL ws) (p:Int) n ((xs0.sum:Nat):Int) (xs0.length:Int) (iL (xs0 ++ List.replicate k 0))=some (((zs.sum:Nat):Int),iL zs)
 | 0,_,_,_,_,h=>absurd h (qam _)
 | n+1,xs0,0,h1,h2,h3=>by
  refine⟨xs0,by simpa using h1,by rw[← h1]; simpa using h2,?_⟩;unfold zcS;rw[zar,decide_eq_false (by omega),cond_false];simp
 | n+1,xs0,k+1,h1,h2,h3=>by
  have step:∀ a:Nat,a≤7→∃ zs:List Nat,zs.length=c∧zs.sum≤7 * c∧zcS (c:Int) (iL ws) (p:Int) n (w64 (((xs0.sum:Nat):Int)+(a:Int))) (w64 ((xs0.length:Int)+1)) (iL (xs0 ++ a :: List.replicate k 0))=some (((zs.sum:Nat):Int),iL zs):=by
   intro a ha;obtain⟨zs,e1,e2,e3⟩:=zzC (ws:=ws) (g:=g) hp hc n (xs0 ++ [a]) k (by simp; omega) (by simp; omega) (by omega);refine⟨zs,e1,e2,?_⟩;rw[zao (by omega),← qcm,zaA (by omega),← e3];simp
  unfold zcS;rw[zar,decide_eq_true (by omega),cond_true,zaq,qa6];by_cases h0:0<ws.length
  ·have hq:(p+xs0.length) % ws.length<ws.length:=qbm _ h0;obtain⟨zs,e1,e2,e3⟩:=step (ws[(p+xs0.length) % ws.length] % 8) (by omega);refine⟨zs,e1,e2,?_⟩
   rw[show decide ((0:Int)<(ws.length:Int))=true by simpa using h0,cond_true,← qcm,zaA (by omega),zmM h0,qaa,za2 hq,qaa,zdp,
    qaa,show(((ws[(p+xs0.length) % ws.length]:Nat):Int).tmod 8)=((ws[(p+xs0.length) % ws.length] % 8:Nat):Int)from rfl,zaA (by omega),zfA,
    qaa,qaa,zdp,qaa,e3]
  obtain⟨zs,e1,e2,e3⟩:=step 0 (by omega);refine⟨zs,e1,e2,?_⟩;rw[show decide ((0:Int)<(ws.length:Int))=false by simpa using h0,cond_false,qaa,zdp,qaa,e3]
theorem zy3{g t c:Nat}(hg:g≤60)(hc:c≤8)(ht:t≤65536):∀(n:Nat) (xs0 bs:List Nat) (m:Nat) (v:Nat),xs0.length+bs.length=c→xs0.sum * t+g * bs.sum≤g * t→bs.sum≤t→xs0.sum≤g→v<c→bs.length<n →
  ∃(zs:List Nat) (v':Nat),zs.length=c∧zs.sum≤g∧v'<c∧zdb (c:Int) (g:Int) (t:Int) n ((g - xs0.sum:Nat):Int) (v:Int) (xs0.length:Int) (iL (xs0 ++ bs))=some (((g - zs.sum:Nat):Int),(v':Int),iL zs)
 | 0,_,_,_,_,_,_,_,_,_,h=>absurd h (qam _)
 | n+1,xs0,[],m,v,h1,h2,h2b,h3,h4,h5=>by
  refine⟨xs0,v,by simpa using h1,h3,h4,?_⟩;unfold zdb;rw[zar,decide_eq_false (by simp at h1; omega),cond_false];simp
 | n+1,xs0,b :: bs,m,v,h1,h2,h2b,h3,h4,h5=>by
  simp only[qaD,qbR]at h1 h2 h2b h5;unfold zdb;rw[zar,decide_eq_true (by omega),cond_true,zdp,qaa];by_cases h0:0<b
  ·have hb:b≤t:=by omega
   have hgb:g * b≤60 * 65536:=qbQ hg (by omega);have hd:g * b / t * t≤g * b:=Nat.div_mul_le_self _ _;have hs:xs0.sum+g * b / t≤g:=by
    have h6:(xs0.sum+g * b / t)* t≤g * t:=by
     rw[qaP];have:g * (b+bs.sum)=g * b+g * bs.sum:=Nat.mul_add _ _ _;omega
    exact qb6 h6 (by omega)
   obtain⟨zs,v',e1,e2,e3,e4⟩:=zy3 hg hc ht n (xs0 ++ [g * b / t]) bs m xs0.length (by simp; omega) (by
    have:g * (b+bs.sum)=g * b+g * bs.sum:=Nat.mul_add _ _ _
    simp only[List.sum_append,qbR,List.sum_nil,qbH,qaP]; omega) (by omega) (by simpa using hs) (by omega) (by omega)
   refine⟨zs,v',e1,e2,e3,?_⟩;have hq:zsp .i64 (w64 ((g:Int)* (b:Int))) (t:Int)=some ((g * b / t:Nat):Int):=by
    unfold zsp;have:((t:Int)== 0)=false:=by simp; omega
    rw[this,cond_false,← qa4,zaA (by omega)];have hle:g * b / t≤g * b:=qc8 _ _;exact congrArg some (zaA (n:=g * b / t) (by omega))
   rw[show decide ((0:Int)<(b:Int))=true by simpa using h0,cond_true,hq,qaa,zfA,qaa,qaa];simp only[];rw[zdp,qaa,zao (by omega),show(((g - xs0.sum:Nat):Int) - ((g * b / t:Nat):Int))=((g - (xs0.sum+g * b / t):Nat):Int) by omega,zaA (qbC (Nat.sub_le _ _) (by omega)),← e4];simp
  have hb:b=0:=by omega
  subst hb;obtain⟨zs,v',e1,e2,e3,e4⟩:=zy3 hg hc ht n (xs0 ++ [0]) bs m v (by simp; omega) (by simp at h2 ⊢; omega) (by omega) (by simpa using h3) h4 (by omega);refine⟨zs,v',e1,e2,e3,?_⟩;rw[show decide ((0:Int)<((0:Nat):Int))=false from rfl,cond_false,qaa];simp only[];rw[zdp,qaa,zao (by omega),← Int.ofNat_sub (by omega),zaA (by omega),← e4];simp
theorem zvu{ws:List Nat}{g p c:Nat}(hg:g≤60)(hp:p≤65536)(h1:1≤c)(hc:c≤8):
  ∃ zs:List Nat,zs.length=c∧zs.sum=g∧zfm (g:Int) (c:Int) (iL ws) (p:Int)=some (iL zs):=by
 obtain⟨zs,e1,e2,e3⟩:=zzC (ws:=ws) (g:=g) hp hc (c+2) [] c (by simp) (by simp) (by omega);obtain⟨ys,v,f1,f2,f3,f4⟩:=zy3 (g:=g) (t:=zs.sum) (c:=c) hg hc (by omega) (c+2) [] zs 0 0 (by simp[e1]) (by simp) (qaj _) (by simp) (by omega) (by omega);have hv:v<ys.length:=by omega
 refine⟨ys.set v (ys[v]+(g - ys.sum)),by simp[f1],by rw[zqJ]; omega,?_⟩;unfold zfm;have hz:List.replicate c (0:Int)=iL (List.replicate c 0):=by simp[iL]
 simp only[qa5,List.sum_nil,qaK,qcZ]at e3 f4;rw[zey (by omega),qaa,hz,zax];rw[show((0:Nat):Int)=0 from rfl]at e3 f4;rw[e3,qaa];simp only[];rw[f4,qaa];simp only[];rw[za2 hv,qaa,← qcm,zaA,zqr hv,qaa];have:ys[v]≤ys.sum:=ziH hv;omega
theorem zqm{c w:Nat}{os:List Int}{wh:Int}(hc:c≤5):∀(n i:Nat) (acc:List Int),acc.length=i→i≤c→c - i<n →
  ∃ zs:List Int,zs.length=c∧zbi ⟨List.replicate c 0,wh,os⟩ n (i:Int) acc=some zs
 | 0,_,_,_,_,h=>absurd h (qam _)
 | n+1,i,acc,h1,h2,h3=>by
  unfold zbi;simp only[qcz];by_cases hi:i<c
  ·obtain⟨zs,e1,e2⟩:=zqm (w:=w) (os:=os) (wh:=wh) hc n (i+1) (acc ++ [1]) (by simp[h1]) hi (by omega);refine⟨zs,e1,?_⟩
   rw[zar,decide_eq_true hi,cond_true,qaa,show decide ((i:Int)<5)=true by simp; omega,cond_true,zaJ (by simpa using hi),qaa,
    List.getElem_replicate,show w64 (1+w64 ((0:Int).tmod 4))=1 from rfl,zck (by simp; omega),qaa,zao (by omega),e2]
  exact⟨acc,by omega,by rw[zar,decide_eq_false hi,cond_false,qaa,cond_false]⟩
theorem ztq{c N:Nat}{os:List Int}{wh:Int}(hc:c≤5)(hN:6≤N):∃ zs:List Int,zs.length=c∧zbS N ⟨List.replicate c 0,wh,os⟩=some zs:=by
 obtain⟨zs,e1,e2⟩:=zqm (w:=0) (os:=os) (wh:=wh) hc N 0 [] rfl (qay _) (by omega);refine⟨zs,e1,?_⟩;unfold zbS;rw[show((0:Nat):Int)=0 from rfl]at e2;rw[e2,qaa]
structure PermOk (c:Nat) (xs:List Nat):Prop where
 len:xs.length=c
 nod:xs.Nodup
 lt:∀ x∈xs,x<c
 all:∀ x,x<c→x∈xs
theorem zkY{α:Type}{xs:List α}{a b:Nat}(h1:a≤b)(h2:b≤xs.length):zdu xs (a:Int) (b:Int)=some ((xs.drop a).take (b - a)):=by
 unfold zdu;rw[if_pos (by omega)];simp
theorem zuD{c N:Nat}{os:List Nat}{wh:Int}(hc:c≤5)(hN:6≤N)(ho:∀ o∈os,o≤255):∀(n i:Nat) (xs:List Nat),PermOk i xs→i≤c→c - i<n →
  ∃ zs:List Nat,PermOk c zs∧zaD N ⟨List.replicate c 0,wh,iL os⟩ n (i:Int) (iL xs)=some (iL zs)
 | 0,_,_,_,_,h=>absurd h (qam _)
 | n+1,i,xs,h1,h2,h3=>by
  unfold zaD;obtain⟨z0,z1,z2⟩:=ztq (os:=iL os) (wh:=wh) hc hN;rw[z2,qaa,z1];by_cases hi:i<c
  ·have step:∀ q:Nat,q≤i→∃ zs:List Nat,PermOk c zs∧((zdu (iL xs) 0 (q:Int)).bind fun y9=>
     (zeL 8 y9).bind fun y11=>(zcW 8 y9 [(i:Int)]).bind fun y13=>(zdu (iL xs) (q:Int) (iL xs).length).bind fun y15=>(zcW 8 y13 y15).bind fun y17=>
     zaD N ⟨List.replicate c 0,wh,iL os⟩ n (w64 ((i:Int)+1)) y17)=some (iL zs):=by
    intro q hq;have hl:=h1.len;have hp:List.Perm (xs.take q ++ i :: xs.drop q) (i :: xs):=by
     refine List.perm_middle.trans ?_;rw[qcc]
    obtain⟨zs,e1,e2⟩:=zuD (wh:=wh) hc hN ho n (i+1) (xs.take q ++ i :: xs.drop q) ⟨by rw[hp.length_eq]; simp[hl],hp.nodup_iff.2 (qbT.2 ⟨fun hx=>qbM _ (h1.lt _ hx),h1.nod⟩),
     fun x hx=>by
      rcases qaL.1 (hp.mem_iff.1 hx)with h | h
      ·omega
      have:=h1.lt _ h; omega,
     fun x hx=>hp.mem_iff.2 (by
      by_cases hxi:x=i
      ·exact qaL.2 (.inl hxi)
      exact qal _ (h1.all _ (by omega)))⟩ hi (by omega)
    refine⟨zs,e1,?_⟩
    rw[show(0:Int)=((0:Nat):Int)from rfl,zkY (qay _) (by rw[zaq]; omega),qaa,zjt (by simp[zaq]; omega),qaa,
     zck (by simp[zaq]; omega),qaa,zkY (by rw[zaq]; omega) (qaj _),qaa,zck (by simp[zaq]; omega),qaa,zao (by omega),← e2]
    congr 1
    simp[iL,qaJ]
   rw[zar,decide_eq_true hi,cond_true];simp only[zaq (os)];by_cases hio:i<os.length
   ·have hq:os[i] % (i+1)≤i:=Nat.lt_succ_iff.1 (qbm _ (Nat.succ_pos _));have hb:=ho _ (qaq hio);obtain⟨zs,e1,e2⟩:=step _ hq;refine⟨zs,e1,?_⟩;rw[zar,decide_eq_true hio,cond_true,za2 hio,qaa,zaA (by omega),zao (by omega),zmM (by omega),qaa,qaa,← zao (by omega)];exact e2
   obtain⟨zs,e1,e2⟩:=step 0 (qay _);refine⟨zs,e1,?_⟩;rw[zar,decide_eq_false hio,cond_false,qaa];exact e2
  have:i=c:=by omega
  subst this;exact⟨xs,h1,by rw[zar,decide_eq_false hi,cond_false]⟩
theorem zu1{c N:Nat}{os:List Nat}{wh:Int}(hc:c≤5)(hN:6≤N)(ho:∀ o∈os,o≤255):
  ∃ zs:List Nat,PermOk c zs∧za4 N ⟨List.replicate c 0,wh,iL os⟩=some (iL zs):=by
 obtain⟨zs,e1,e2⟩:=zuD (wh:=wh) hc hN ho N 0 [] ⟨rfl,List.nodup_nil,by simp,by simp⟩ (qay _) (by omega);refine⟨zs,e1,?_⟩;unfold za4;rw[show((0:Nat):Int)=0 from rfl,show iL []=[]from rfl]at e2;rw[e2,qaa]
structure NN where
 c:Nat
 ps:List Nat
 rows:List (List Nat)
def nd(x:NN):S_api_Node:=⟨x.c,iL x.ps,x.rows.map iL⟩
theorem ztA(k:IntKind)(a:Int){v:Nat}:∃ q,zla k a (v:Int)=some q:=by
 unfold zla;rw[if_pos (qbs v)];exact⟨_,rfl⟩
theorem zsu{num ps:List Nat}{ps8:Int}{u k:Nat}(hk:k<num.length):∃ b,zsH (iL num) ps8 (u:Int) (k:Int) (iL ps)=some b∧(b=true→num[k]=u∧ps.length<3):=by
 unfold zsH;rw[za2 hk,qaa];by_cases h:num[k]=u
 ·obtain⟨q,e⟩:=ztA .u8 ps8 (v:=k % 18446744073709551616);rw[show(((num[k]:Nat):Int)==(u:Int))=true by simp[h],cond_true,zxL,e,qaa];cases zo1 .u8 q 1 == 1 with
  | true=>exact⟨_,rfl,fun h2=>⟨h,by rw[zaq]at h2; have:=of_decide_eq_true h2; omega⟩⟩
  | false=>exact⟨_,rfl,fun h2=>by cases h2⟩
 rw[show(((num[k]:Nat):Int)==(u:Int))=false by simp; omega,cond_false];exact⟨_,rfl,fun h2=>by cases h2⟩
theorem zkp{num:List Nat}{ps8:Int}{u i:Nat}(hi:i≤num.length)(hn:num.length≤5)(hd:num.Nodup):∀(n k:Nat) (ps:List Nat),ps.length≤3→k≤i→i - k<n →
  ∃ qs:List Nat,zmZ (iL num) (i:Int) ps8 (u:Int) n (k:Int) (iL ps)=some (iL qs)∧(qs=ps∨(qs=ps ++ [u]∧ps.length<3∧∃ j,k≤j∧j<i∧num[j]? = some u))
 | 0,_,_,_,_,h=>absurd h (qam _)
 | n+1,k,ps,h1,h2,h3=>by
  unfold zmZ;by_cases hk:k<i
  ·obtain⟨b,e,hb⟩:=zsu (num:=num) (ps:=ps) (ps8:=ps8) (u:=u) (k:=k) (by omega);rw[zar,decide_eq_true hk,cond_true,e,qaa];cases b with
   | false=>
    obtain⟨qs,e2,h4⟩:=zkp (ps8:=ps8) (u:=u) hi hn hd n (k+1) ps h1 hk (by omega);refine⟨qs,by rw[cond_false,zao (by omega),e2],?_⟩;rcases h4 with h4 | ⟨h4,h5,j,h6,h7,h8⟩
    ·exact .inl h4
    ·exact .inr ⟨h4,h5,j,by omega,h7,h8⟩
   | true=>
    obtain⟨h5,h6⟩:=hb rfl;obtain⟨qs,e2,h4⟩:=zkp (ps8:=ps8) (u:=u) hi hn hd n (k+1) (ps ++ [u]) (by simp; omega) hk (by omega);refine⟨qs,?_,.inr ⟨?_,h6,k,qaj _,hk,by rw[qad (by omega),h5]⟩⟩
    ·rw[cond_true,zck (by simp[zaq]; omega),qaa,zao (by omega),← e2];simp[iL]
    rcases h4 with h4 | ⟨h4,h7,j,h8,h9,h10⟩
    ·exact h4
    exfalso
    have hj:j<num.length:=by omega
    rw[qad hj]at h10;have h12:num[j]=num[k]'(by omega):=by rw[h5]; exact qac h10
    exact qa9.1 hd k j (by omega) hj (by omega) h12.symm
  exact⟨ps,by rw[zar,decide_eq_false hk,cond_false],.inl rfl⟩
structure ParOk (num:List Nat) (i:Nat) (b:Nat) (ps:List Nat):Prop where
 len:ps.length≤3
 inc:ps.Pairwise (· < ·)
 lt:∀ p∈ps,p<b
 mem:∀ p∈ps,∃ j,j<i∧num[j]? = some p
theorem zoo{num:List Nat}{ps8:Int}{i c:Nat}(hi:i≤num.length)(hn:num.length≤5)(hc:c≤5)(hd:num.Nodup):∀(n u:Nat) (ps:List Nat),ParOk num i u ps→u≤c→c - u<n →
  ∃ qs:List Nat,zoG (iL num) (i:Int) ps8 (c:Int) n (u:Int) (iL ps)=some (iL qs)∧ParOk num i c qs
 | 0,_,_,_,_,h=>absurd h (qam _)
 | n+1,u,ps,h1,h2,h3=>by
  unfold zoG;by_cases hu:u<c
  ·obtain⟨qs,e,h4⟩:=zkp (ps8:=ps8) (u:=u) hi hn hd (i+2) 0 ps h1.len (qay _) (by omega);rw[show((0:Nat):Int)=0 from rfl]at e;have hq:ParOk num i (u+1) qs:=by
    rcases h4 with h4 | ⟨h4,h5,j,h6,h7,h8⟩
    ·subst h4;exact⟨h1.len,h1.inc,fun p hp=>Nat.lt_succ_of_lt (h1.lt p hp),h1.mem⟩
    subst h4;refine⟨by simp; omega,?_,?_,?_⟩
    ·rw[qcF];exact⟨h1.inc,List.pairwise_singleton _ _,fun a ha b hb=>by rw[qa0.1 hb]; exact h1.lt a ha⟩
    ·intro p hp;rcases qbl.1 hp with hp | hp
     ·exact Nat.lt_succ_of_lt (h1.lt p hp)
     rw[qa0.1 hp]; exact qb7 _
    intro p hp;rcases qbl.1 hp with hp | hp
    ·exact h1.mem p hp
    rw[qa0.1 hp]; exact⟨j,h7,h8⟩
   obtain⟨rs,e2,h9⟩:=zoo (ps8:=ps8) hi hn hc hd n (u+1) qs hq hu (by omega);refine⟨rs,?_,h9⟩;rw[zar,decide_eq_true hu,cond_true,qaF,e,qaa,zao (by omega),e2]
  have:u=c:=by omega
  subst this;exact⟨ps,by rw[zar,decide_eq_false hu,cond_false],h1⟩
theorem zcY{ns:List NN}{v:Nat}(h:v<ns.length):zaP (ns.map nd) (v:Int)=some (nd ns[v]):=by
 rw[zaJ (by simpa using h)]; simp
theorem zgi{ns:List NN}{v:Nat}{x:NN}(h:v<ns.length):zfP (ns.map nd) (v:Int) (nd x)=some ((ns.set v x).map nd):=by
 rw[zeF (by simpa using h)]; simp
theorem zvp{num:List Nat}{ps8:Int}{i:Nat}{ns:List NN}{v:Nat}(hi:i≤num.length)(hn:num.length≤5)(hl:ns.length≤5)(hd:num.Nodup)(hv:v<ns.length)(hp:ns[v].ps=[]):
  ∃ qs:List Nat,zmD (iL num) (i:Int) (v:Int) (ns.length:Int) ps8 (ns.map nd)=some ((ns.set v ⟨ns[v].c,qs,ns[v].rows⟩).map nd)∧ParOk num i ns.length qs:=by
 obtain⟨qs,e,h⟩:=zoo (ps8:=ps8) hi hn hl hd (ns.length+2) 0 [] ⟨by simp,by simp,by simp,by simp⟩ (qay _) (by omega);refine⟨qs,?_,h⟩;unfold zmD;rw[show((0:Nat):Int)=0 from rfl,show iL []=[]from rfl]at e;rw[zcY hv,qaa,show(nd ns[v]).parents.isEmpty=true by simp[nd,hp,iL],cond_true,qaF,e,qaa];exact zgi (x:=⟨ns[v].c,qs,ns[v].rows⟩) hv
structure RowsOk (g c m:Nat) (rows:List (List Nat)):Prop where
 len:rows.length=m
 row:∀ r∈rows,r.length=c∧r.sum=g
theorem zhk{ns:List NN}{v:Nat}{x:NN}(hv:v<ns.length)(hx:x.c=ns[v].c):(ns.set v x).map (·.c)=ns.map (·.c):=by
 rw[qcy,hx];apply qcr (by simp);intro i h1 h2;rw[List.getElem_set];split
 ·subst_vars; simp
 rfl
def zdD(ns:List NN)(ps:List Nat):List Nat:=ps.map fun p=>(ns.map (·.c)).getD p 0
theorem zrf{xs:List Nat}{p:Nat}:(iL xs).getD p 0=((xs.getD p 0:Nat):Int):=by
 simp only[iL,qav,qaU];cases xs[p]?<;>rfl
theorem zwG{g:Int}{ns:List NN}{v:Nat}(hl:ns.length≤8)(hv:v<ns.length)(hp:Pl ns.length ns[v].ps)(h8:ns[v].ps.length≤8):
  zaG ⟨g,ns.map nd⟩ (v:Int)=some (iL (zdD ns ns[v].ps)):=by
 unfold zaG;rw[zcY hv,qaa,zoh (by simpa using hl),qaa];have hc:(ns.map nd).map (·.card)=iL (ns.map (·.c)):=by simp[iL,nd,qbi]
 simp only[];rw[hc,show(nd ns[v]).parents=iL ns[v].ps from rfl,zvL (by rw[zaq,qaw]; exact hp) h8,qaa];congr 1
 simp only[zrf];simp only[zdD,iL,qcX,qbi]
theorem znv{g:Nat}{W:List Nat}{ns:List NN}{v m:Nat}(hg:g≤60)(hl:ns.length≤8)(hv:v<ns.length)(hp:Pl ns.length ns[v].ps)(h8:ns[v].ps.length≤8)(hc1:1≤ns[v].c)(hc4:ns[v].c≤4)
  (hs:∀ x∈zdD ns ns[v].ps,1≤x) (hm:zai (zdD ns ns[v].ps)=m) (hm2:m≤1024):∀(n r:Nat) (rows:List (List Nat)),RowsOk g ns[v].c r rows→r≤m→m - r<n →
  ∃ rows',RowsOk g ns[v].c m rows'∧zpw (g:Int) (v:Int) (iL W) (ns.map nd) (nd ns[v]) n (r:Int) (rows.map iL)=some (rows'.map iL)
 | 0,_,_,_,_,h=>absurd h (qam _)
 | n+1,r,rows,h1,h2,h3=>by
  unfold zpw;have hx:(⟨(nd ns[v]).card,(nd ns[v]).parents,rows.map iL⟩:S_api_Node)=nd ⟨ns[v].c,ns[v].ps,rows⟩:=rfl;have hpc:zaG ⟨g,(ns.set v ⟨ns[v].c,ns[v].ps,rows⟩).map nd⟩ (v:Int)=some (iL (zdD ns ns[v].ps)):=by
   rw[zwG (by simpa using hl) (by simpa using hv) (by simpa using hp) (by simpa using h8)];unfold zdD;rw[zhk (x:=⟨ns[v].c,ns[v].ps,rows⟩) hv rfl];simp
  rw[hx,zgi hv,qaa,hpc,qaa,zrO hs (by simpa [zdD]using h8) (by omega),qaa,hm];by_cases hr:r<m
  ·have hmul:r * (ns[v].c+1)≤1024 * 5:=qbQ (by omega) (by omega);obtain⟨zs,e1,e2,e3⟩:=zvu (ws:=W) (g:=g) (p:=r * (ns[v].c+1)) (c:=ns[v].c) hg (by omega) hc1 (by omega)
   obtain⟨rows',e4,e5⟩:=znv hg hl hv hp h8 hc1 hc4 hs hm hm2 (W:=W) n (r+1) (rows ++ [zs]) ⟨by simp[h1.len],by
    intro y hy;rcases qbl.1 hy with hy | hy
    ·exact h1.row y hy
    rw[qa0.1 hy]; exact⟨e1,e2⟩⟩ hr (by omega)
   refine⟨rows',e4,?_⟩;have hcard:(nd ns[v]).card=((ns[v].c:Nat):Int):=rfl;have hlen:=h1.len;rw[zar,decide_eq_true hr,cond_true,hcard,zao (by omega),← qa4,zaA (by omega),e3,qaa,zck (by simp; omega),qaa,zao (by omega),← e5];simp
  have:r=m:=by omega
  subst this;exact⟨rows,h1,by rw[zar,decide_eq_false hr,cond_false]⟩
theorem zvW{g N:Nat}{W:List Nat}{ns:List NN}{v:Nat}(hg:g≤60)(hl:ns.length≤8)(hv:v<ns.length)(hp:Pl ns.length ns[v].ps)(h8:ns[v].ps.length≤8)(hc1:1≤ns[v].c)(hc4:ns[v].c≤4)
  (hs:∀ x∈zdD ns ns[v].ps,1≤x) (hm2:zai (zdD ns ns[v].ps)≤1024) (hr:ns[v].rows=[]) (hN:1025≤N):
  ∃ rows,RowsOk g ns[v].c (zai (zdD ns ns[v].ps)) rows∧zmB N (g:Int) (v:Int) (iL W) (ns.map nd)=some ((ns.set v ⟨ns[v].c,ns[v].ps,rows⟩).map nd):=by
 obtain⟨rows,e1,e2⟩:=znv hg hl hv hp h8 hc1 hc4 hs rfl hm2 (W:=W) N 0 [] ⟨rfl,by simp⟩ (qay _) (by omega);refine⟨rows,e1,?_⟩;unfold zmB;rw[show((0:Nat):Int)=0 from rfl,show([]:List (List Nat)).map iL=[]from rfl]at e2;rw[zcY hv,qaa,show(nd ns[v]).rows.isEmpty=true by simp[nd,hr],cond_true,e2,qaa];exact zgi (x:=⟨ns[v].c,ns[v].ps,rows⟩) hv
structure NodeOk (num:List Nat) (g:Nat) (cs:List Nat) (j:Nat) (x:NN):Prop where
 par:ParOk num j cs.length x.ps
 rows:RowsOk g x.c (zai (x.ps.map fun p=>cs.getD p 0)) x.rows
structure NetOk (num:List Nat) (g:Nat) (ns:List NN):Prop where
 g1:1≤g
 g2:g≤60
 n1:1≤ns.length
 n2:ns.length≤8
 card:∀ x∈ns,1≤x.c∧x.c≤4
 prod:zai (ns.map (·.c))≤1024
 perm:PermOk ns.length num
 node:∀(j v:Nat) (x:NN),num[j]? = some v→ns[v]? = some x→NodeOk num g (ns.map (·.c)) j x
structure PieceN where
 card:Nat
 parents:Nat
 w:List Nat
structure DraftN where
 grain:Nat
 nodes:List PieceN
 order:List Nat
def zn3(x:PieceN):S_haruspexref05_Piece:=⟨x.card,x.parents,iL x.w⟩
def zcF(d:DraftN):S_haruspexref05_Draft:=⟨d.grain,d.nodes.map zn3,iL d.order⟩
structure DraftOk (d:DraftN):Prop where
 grain:d.grain≤255
 card:∀ x∈d.nodes,x.card≤255
 order:∀ x∈d.order,x≤255
def zkt(d:DraftN):Nat:=min (max d.nodes.length 1) 5
theorem zmu(d:DraftN):zcL (zda ((zcF d).nodes.length:Int) 1) 5=((zkt d:Nat):Int):=by
 simp only[zcL,zda,zkt,zcF,qaw];split<;>split<;>omega
def zlf(xs:List Nat):Nat:=xs.foldr (fun x a=>max 1 x * a) 1
theorem zkG:∀ {xs:List Nat} {i c:Nat},xs[i]? = some 0→1≤c→zlf (xs.set i c)=zlf xs * c
 | [],i,c,h,hc=>by simp at h
 | x :: xs,0,c,h,hc=>by
  have:x=0:=by simpa using h
  subst this;simp only[qcv,zlf,qc9];rw[Nat.max_eq_right hc,Nat.max_eq_left (qay _),qbq,qa2]
 | x :: xs,i+1,c,h,hc=>by
  have ih:=zkG (xs:=xs) (i:=i) (c:=c) (by simpa using h) hc;simp only[qcP,zlf,qc9]at ih ⊢;rw[ih,qbw]
theorem zog:∀ {xs:List Nat},(∀ x∈xs,1≤x)→zlf xs=zai xs
 | [],_=>rfl
 | x :: xs,h=>by
  have ih:=zog (xs:=xs) fun y hy=>h y (qal _ hy)
  have hx:=h x qap;simp only[zlf,zai,qc9]at ih ⊢;rw[ih,Nat.max_eq_right hx]
theorem zAG{a v:Nat}(h:a * 2 ^ v<9223372036854775808)(hv:v<64):zso .i64 (a:Int) (v:Int)=some ((a * 2 ^ v:Nat):Int):=by
 unfold zso;rw[if_pos (qbs v)];congr 1
 have h1:min (v:Int).toNat IntKind.i64.bits=v:=by
  rw[show IntKind.i64.bits=64 from rfl,qaF]; exact qbE (by omega)
 rw[h1];have h2:(a:Int)* ((2:Int) ^ v)=((a * 2 ^ v:Nat):Int):=by simp
 rw[h2];exact zaA h
structure L1Ok (num:List Nat) (c j a:Nat) (ns:List NN):Prop where
 len:ns.length=c
 bare:∀ x∈ns,x.ps=[]∧x.rows=[]
 prod:zlf (ns.map (·.c))=a
 low:a * 2 ^ (c - j)≤100
 done:∀(k v:Nat),k<j→num[k]? = some v→∃ x,ns[v]? = some x∧2≤x.c∧x.c≤3
 left:∀(k v:Nat),j≤k→num[k]? = some v→∃ x,ns[v]? = some x∧x.c=0
theorem zlF{d:DraftN}(hd:DraftOk d){j:Nat}:∃(card parents:Nat) (w:List Nat),card≤255 ∧
  ((bif (decide ((j:Int)<((zcF d).nodes.length:Int)))then(
(zaP (zcF d).nodes (j:Int)).bind fun x9=>
some (x9.card,x9.parents,x9.w))
else(
some (0,0,[])):Option ((Int×Int×(List Int)))))=some ((card:Int),(parents:Int),iL w):=by
 have hl:(zcF d).nodes.length=d.nodes.length:=by simp[zcF]
 by_cases hj:j<d.nodes.length
 ·refine⟨d.nodes[j].card,d.nodes[j].parents,d.nodes[j].w,hd.card _ (qaq hj),?_⟩;rw[hl,zar,decide_eq_true hj,cond_true,zaJ (by rw[hl]; exact hj),qaa];simp[zcF,zn3]
 refine⟨0,0,[],by omega,?_⟩;rw[hl,zar,decide_eq_false hj,cond_false];rfl
theorem zuq{d:DraftN}(hd:DraftOk d){num:List Nat}{c:Nat}(hc:zkt d=c)(hp:PermOk c num):∀(n j a:Nat) (ns:List NN),L1Ok num c j a ns→j≤c→c - j<n →
  ∃(ns':List NN) (a':Nat),L1Ok num c c a' ns'∧zbl (zcF d) (iL num) n (a:Int) (j:Int) (ns.map nd)=some (ns'.map nd)
 | 0,_,_,_,_,_,h=>absurd h (qam _)
 | n+1,j,a,ns,h1,h2,h3=>by
  have hc5:c≤5:=by rw[← hc]; exact qcI _ _
  unfold zbl;rw[zmu,hc];by_cases hj:j<c
  ·rw[zar,decide_eq_true hj,cond_true];obtain⟨card,parents,w,hcard,e⟩:=zlF hd (j:=j);rw[e,qaa];simp only[];have hjn:j<num.length:=by rw[hp.len]; exact hj
   have hv:num[j]<ns.length:=by rw[h1.len]; exact hp.lt _ (qaq hjn)
   obtain⟨x0,hx0,hx00⟩:=h1.left j num[j] (qaj _) (qad hjn);have hx1:ns[num[j]]=x0:=by rw[qad hv]at hx0; exact qac hx0
   have hbare:=h1.bare _ (qaq hv);have hpow:1≤2 ^ (c - 1 - j):=Nat.one_le_two_pow;have hsplit:2 ^ (c - j)=2 * 2 ^ (c - 1 - j):=by rw[show c - j=(c - 1 - j)+1 by omega,qdb,qa2]
   have hlow:=h1.low;have hle:a * 2 ^ (c - 1 - j)≤100:=qas (Nat.mul_le_mul_left a (by omega)) hlow;have ha:a≤100:=qas (qa8 a hpow) hle;have step:∀ b:Nat,2≤b→b≤3→a * b * 2 ^ (c - 1 - j)≤100→∃(ns':List NN) (a':Nat),L1Ok num c c a' ns' ∧
     ((zaP (iL num) (j:Int)).bind fun x14=>(zaP (ns.map nd) x14).bind fun x16=>(zfP (ns.map nd) x14 (S_api_Node.mk (b:Int) x16.parents x16.rows)).bind fun y18=>
      zbl (zcF d) (iL num) n (w64 ((a:Int)* (b:Int))) (w64 ((j:Int)+1)) y18)=some (ns'.map nd):=by
    intro b hb1 hb2 hb3;have hab:a * b≤100:=qas (qa8 _ hpow) hb3
    obtain⟨ns',a',f1,f2⟩:=zuq hd hc hp n (j+1) (a * b) (ns.set num[j] ⟨b,ns[num[j]].ps,ns[num[j]].rows⟩) {
     len:=by simpa using h1.len
     bare:=fun y hy=>by
      rcases qcf hy with hy | hy
      ·exact h1.bare y hy
      subst hy; exact hbare
     prod:=by
      rw[qcy,zkG (c:=b) (by rw[qaU,qad hv,hx1]; simp[hx00]) (by omega),h1.prod]
     low:=by rw[show c - (j+1)=c - 1 - j by omega]; exact hb3
     done:=fun k v hk hkv=>by
      by_cases hkj:k=j
      ·subst hkj;rw[qad hjn]at hkv;have:=qac hkv;subst this;exact⟨_,qaA hv,hb1,hb2⟩
      obtain⟨x,g1,g2⟩:=h1.done k v (by omega) hkv;refine⟨x,?_,g2⟩;rw[qan,g1];intro hh;have hk':=(qab.1 hkv);have hkl:k<num.length:=hk'.1;exact qa9.1 hp.nod k j hkl hjn (by omega) (by rw[hk'.2]; exact hh.symm)
     left:=fun k v hk hkv=>by
      obtain⟨x,g1,g2⟩:=h1.left k v (by omega) hkv;refine⟨x,?_,g2⟩;rw[qan,g1];intro hh;have hk':=(qab.1 hkv);have hkl:k<num.length:=hk'.1
      exact qa9.1 hp.nod j k hjn hkl (by omega) (by rw[hk'.2]; exact hh) } hj (by omega)
    refine⟨ns',a',f1,?_⟩
    rw[za2 hjn,qaa,zcY hv,qaa,show S_api_Node.mk (b:Int) (nd ns[num[j]]).parents (nd ns[num[j]]).rows=nd ⟨b,ns[num[j]].ps,ns[num[j]].rows⟩from rfl,
     zgi hv,qaa,← qa4,zaA (by omega),zao (by omega),f2]
   have hw1:w64 (2+w64 ((card:Int).tmod 2))=((2+card % 2:Nat):Int):=by
    rw[show((card:Int).tmod 2)=((card % 2:Nat):Int)from rfl,zaA (by omega),show(2:Int)+((card % 2:Nat):Int)=((2+card % 2:Nat):Int) by omega,zaA (by omega)]
   have hac:a * (2+card % 2)≤100 * 3:=qbQ ha (by omega);have hbig:a * (2+card % 2)* 2 ^ (c - 1 - j)≤300 * 2 ^ 4:=qbQ hac (qbu (by decide) (by omega));have hcc:w64 (((c:Nat):Int) - 1)=((c - 1:Nat):Int):=by rw[show((c:Nat):Int) - 1=((c - 1:Nat):Int) by omega,zaA (by omega)]
   have hcj:w64 (((c - 1:Nat):Int) - (j:Int))=((c - 1 - j:Nat):Int):=by rw[show((c - 1:Nat):Int) - (j:Int)=((c - 1 - j:Nat):Int) by omega,zaA (by omega)]
   rw[hw1,hcc,hcj,zd3 (by omega),← qa4,zaA (by omega),zAG (by omega) (by omega),qaa];by_cases hbg:100<a * (2+card % 2)* 2 ^ (c - 1 - j)
   ·obtain⟨ns',a',f1,f2⟩:=step 2 (by omega) (by omega) (by rw[qbw,← hsplit]; exact hlow);refine⟨ns',a',f1,?_⟩;rw[show decide ((100:Int)<((a * (2+card % 2)* 2 ^ (c - 1 - j):Nat):Int))=true from decide_eq_true (by omega),cond_true,qaa];exact f2
   obtain⟨ns',a',f1,f2⟩:=step (2+card % 2) (by omega) (by omega) (by omega);refine⟨ns',a',f1,?_⟩;rw[show decide ((100:Int)<((a * (2+card % 2)* 2 ^ (c - 1 - j):Nat):Int))=false from decide_eq_false (by omega),cond_false,qaa];exact f2
  have:j=c:=by omega
  subst this;exact⟨ns,a,h1,by rw[zar,decide_eq_false hj,cond_false]⟩
structure L2Ok (num:List Nat) (g c:Nat) (cs:List Nat) (i:Nat) (ns:List NN):Prop where
 len:ns.length=c
 cards:ns.map (·.c)=cs
 done:∀(k v:Nat) (x:NN),k<i→num[k]? = some v→ns[v]? = some x→NodeOk num g cs k x
 left:∀(k v:Nat) (x:NN),i≤k→num[k]? = some v→ns[v]? = some x→x.ps=[]∧x.rows=[]
theorem zgA{m:Nat}(hm:1≤m):∀ {xs:List Nat},(∀ x∈xs,x≤m)→zai xs≤m ^ xs.length
 | [],_=>qaj 1
 | x :: xs,h=>by
  have ih:=zgA hm (xs:=xs) fun y hy=>h y (qal _ hy)
  rw[qaD,qdb,qa2];exact qbQ (h x qap) ih
theorem zrv{xs:List Nat}(h:xs.Nodup){i j v w:Nat}(hi:xs[i]? = some v)(hj:xs[j]? = some w)(hne:i≠j):v≠w:=by
 obtain⟨h1,h2⟩:=qab.1 hi;obtain⟨h3,h4⟩:=qab.1 hj;intro he;rcases Nat.lt_or_gt_of_ne hne with hlt | hlt
 ·exact qa9.1 h i j h1 h3 hlt (by rw[h2,h4,he])
 exact qa9.1 h j i h3 h1 hlt (by rw[h2,h4,he])
theorem ztR{d:DraftN}(hd:DraftOk d){num:List Nat}{c N:Nat}{cs:List Nat}(hc:zkt d=c)(hp:PermOk c num)(hs:∀ x∈cs,1≤x∧x≤3)(hN:1025≤N):∀(n i:Nat) (ns:List NN),L2Ok num (1+d.grain % 60) c cs i ns→i≤c→c - i<n →
  ∃ ns':List NN,L2Ok num (1+d.grain % 60) c cs c ns'∧zbE N (zcF d) (iL num) n (i:Int) (ns.map nd)=some (ns'.map nd)
 | 0,_,_,_,_,h=>absurd h (qam _)
 | n+1,i,ns,h1,h2,h3=>by
  have hc5:c≤5:=by rw[← hc]; exact qcI _ _
  unfold zbE;rw[zmu,hc];by_cases hi:i<c
  ·rw[zar,decide_eq_true hi,cond_true];obtain⟨card,parents,w,hcard,e⟩:=zlF hd (j:=i);rw[e,qaa];simp only[];have hin:i<num.length:=by rw[hp.len]; exact hi
   have hget:num[i]? = some num[i]:=qad hin;have hlen:=h1.len;have hcl:cs.length=c:=by rw[← h1.cards,qaw,h1.len]
   have hv:num[i]<ns.length:=by rw[h1.len]; exact hp.lt _ (qaq hin)
   obtain⟨b1,b2⟩:=h1.left i num[i] ns[num[i]] (qaj _) hget (qad hv);obtain⟨qs,e2,hq⟩:=zvp (num:=num) (ps8:=(parents:Int)) (i:=i) (ns:=ns) (v:=num[i]) (by omega) (by rw[hp.len]; omega) (by omega) hp.nod hv b1;rw[h1.len]at e2 hq;have hg:w64 (1+w64 ((zcF d).grain.tmod 60))=((1+d.grain % 60:Nat):Int):=by
    rw[show((zcF d).grain.tmod 60)=((d.grain % 60:Nat):Int)from rfl,zaA (by omega),show(1:Int)+((d.grain % 60:Nat):Int)=((1+d.grain % 60:Nat):Int) by omega,zaA (by omega)]
   have hset:(ns.set num[i] ⟨ns[num[i]].c,qs,ns[num[i]].rows⟩)[num[i]]'(by simpa using hv)=⟨ns[num[i]].c,qs,ns[num[i]].rows⟩:=by simp
   have hcs1:(ns.set num[i] ⟨ns[num[i]].c,qs,ns[num[i]].rows⟩).map (·.c)=cs:=by rw[zhk (x:=⟨ns[num[i]].c,qs,ns[num[i]].rows⟩) hv rfl,h1.cards]
   have hcv:1≤ns[num[i]].c∧ns[num[i]].c≤3:=hs _ (by rw[← h1.cards]; exact qaG.2 ⟨_,qaq hv,rfl⟩);have hco:zdD (ns.set num[i] ⟨ns[num[i]].c,qs,ns[num[i]].rows⟩) qs=qs.map fun p=>cs.getD p 0:=by unfold zdD; rw[hcs1]
   have hqs:∀ x∈(qs.map fun p=>cs.getD p 0),1≤x∧x≤3:=by
    intro x hx;obtain⟨p,hpq,rfl⟩:=qaG.1 hx;have hpl:p<cs.length:=by rw[hcl]; exact hq.lt p hpq
    refine hs _ ?_;simp[hpl]
   have hprod:zai (qs.map fun p=>cs.getD p 0)≤3 ^ 3:=by
    refine qas (zgA (m:=3) (by omega) fun x hx=>(hqs x hx).2) ?_;rw[qaw];exact qbu (by decide) hq.len
   obtain⟨rows,r1,r2⟩:=zvW (g:=1+d.grain % 60) (N:=N) (W:=w) (ns:=ns.set num[i] ⟨ns[num[i]].c,qs,ns[num[i]].rows⟩) (v:=num[i]) (by omega) (by simp; omega) (by simpa using hv)
    (by rw[hset]; intro p hpq; rw[qat,h1.len]; exact hq.lt p hpq) (by rw[hset]; have:=hq.len; simp; omega) (by rw[hset]; exact hcv.1) (by rw[hset]; have:=hcv.2; simp; omega)
    (by rw[hset,hco]; exact fun x hx=>(hqs x hx).1) (by rw[hset,hco]; exact qas hprod (by decide)) (by rw[hset]; exact b2) hN
   simp only[hset,hco,qbJ]at r1 r2
   obtain⟨ns',f1,f2⟩:=ztR hd hc hp hs hN n (i+1) (ns.set num[i] ⟨ns[num[i]].c,qs,rows⟩) {
    len:=by simpa using h1.len
    cards:=by rw[zhk (x:=⟨ns[num[i]].c,qs,rows⟩) hv rfl,h1.cards]
    done:=fun k v x hk hkv hx=>by
     by_cases hki:k=i
     ·subst hki;rw[hget]at hkv;have:=qac hkv;subst this;rw[qaA hv]at hx;have:=qac hx;subst this;exact⟨by rw[hcl]; exact hq,r1⟩
     rw[qan (zrv hp.nod hget hkv (by omega))]at hx;exact h1.done k v x (by omega) hkv hx
    left:=fun k v x hk hkv hx=>by
     rw[qan (zrv hp.nod hget hkv (by omega))]at hx
     exact h1.left k v x (by omega) hkv hx } hi (by omega)
   refine⟨ns',f1,?_⟩;rw[za2 hin,qaa,e2,qaa,hg,r2,qaa,zao (by omega),f2]
  have:i=c:=by omega
  subst this;exact⟨ns,h1,by rw[zar,decide_eq_false hi,cond_false]⟩
theorem zsJ{d:DraftN}(hd:DraftOk d){N:Nat}(hN:1025≤N):
  ∃(num:List Nat) (ns:List NN),NetOk num (1+d.grain % 60) ns∧ns.length≤5∧zbT N (zcF d)=some ⟨((1+d.grain % 60:Nat):Int),ns.map nd⟩:=by
 have hc5:zkt d≤5:=qcI _ _;have hc1:1≤zkt d:=by unfold zkt; omega
 obtain⟨num,hp,e1⟩:=zu1 (c:=zkt d) (N:=N) (os:=d.order) (wh:=0) hc5 (by omega) hd.order;have hpl:=hp.len;have h0:∀ v,v<zkt d→(List.replicate (zkt d) (⟨0,[],[]⟩:NN))[v]? = some ⟨0,[],[]⟩:=fun v hv=>by simp[hv]
 obtain⟨ns1,a,h1,e2⟩:=zuq hd rfl hp (zkt d+2) 0 1 (List.replicate (zkt d) ⟨0,[],[]⟩) {
  len:=by simp
  bare:=fun x hx=>by rw[(List.mem_replicate.1 hx).2]; exact⟨rfl,rfl⟩
  prod:=by
   rw[qcu];generalize zkt d=c;induction c with
   | zero=>rfl
   | succ c ih=>rw[qa6]; simp only[zlf,qc9]at ih ⊢; rw[ih]; rfl
  low:=by
   have:2 ^ (zkt d - 0)≤2 ^ 5:=qbu (by decide) (by omega);omega
  done:=fun k v hk hkv=>absurd hk (qam _)
  left:=fun k v hk hkv=>⟨_,h0 v (hp.lt v (qaE hkv)),rfl⟩ } (qay _) (by omega)
 have hcards:∀ x∈ns1,2≤x.c∧x.c≤3:=by
  intro x hx;obtain⟨v,hv⟩:=qbB hx;have hvl:v<zkt d:=by rw[← h1.len]; exact(qab.1 hv).1
  obtain⟨k,hk⟩:=qbB (hp.all v hvl);obtain⟨y,g1,g2⟩:=h1.done k v (by rw[← hpl]; exact(qab.1 hk).1) hk;rw[hv]at g1;have:=qac g1;subst this;exact g2
 have hcs:∀ x∈ns1.map (·.c),1≤x∧x≤3:=by
  intro x hx;obtain⟨y,hy,rfl⟩:=qaG.1 hx;have:=hcards y hy;exact⟨by omega,this.2⟩
 obtain⟨ns2,h2,e3⟩:=ztR hd rfl hp hcs hN (zkt d+2) 0 ns1 ⟨h1.len,rfl,fun k v x hk=>absurd hk (qam _),fun k v x hk hkv hx=>h1.bare x (qaE hx)⟩ (qay _) (by omega);have hl2:=h2.len;have hlow:=h1.low;refine⟨num,ns2,⟨by omega,by omega,by omega,by omega,?_,?_,by rw[h2.len]; exact hp,?_⟩,by omega,?_⟩
 ·intro x hx;have:=hcs x.c (by rw[← h2.cards]; exact qaG.2 ⟨x,hx,rfl⟩);omega
 ·rw[h2.cards,← zog fun x hx=>(hcs x hx).1,h1.prod];rw[qbU,Nat.pow_zero]at hlow;omega
 ·intro j v x hj hx;rw[h2.cards];exact h2.done j v x (by rw[← hpl]; exact(qab.1 hj).1) hj hx
 have hg:w64 (1+w64 ((zcF d).grain.tmod 60))=((1+d.grain % 60:Nat):Int):=by
  rw[show((zcF d).grain.tmod 60)=((d.grain % 60:Nat):Int)from rfl,zaA (by omega),show(1:Int)+((d.grain % 60:Nat):Int)=((1+d.grain % 60:Nat):Int) by omega,zaA (by omega)]
 have hz:List.replicate (zkt d) (S_api_Node.mk 0 [] [])=(List.replicate (zkt d) (⟨0,[],[]⟩:NN)).map nd:=by rw[qcu]; rfl
 have e2':=e2;have e3':=e3;rw[show((0:Nat):Int)=0 from rfl]at e2' e3';rw[show((1:Nat):Int)=1 from rfl]at e2';unfold zbT;rw[zmu,zey (by omega),qaa,zey (by omega),qaa,show(zcF d).order=iL d.order from rfl,e1,qaa,zax,hz,e2',qaa,e3',qaa,hg]
def zbh(xs:List Nat):Nat:=xs.foldl (fun m p=>m ||| 2 ^ p) 0
theorem znI(xs:List Nat)(p:Nat):zbh (xs ++ [p])=zbh xs ||| 2 ^ p:=by simp[zbh]
theorem zkU:∀(xs:List Nat) (m i:Nat),(xs.foldl (fun m p=>m ||| 2 ^ p) m).testBit i=(m.testBit i || decide (i∈xs))
 | [],m,i=>by simp
 | x :: xs,m,i=>by
  rw[qb4,zkU xs,qcW,Nat.testBit_two_pow,Bool.or_assoc];congr 1
  by_cases h:x=i
  ·simp[h]
  simp[h,show ¬ i=x from fun q=>h q.symm]
theorem zcJ(xs:List Nat)(i:Nat):(zbh xs).testBit i=decide (i∈xs):=by
 unfold zbh; rw[zkU]; simp
theorem znh:∀(xs:List Nat) (m:Nat),m<18446744073709551616→(∀ x∈xs,x<64)→xs.foldl (fun m p=>m ||| 2 ^ p) m<18446744073709551616
 | [],m,h,_=>h
 | x :: xs,m,h,hx=>znh xs _ (qck (n:=64) h (qbX (by decide) (hx x qap))) fun y hy=>hx y (qal _ hy)
theorem zeC{xs:List Nat}(h:∀ x∈xs,x<64):zbh xs<18446744073709551616:=znh xs 0 (by decide) h
def Sub(a b:Nat):Prop:=∀ i,a.testBit i=true→b.testBit i=true
theorem zpW{a b:Nat}(ha:a<18446744073709551616)(hb:b<18446744073709551616):diff a b=0↔Sub a b:=by
 constructor
 ·intro h i hi;have:=znY (i:=i) ha hb;rw[h,hi]at this;simpa using this
 intro h;apply qc4;intro i;rw[znY ha hb,Nat.zero_testBit];cases hi:a.testBit i with
 | false=>rfl
 | true=>rw[h i hi]; rfl
theorem zhD{cs ps:List Nat}{nodes:S_api_Net}{sets order:List Int}{x:S_api_Node}(hx:x.parents=iL ps)(hp:Pl cs.length ps)(hl:ps.length≤8)(hc:∀ p∈ps,1≤cs.getD p 0):∀(n i a:Nat),i≤ps.length →
  a * zai ((ps.drop i).map fun p=>cs.getD p 0)≤65536→ps.length - i<n →
  zaY x ⟨nodes,iL cs,sets,order⟩ n (a:Int) (i:Int)=some ((a * zai ((ps.drop i).map fun p=>cs.getD p 0):Nat):Int)
 | 0,_,_,_,_,h=>absurd h (qam _)
 | n+1,i,a,h1,h2,h3=>by
  unfold zaY;rw[hx,zaq];by_cases hi:i<ps.length
  ·have e2:a * zai ((ps.drop i).map fun p=>cs.getD p 0)=a * cs.getD ps[i] 0 * zai ((ps.drop (i+1)).map fun p=>cs.getD p 0):=by
    rw[qao hi]; exact(qbw _ _ _).symm
   rw[e2]at h2;have hb:ps[i]<cs.length:=hp _ (qaq hi);have hq:1≤zai ((ps.drop (i+1)).map fun p=>cs.getD p 0):=zfd fun x hx=>by
    obtain⟨p,hp1,rfl⟩:=qaG.1 hx;exact hc p (qch hp1)
   have hle:a * cs.getD ps[i] 0≤65536:=qas (qa8 _ hq) h2;have he:cs[ps[i]]=cs.getD ps[i] 0:=by simp[hb]
   rw[zar,decide_eq_true hi,cond_true,za2 hi,qaa,za2 hb,qaa,he,← qa4,zaA (by omega),zao (by omega),
    zhD hx hp hl hc n (i+1) _ hi h2 (by omega),e2]
  rw[zar,decide_eq_false hi,cond_false,qaM (by omega)];simp[zai]
theorem zlB{y:Int×List Int}{zs:List Nat}(hy:y.2=iL zs)(hl:zs.length≤8):∀(n i r:Nat),i≤zs.length→(zs.drop i).sum≤r→r≤65536→zs.length - i<n →
  zaz y n (r:Int) (i:Int)=some (.go ((r - (zs.drop i).sum:Nat):Int))
 | 0,_,_,_,_,_,h=>absurd h (qam _)
 | n+1,i,r,h1,h2,hr,h3=>by
  unfold zaz;rw[hy,zaq];by_cases hi:i<zs.length
  ·have e:(zs.drop i).sum=zs[i]+(zs.drop (i+1)).sum:=by rw[qao hi,qbR]
   rw[e]at h2
   rw[zar,decide_eq_true hi,cond_true,za2 hi,qaa,show decide (((zs[i]:Nat):Int)<0)=false from decide_eq_false (by omega),cond_false,qaa,
    show decide ((r:Int)<((zs[i]:Nat):Int))=false from decide_eq_false (by omega),cond_false,show((r:Int) - ((zs[i]:Nat):Int))=((r - zs[i]:Nat):Int) by omega,zaA (by omega),zao (by omega),
    zlB hy hl n (i+1) _ hi (by omega) (by omega) (by omega),e,Nat.sub_sub]
  rw[zar,decide_eq_false hi,cond_false,qaM (by omega)];simp
theorem zlK{g c:Nat}{nw:S_net_network}{x:S_api_Node}(hg:nw.net.grain=(g:Int))(hg2:g≤60)(hc:x.card=(c:Int))(hc8:c≤8):∀(L:List (Int×List Int)),(∀ y∈L,∃ zs:List Nat,y.2=iL zs∧zs.length=c∧zs.sum=g)→
  zaw nw x L=some (.go ())
 | [],_=>rfl
 | y :: L,h=>by
  obtain⟨zs,h1,h2,h3⟩:=h y qap;unfold zaw;have e:=zlB h1 (by omega) (zs.length+2) 0 g (qay _) (by rw[qaS]; omega) (by omega) (by omega);rw[qaS,h3,qbU,show((0:Nat):Int)=0 from rfl]at e;rw[hg,h1,zaq,zax,e,qaa];simp only[];rw[hc,h2,show((c:Int)==(c:Int))=true by simp,cond_true,qaa,show(!((0:Int)== 0))=false from rfl,cond_false];exact zlK hg hg2 hc hc8 L fun y hy=>h y (qal _ hy)
theorem zrI{g:Nat}{cs:List Nat}{nodes:List S_api_Node}{sets order:List Int}{x:NN}(hg2:g≤60)(hp:Pl cs.length x.ps)(hl:x.ps.length≤8)(hc:∀ p∈x.ps,1≤cs.getD p 0)(hc8:x.c≤8)
  (hm:zai (x.ps.map fun p=>cs.getD p 0)≤65536) (hr:RowsOk g x.c (zai (x.ps.map fun p=>cs.getD p 0)) x.rows):zaN ⟨⟨(g:Int),nodes⟩,iL cs,sets,order⟩ (nd x)=some true:=by
 unfold zaN;have e:=zhD (x:=nd x) (nodes:=⟨(g:Int),nodes⟩) (sets:=sets) (order:=order) rfl hp hl hc (x.ps.length+2) 0 1 (qay _) (by simpa using hm) (by omega);rw[show((0:Nat):Int)=0 from rfl,show((1:Nat):Int)=1 from rfl,qaS,qbq]at e;have hrl:(nd x).rows.length=x.rows.length:=by simp[nd]
 rw[show(nd x).parents=iL x.ps from rfl,zaq,zax,e,qaa,hrl,hr.len,show(((zai (x.ps.map fun p=>cs.getD p 0):Nat):Int)==((zai (x.ps.map fun p=>cs.getD p 0):Nat):Int))=true by simp,cond_true];unfold zdI;rw[qaa];have hs:ze0 (nd x).rows=some ():=by
  unfold ze0;rw[if_pos (by rw[hrl,hr.len]; omega)]
 rw[hs,qaa,zlK (g:=g) (c:=x.c) rfl hg2 rfl hc8,qaa];intro y hy;unfold znT at hy;obtain⟨q,hq,rfl⟩:=qaG.1 hy;have hq1:q.1∈(nd x).rows:=by
  have:=List.mem_zipIdx' hq;rw[this.2]; exact qaq _
 obtain⟨zs,hz,hz2⟩:=qaG.1 hq1;exact⟨zs,hz2.symm,hr.row zs hz⟩
def zcx(g:Nat)(ns:List NN):S_api_Net:=⟨(g:Int),ns.map nd⟩
theorem zq7{g P:Nat}{ns:List NN}(hn:ns.length≤8)(hc:∀ x∈ns,1≤x.c∧x.c≤4)(hP:P≤65536):∀(n:Nat) (xs ys:List NN) (a:Nat),xs ++ ys=ns→a * zai (ys.map (·.c))=P→ys.length<n →
  zbA (zcx g ns) n (a:Int) (xs.length:Int) (iL (xs.map (·.c)++ List.replicate ys.length 0))=some (.go ((P:Int),iL (ns.map (·.c))))
 | 0,_,_,_,_,_,h=>absurd h (qam _)
 | n+1,xs,[],a,h1,h2,h3=>by
  unfold zbA;rw[qaN]at h1;subst h1;have:a=P:=by rw[← h2]; simp[zai]
  subst this;rw[show(zcx g xs).nodes.length=xs.length by simp[zcx],zar,decide_eq_false (by omega),cond_false];simp
 | n+1,xs,y :: ys,a,h1,h2,h3=>by
  unfold zbA;have hl:(zcx g ns).nodes.length=ns.length:=by simp[zcx]
  have hxn:xs.length<ns.length:=by rw[← h1]; simp
  have hy:ns[xs.length]=y:=by subst h1; simp
  have hyc:=hc y (by rw[← h1]; simp);have e2:a * y.c * zai (ys.map (·.c))=P:=by rw[← h2]; exact qbw _ _ _
  have hq:1≤zai (ys.map (·.c)):=zfd fun c hcm=>by
   obtain⟨z,hz,rfl⟩:=qaG.1 hcm;exact(hc z (by rw[← h1]; simp[hz])).1
  have hle:a * y.c≤P:=by rw[← e2]; exact qa8 _ hq
  have ih:=zq7 hn hc hP (g:=g) n (xs ++ [y]) ys (a * y.c) (by rw[← h1]; simp) e2 (by simp at h3; omega)
  rw[hl,zar,decide_eq_true hxn,cond_true,show zaP (zcx g ns).nodes (xs.length:Int)=some (nd y) by rw[← hy]; exact zcY hxn,qaa,
   show(nd y).card=(y.c:Int)from rfl,show decide ((y.c:Int)<1)=false from decide_eq_false (by omega),cond_false,qaa,show decide ((4:Int)<(y.c:Int))=false from decide_eq_false (by omega),cond_false]
  have hxl:((xs.length:Nat):Int)=(((xs.map (·.c)).length:Nat):Int):=by simp
  rw[qaD,qa6,hxl,zdp,qaa,zfA,qaa,← qa4,zaA (by omega),zao (by simp; omega),← ih];simp
theorem zqW{g v:Nat}{ns:List NN}{x:S_api_Node}{ps xs ys:List Nat}(hx:x.parents=iL ps)(hn:ns.length≤8)(hv:xs.length=v)(hp:∀ p∈ps,p<ns.length∧p≠v)(hinc:ps.Pairwise (· < ·)):∀(n i:Nat) (m:Nat) (lo:Int),i≤ps.length→m<18446744073709551616 →
  (∀ p∈ps.drop i,lo<(p:Int))→ps.length - i<n →
  zb3 x (zcx g ns) (v:Int) n lo (i:Int) (iL (xs ++ m :: ys))=some (.go (iL (xs ++ ((ps.drop i).foldl (fun m p=>m ||| 2 ^ p) m):: ys)))
 | 0,_,_,_,_,_,_,h=>absurd h (qam _)
 | n+1,i,m,lo,h1,h2,h4,h3=>by
  have hps:ps.length≤9223372036854775806∨True:=.inr trivial;unfold zb3;have hl:(zcx g ns).nodes.length=ns.length:=by simp[zcx]
  rw[hx,zaq,hl];by_cases hi:i<ps.length
  ·have hd:ps.drop i=ps[i]:: ps.drop (i+1):=qao hi;obtain⟨hp1,hp2⟩:=hp _ (qaq hi);have hlo:=h4 ps[i] (by rw[hd]; exact qap);have hsm:i≤ps[i]:=by
    have:∀(j:Nat) (hj:j<ps.length),j≤ps[j]:=by
     intro j;induction j with
     | zero=>intro hj; exact qay _
     | succ j ih=>
      intro hj;have h6:=ih (by omega);have h7:=qa9.1 hinc j (j+1) (by omega) hj (by omega);omega
    exact this i hi
   have hgt:∀ p∈ps.drop (i+1),((ps[i]:Nat):Int)<(p:Int):=by
    intro p hp;obtain⟨k,hk,rfl⟩:=qbZ.1 hp;rw[List.getElem_drop];have:=qa9.1 hinc i (i+1+k) hi (by simp at hk; omega) (by omega);omega
   have hpw:2 ^ ps[i]<18446744073709551616:=qbX (n:=64) (by decide) (by omega);have hm:m ||| 2 ^ ps[i]<18446744073709551616:=qck (n:=64) h2 hpw;have ih:=zqW (g:=g) (ys:=ys) hx hn hv hp hinc n (i+1) (m ||| 2 ^ ps[i]) (ps[i]:Int) hi hm hgt (by omega)
   rw[zar,decide_eq_true hi,cond_true,za2 hi,qaa,show decide (((ps[i]:Nat):Int)≤lo)=false from decide_eq_false (by omega),cond_false,
    show decide (((ns.length:Nat):Int)≤((ps[i]:Nat):Int))=false from decide_eq_false (by omega),cond_false,qaa,show(((ps[i]:Nat):Int)==(v:Int))=false by simp; omega,cond_false,
    ← hv,zdp,qaa,zyu (by omega),qaa,orU h2 hpw,zfA,qaa,zao (by omega),hv,ih,hd,qb4]
  rw[zar,decide_eq_false hi,cond_false,qaM (by omega)];rfl
structure RightN (g:Nat) (ns:List NN):Prop where
 g1:1≤g
 g2:g≤60
 n1:1≤ns.length
 n2:ns.length≤8
 card:∀ x∈ns,1≤x.c∧x.c≤4
 prod:zai (ns.map (·.c))≤1024
 inc:∀ x∈ns,x.ps.Pairwise (· < ·)
 lt:∀ x∈ns,∀ p∈x.ps,p<ns.length
 rows:∀ x∈ns,RowsOk g x.c (zai (x.ps.map fun p=>(ns.map (·.c)).getD p 0)) x.rows
 rk:∃ rk:Nat→Nat,(∀ v,rk v≤8)∧∀ v x,ns[v]? = some x→∀ p∈x.ps,rk p<rk v
theorem zfK{n:Nat}{ps:List Nat}(h:ps.Pairwise (· < ·))(hp:∀ p∈ps,p<n):ps.length≤n:=by
 have:∀(j:Nat) (hj:j<ps.length),j≤ps[j]:=by
  intro j;induction j with
  | zero=>intro hj; exact qay _
  | succ j ih=>
   intro hj;have h6:=ih (by omega);have h7:=qa9.1 h j (j+1) (by omega) hj (by omega);omega
 cases hl:ps.length with
 | zero=>exact qay _
 | succ m=>
  have h1:=this m (by omega);have h2:=hp _ (qaq (show m<ps.length by omega));omega
theorem RightN.zzn{g:Nat}{ns:List NN}(h:RightN g ns){x:NN}(hx:x∈ns):x.ps.length≤8:=by
 have:=zfK (h.inc x hx) (h.lt x hx);have:=h.n2;omega
theorem RightN.ne{g:Nat}{ns:List NN}(h:RightN g ns){v:Nat}{x:NN}(hx:ns[v]? = some x):∀ p∈x.ps,p≠v:=by
 obtain⟨rk,_,h2⟩:=h.rk;intro p hp he;subst he;exact qbM _ (h2 p x hx p hp)
theorem RightN.zxT{g:Nat}{ns:List NN}(h:RightN g ns){x:NN}(hx:x∈ns):∀ p∈x.ps,1≤(ns.map (·.c)).getD p 0∧(ns.map (·.c)).getD p 0≤4:=by
 intro p hp;have hp1:=h.lt x hx p hp;have:=h.card ns[p] (qaq hp1);simpa [hp1]using this
theorem RightN.zzg{g:Nat}{ns:List NN}(h:RightN g ns){x:NN}(hx:x∈ns):zai (x.ps.map fun p=>(ns.map (·.c)).getD p 0)≤65536:=by
 refine qas (zgA (m:=4) (by omega) fun y hy=>?_) ?_
 ·obtain⟨p,hp,rfl⟩:=qaG.1 hy;exact(h.zxT hx p hp).2
 rw[qaw];exact qas (qbu (by decide) (h.zzn hx)) (by decide)
theorem zre{g:Nat}{ns:List NN}(h:RightN g ns):∀(n:Nat) (xs ys:List NN),xs ++ ys=ns→ys.length<n →
  zby (zcx g ns) (iL (ns.map (·.c))) n (xs.length:Int) (iL (xs.map (fun x=>zbh x.ps)++ List.replicate ys.length 0))=some (.go (iL (ns.map fun x=>zbh x.ps)))
 | 0,_,_,_,h=>absurd h (qam _)
 | n+1,xs,[],h1,h3=>by
  unfold zby
  rw[qaN]at h1;subst h1;rw[show(zcx g xs).nodes.length=xs.length by simp[zcx],zar,decide_eq_false (by omega),cond_false];simp
 | n+1,xs,y :: ys,h1,h3=>by
  unfold zby
  have hl:(zcx g ns).nodes.length=ns.length:=by simp[zcx]
  have hxn:xs.length<ns.length:=by rw[← h1]; simp
  have hn:=h.n2;have hy:ns[xs.length]=y:=by subst h1; simp
  have hyg:ns[xs.length]? = some y:=by rw[qad hxn,hy]
  have hym:y∈ns:=qaE hyg;have hcl:(ns.map (·.c)).length=ns.length:=by simp
  have hlt:∀ p∈y.ps,p<ns.length∧p≠xs.length:=fun p hp=>⟨h.lt y hym p hp,h.ne hyg p hp⟩
  have hcs:=h.zxT hym;have hpl:=h.zzn hym;have hprod:=h.zzg hym;have hyc:=h.card y (by rw[← h1]; simp);have ih:=zre h n (xs ++ [y]) ys (by rw[← h1]; simp) (by simp at h3; omega);have e3:=zqW (g:=g) (ns:=ns) (x:=nd y) (xs:=xs.map fun x=>zbh x.ps) (ys:=List.replicate ys.length 0) (v:=xs.length) rfl hn (by simp) hlt (h.inc y hym) (y.ps.length+2) 0 0 (-1) (qay _) (by decide) (fun p hp=>by omega) (by omega);rw[show((0:Nat):Int)=0 from rfl,qaS]at e3;have e4:=zrI (g:=g) (cs:=ns.map (·.c)) (nodes:=ns.map nd) (sets:=iL (xs.map (fun x=>zbh x.ps)++ zbh y.ps :: List.replicate ys.length 0)) (order:=[]) (x:=y) h.g2 (by rw[hcl]; exact fun p hp=>(hlt p hp).1) (by omega) (fun p hp=>(hcs p hp).1) (by omega) hprod (h.rows y hym)
  rw[hl,zar,decide_eq_true hxn,cond_true,show zaP (zcx g ns).nodes (xs.length:Int)=some (nd y) by rw[← hy]; exact zcY hxn,qaa,qaD,qa6,
   show(nd y).parents.length=y.ps.length by simp[nd,zaq],zax,e3,qaa]
  simp only[];rw[show(y.ps.foldl (fun m p=>m ||| 2 ^ p) 0)=zbh y.ps from rfl];rw[show zcx g ns=⟨(g:Int),ns.map nd⟩from rfl]at ih ⊢;rw[e4,qaa,cond_true,zao (by omega),← ih];simp
def zgN(ms:List Nat)(mask v:Nat):Prop:=mask.testBit v=false∧Sub (ms.getD v 0) mask
structure First (ms:List Nat) (mask v:Nat):Prop where
 lt:v<ms.length
 ready:zgN ms mask v
 least:∀ u,u<v→¬ zgN ms mask u
def zc9(ms os:List Nat):Prop:=∀ k v,os[k]? = some v→First ms (zbh (os.take k)) v
theorem zc9.app{ms os:List Nat}{v:Nat}(h:zc9 ms os)(hv:First ms (zbh os) v):zc9 ms (os ++ [v]):=by
 intro k u hk;by_cases hl:k<os.length
 ·rw[qak hl]at hk;rw[qbW (by omega)];exact h k u hk
 have hk2:k=os.length:=by
  have:=(qab.1 hk).1;simp at this;omega
 subst hk2;have hu:u=v:=by simpa using hk.symm
 subst hu;simpa using hv
theorem zc9.nod{ms os:List Nat}(h:zc9 ms os):os.Nodup:=by
 rw[List.Nodup,qa9];intro i j hi hj hij he;have h1:=(h j os[j] (qad hj)).ready.1;rw[zcJ]at h1;have:os[j]∈os.take j:=by
  rw[← he];exact List.mem_take_iff_getElem.2 ⟨i,by omega,rfl⟩
 simp[this]at h1
theorem zc9.lt{ms os:List Nat}(h:zc9 ms os):∀ x∈os,x<ms.length:=by
 intro x hx;obtain⟨k,hk⟩:=qbB hx;exact(h k x hk).lt
theorem zlZ:∀ {xs ys:List Nat},xs.Nodup→(∀ x∈xs,x∈ys)→xs.length≤ys.length
 | [],_,_,_=>qay _
 | x :: xs,ys,h,hs=>by
  obtain⟨h1,h2⟩:=qbT.1 h;have hx:=hs x qap;have ih:=zlZ (xs:=xs) (ys:=ys.erase x) h2 fun y hy=>(List.mem_erase_of_ne (fun q:y=x=>h1 (by rw[← q]; exact hy))).2 (hs y (qal _ hy))
  rw[List.length_erase_of_mem hx]at ih;have:=List.length_pos_of_mem hx;simp only[qaD];omega
theorem znA{ms:List Nat}{mask:Nat}:∀ v,v<ms.length→zgN ms mask v→∃ u,First ms mask u:=by
 intro v;induction v using Nat.strongRecOn with
 | ind v ih=>
  intro hv hr;by_cases h:∃ u,u<v∧zgN ms mask u
  ·obtain⟨u,hu,hur⟩:=h;exact ih u hu (by omega) hur
  exact⟨v,hv,hr,fun u hu hur=>h ⟨u,hu,hur⟩⟩
def zas(ns:List NN):List Nat:=ns.map fun x=>zbh x.ps
theorem RightN.zeC{g:Nat}{ns:List NN}(h:RightN g ns):∀ m∈zas ns,m<18446744073709551616:=by
 intro m hm;obtain⟨x,hx,rfl⟩:=qaG.1 hm;refine Go.Dc.zeC fun p hp=>?_
 have:=h.lt x hx p hp;have:=h.n2;omega
theorem RightN.ready{g:Nat}{ns:List NN}(h:RightN g ns)(os:List Nat){rk:Nat→Nat}(hrk:∀ v x,ns[v]? = some x→∀ p∈x.ps,rk p<rk v):∀(j v:Nat),rk v=j→v<ns.length→v ∉ os→∃ u,u<ns.length∧zgN (zas ns) (zbh os) u:=by
 intro j;induction j using Nat.strongRecOn with
 | ind j ih=>
  intro v hj hvl hv;by_cases hp:∃ p,p∈ns[v].ps∧p ∉ os
  ·obtain⟨p,hp1,hp2⟩:=hp;have:=hrk v _ (qad hvl) p hp1;exact ih (rk p) (by omega) p rfl (h.lt _ (qaq hvl) p hp1) hp2
  refine⟨v,hvl,by rw[zcJ]; simp[hv],fun i hi=>?_⟩;rw[show(zas ns).getD v 0=zbh ns[v].ps by simp[zas,hvl],zcJ]at hi;rw[zcJ];have hi2:=of_decide_eq_true hi;refine decide_eq_true ?_;exact qaY fun hno=>hp ⟨i,hi2,hno⟩
theorem RightN.next{g:Nat}{ns:List NN}(h:RightN g ns){os:List Nat}(hl:os.length<ns.length):∃ v,First (zas ns) (zbh os) v:=by
 obtain⟨rk,_,hrk⟩:=h.rk;by_cases hs:∀ x∈List.range ns.length,x∈os
 ·have:=zlZ List.nodup_range hs;rw[qbP]at this;omega
 have:∃ x,x∈List.range ns.length∧x ∉ os:=qaY fun hno=>hs fun x hx=>qaY fun hx2=>hno ⟨x,hx,hx2⟩
 obtain⟨x,hx,hxo⟩:=this;obtain⟨u,hu,hr⟩:=h.ready os hrk _ x rfl (qbr.1 hx) hxo;exact znA u (by simpa [zas]using hu) hr
theorem zlL{ms:List Nat}{mask i:Nat}{β:Type}(hm:∀ m∈ms,m<18446744073709551616)(hk:mask<18446744073709551616)(hi:i<ms.length)(h64:i<64)(l:β):
  ∃ b:Bool,(b=true↔zgN ms mask i)∧((zla .u64 (mask:Int) (i:Int)).bind fun q7=>bif ((zo1 .u64 q7 1)== 0)then some (((zyn .u64 ((ms[i]:Nat):Int) (mask:Int))== 0),l)else some (false,l))=some (b,l)∧
   ((zla .u64 (mask:Int) (i:Int)).bind fun q7=>bif ((zo1 .u64 q7 1)== 0)then some ((zyn .u64 ((ms[i]:Nat):Int) (mask:Int))== 0)else some false)=some b:=by
 obtain⟨q,h1,h2⟩:=zzG (a:=mask) (v:=i) hk h64;have hmi:=hm _ (qaq hi);have hg:ms.getD i 0=ms[i]:=by simp[hi]
 simp only[h1,qaa,h2,zAd];cases hb:mask.testBit i with
 | true=>exact⟨false,by simp[zgN,hb],rfl,rfl⟩
 | false=>
  refine⟨(((diff ms[i] mask:Nat):Int)== 0),?_,rfl,rfl⟩;rw[zgN,hb,hg,← zpW hmi hk];simp
theorem zhY{ms os:List Nat}{mask C v:Nat}(hn:ms.length≤8)(hm:∀ m∈ms,m<18446744073709551616)(hk:mask<18446744073709551616)(hC:os.length+1≤C)(hv:First ms mask v):∀(n i:Nat),i≤v→v - i<n →
  zbe (iL ms) (mask:Int) C n (i:Int) (iL os)=some (.brk (((mask ||| 2 ^ v:Nat):Int),iL (os ++ [v])))
 | 0,_,_,h=>absurd h (qam _)
 | n+1,i,h1,h3=>by
  unfold zbe;have hvl:=hv.lt;have hi:i<ms.length:=by omega
  obtain⟨b,hb,e,_⟩:=zlL hm hk hi (by omega) (iL os);rw[zaq,zar,decide_eq_true hi,cond_true,za2 hi,qaa,e,qaa];simp only[];by_cases hiv:i=v
  ·subst hiv;have hpw:2 ^ i<18446744073709551616:=qbX (n:=64) (by decide) (by omega);rw[hb.2 hv.ready,cond_true];unfold zmz;rw[if_pos (by simp[zaq]; omega),qaa,zyu (by omega),qaa,orU hk hpw];simp[iL]
  have:b=false:=by
   cases b with
   | false=>rfl
   | true=>exact absurd (hb.1 rfl) (hv.least i (by omega))
  rw[this,cond_false,zao (by omega),zhY hn hm hk hC hv n (i+1) (by omega) (by omega)]
theorem zls{g:Nat}{ns:List NN}(h:RightN g ns):∀(n:Nat) (os:List Nat),zc9 (zas ns) os→os.length≤ns.length→ns.length - os.length<n →
  ∃ os',zc9 (zas ns) os'∧os'.length=ns.length∧zbp (iL (zas ns)) ns.length n ((zbh os:Nat):Int) (iL os)=some (.go (iL os'))
 | 0,_,_,_,h=>absurd h (qam _)
 | n+1,os,h1,h2,h3=>by
  unfold zbp;have hml:(zas ns).length=ns.length:=by simp[zas]
  have hn:=h.n2;rw[zaq,zaq,hml,zar];by_cases hl:os.length<ns.length
  ·obtain⟨v,hv⟩:=h.next hl;have hvl:=hv.lt;have hk:zbh os<18446744073709551616:=Go.Dc.zeC fun x hx=>by
    have:=h1.lt x hx;omega
   have e:=zhY (os:=os) (C:=ns.length) (by omega) h.zeC hk (by omega) hv (ns.length+2) 0 (qay _) (by omega);rw[show((0:Nat):Int)=0 from rfl]at e;obtain⟨os',g1,g2,g3⟩:=zls h n (os ++ [v]) (h1.app hv) (by simp; omega) (by simp; omega);refine⟨os',g1,g2,?_⟩;rw[decide_eq_true hl,cond_true,zax,e,qaa];simp only[];rw[← znI,g3]
  exact⟨os,h1,by omega,by rw[decide_eq_false hl,cond_false]⟩
theorem zql{g:Nat}{ns:List NN}(h:RightN g ns):
  ∃ os,zc9 (zas ns) os∧os.length=ns.length∧zb0 (iL (zas ns))=some (iL os,true):=by
 have hml:(zas ns).length=ns.length:=by simp[zas]
 have hn:=h.n2;obtain⟨os,g1,g2,g3⟩:=zls h (ns.length+2) [] (fun k v hk=>by simp at hk) (qay _) (by simp);refine⟨os,g1,g2,?_⟩;unfold zb0;rw[zaq,hml];have hcap:ztW 8 ((ns.length:Nat):Int)=some ns.length:=by
  unfold ztW;rw[if_pos ⟨qbs _,by simp only[zac]; omega⟩,qaF]
 rw[hcap,qaa,show(((ns.length:Nat):Int) - ((([]:List Int).length:Nat):Int)+2).toNat=ns.length+2 by simp; omega];rw[show((zbh []:Nat):Int)=0 from rfl,show iL []=[]from rfl]at g3;rw[g3,qaa]
theorem zvU{g:Nat}{ns:List NN}(h:RightN g ns):
  ∃ os,zc9 (zas ns) os∧os.length=ns.length∧zdl (zcx g ns)=some (⟨zcx g ns,iL (ns.map (·.c)),iL (zas ns),iL os⟩,0):=by
 obtain⟨os,g1,g2,g3⟩:=zql h;refine⟨os,g1,g2,?_⟩;have h1:=h.g1;have h2:=h.g2;have h3:=h.n1;have h4:=h.n2;have hl:(zcx g ns).nodes.length=ns.length:=by simp[zcx]
 have hp:=h.prod;have e1:=zq7 (g:=g) (P:=zai (ns.map (·.c))) h.n2 h.card (by omega) (ns.length+2) [] ns 1 rfl (qbq _) (by omega);have e2:=zre h (ns.length+2) [] ns rfl (by omega);simp only[qbI,qa5,qaK]at e1 e2;rw[show((0:Nat):Int)=0 from rfl]at e1 e2;rw[show((1:Nat):Int)=1 from rfl]at e1;have hz:List.replicate ns.length (0:Int)=iL (List.replicate ns.length 0):=by simp[iL]
 unfold zdl
 rw[hl,show(zcx g ns).grain=(g:Int)from rfl,show decide ((g:Int)<1)=false from decide_eq_false (by omega),cond_false,show decide ((60:Int)<(g:Int))=false from decide_eq_false (by omega),cond_false,
  show decide (((ns.length:Nat):Int)<1)=false from decide_eq_false (by omega),cond_false,qaa,show decide ((8:Int)<((ns.length:Nat):Int))=false from decide_eq_false (by omega),cond_false,
  zey (by omega),qaa,qaa,zax,hz,e1,qaa]
 simp only[];rw[show decide ((1024:Int)<((zai (ns.map (·.c)):Nat):Int))=false from decide_eq_false (by omega),cond_false,e2,qaa];simp only[];rw[show(ns.map fun x=>zbh x.ps)=zas ns from rfl,g3,qaa];simp only[];rw[cond_true]
theorem zhi(a b:List Nat):zai (a ++ b)=zai a * zai b:=by
 induction a with
 | nil=>simp[zai]
 | cons x a ih=>
  rw[qbe];show x * zai (a ++ b)=x * zai a * zai b;rw[ih,qbw]
theorem znd:∀(a b:List Nat) (j:Nat),0<zai b→j<zai a * zai b→dig (a ++ b) j=dig a (j / zai b)++ dig b (j % zai b)
 | [],b,j,_,h=>by
  have h:j<zai b:=by simpa [zai]using h
  simp[dig,qa7 h]
 | c :: a,b,j,hb,h=>by
  have ha:0<zai a:=by
   rcases qct (zai a)with h0 | h0
   ·have:zai (c :: a)=c * zai a:=rfl;rw[this,h0]at h;simp at h
   exact h0
  rw[qbe];simp only[dig];rw[znd a b (j % zai (a ++ b)) hb (by rw[zhi]; exact qbm _ (qc6 ha hb)),zhi,qbe];have e1:j / (zai a * zai b)=j / zai b / zai a:=by rw[qcT,qa2]
  have e2:j % (zai a * zai b) / zai b=j / zai b % zai a:=by rw[qa2,Nat.mod_mul_right_div_self]
  have e3:j % (zai a * zai b) % zai b=j % zai b:=Nat.mod_mod_of_dvd _ ⟨zai a,qa2 _ _⟩;rw[e1,e2,e3]
def zpC(B c:Nat)(rows:List (List Nat))(j:Nat):Nat:=(rows.getD (j / (c * B)* B+j % B) []).getD (j / B % c) 0
theorem zqH{B c i x j:Nat}(hB:0<B)(hx:x<c)(h:(j / (c * B)* B+j % B)* c+j / B % c=i * c+x):j=(i / B * c+x)* B+i % B:=by
 have hc:0<c:=by omega
 have h1:j / B % c=x:=by
  have:=congrArg (· % c) h;rw[qb2,qbA,Nat.mod_mod,qb2 (i * c),qbA,qa7 hx]at this;exact this
 have h2:j / (c * B)* B+j % B=i:=by
  have:(j / (c * B)* B+j % B)* c=i * c:=by omega
  exact Nat.eq_of_mul_eq_mul_right hc this
 have h3:i / B=j / (c * B):=by
  rw[← h2,qb2,qcA _ _ hB,qb8 (qbm _ hB),qaZ]
 have h4:i % B=j % B:=by
  rw[← h2,qb2,qbA,Nat.mod_mod]
 rw[h3,h4,← h1];have e1:j / (c * B)=j / B / c:=by rw[qcT,qa2]
 rw[e1];have e2:=qcl (j / B) c;have e3:=qcl j B;rw[qa2 c]at e2;rw[e2,qa2 (j / B)];omega
theorem zya{A B c i x:Nat}(hi:i<A * B)(hx:x<c):(i / B * c+x)* B+i % B<A * c * B:=by
 have hB:0<B:=by
  rcases qct B with h | h
  ·subst h; simp at hi
  exact h
 have h1:i / B<A:=qbY (by rw[qa2]; exact hi);have h2:i % B<B:=qbm _ hB;have h3:i / B * c+x<A * c:=by
  have:=qax c (show i / B+1≤A from h1);rw[qaP,qbq]at this;omega
 have h4:=qax B (show i / B * c+x+1≤A * c from h3);rw[qaP,qbq]at h4;omega
theorem zx1{B c i x:Nat}(hB:0<B)(hx:x<c):((i / B * c+x)* B+i % B) / (c * B)* B+((i / B * c+x)* B+i % B) % B=i∧((i / B * c+x)* B+i % B) / B % c=x:=by
 have h2:i % B<B:=qbm _ hB;have e1:((i / B * c+x)* B+i % B) / B=i / B * c+x:=by rw[qb2,qcA _ _ hB,qb8 h2,qaZ]
 have e2:((i / B * c+x)* B+i % B) % B=i % B:=by rw[qb2,qbA,Nat.mod_mod]
 have e3:(i / B * c+x) / c=i / B:=by rw[qb2,qcA _ _ (by omega),qb8 hx,qaZ]
 have e4:(i / B * c+x) % c=x:=by rw[qb2,qbA,qa7 hx]
 refine⟨?_,by rw[e1,e4]⟩;rw[qa2 c,← qcT,e1,e3,e2,qa2];exact qcl i B
structure Fil (A B c:Nat) (rows:List (List Nat)) (k:Nat) (w:List Nat):Prop where
 len:w.length=A * c * B
 at_:∀ j,j<A * c * B→(j / (c * B)* B+j % B)* c+j / B % c<k→w.getD j 0=zpC B c rows j
theorem Fil.step{A B c i x:Nat}{rows:List (List Nat)}{w:List Nat}(h:Fil A B c rows (i * c+x) w)(hB:0<B)(hi:i<A * B)(hx:x<c):
  Fil A B c rows (i * c+(x+1)) (w.set ((i / B * c+x)* B+i % B) ((rows.getD i []).getD x 0)):=by
 have hlt:=zya (A:=A) hi hx;refine⟨by rw[qat]; exact h.len,fun j hj hk=>?_⟩;by_cases e:(i / B * c+x)* B+i % B=j
 ·subst e;obtain⟨k1,k2⟩:=zx1 (i:=i) hB hx;unfold zpC;rw[k1,k2,qav,qaA (by rw[h.len]; exact hlt),qbo]
 rw[qav,qan e,← qav];refine h.at_ j hj ?_;rcases qbf ((j / (c * B)* B+j % B)* c+j / B % c) (i * c+x)with g | g
 ·exact g
 exact absurd (zqH hB hx (by omega)).symm e
theorem Fil.next{A B c i:Nat}{rows:List (List Nat)}{w:List Nat}(h:Fil A B c rows (i * c+c) w):Fil A B c rows ((i+1)* c+0) w:=by
 rw[qbH,qaP,qbq]; exact h
theorem Fil.start(A B c:Nat)(rows:List (List Nat)):Fil A B c rows (0 * c+0) (List.replicate (A * c * B) 0):=
 ⟨by simp,fun j _ h=>absurd h (by omega)⟩
theorem Fil.all{A B c:Nat}{rows:List (List Nat)}{w:List Nat}(h:Fil A B c rows (A * B * c+0) w)(hB:0<B)(hc:0<c):w=(List.range' 0 (A * c * B)).map (zpC B c rows):=by
 apply qcr
 ·simp[h.len]
 intro j h1 h2;have hj:j<A * c * B:=by rw[← h.len]; exact h1
 have hk:(j / (c * B)* B+j % B)* c+j / B % c<A * B * c+0:=by
  have g1:j / (c * B)<A:=qbY (by rw[qa2 (c * B),← qbw]; exact hj);have g2:j % B<B:=qbm _ hB;have g3:j / B % c<c:=qbm _ hc;have g4:=qax B (show j / (c * B)+1≤A from g1);rw[qaP,qbq]at g4;have g5:=qax c (show j / (c * B)* B+j % B+1≤A * B by omega);rw[qaP,qbq]at g5;omega
 have:=h.at_ j hj hk;rw[qav,qad h1,qbo]at this;rw[this];simp
section
variable {x:S_api_Factor} {p3:Int}
end
section
variable {y4 l1:List Int} {x:S_api_Factor}
end
section
variable {r6 r8:S_api_Factor} {p3:Int} {y4:List Int}
end
def Fit(f:Fc)(s:Nat→Nat):Prop:=∀ v∈f.vs,s v<at_ f.vs f.cs v
theorem zkR{s:Nat→Nat}:∀ {us cs:List Nat},us.length=cs.length→us.Nodup→(∀ c∈cs,1≤c∧c≤8)→(∀ v∈us,s v<at_ us cs v)→zcP cs (us.map s)
 | [],[],_,_,_,_=>trivial
 | [],c :: cs,h,_,_,_=>by simp at h
 | u :: us,[],h,_,_,_=>by simp at h
 | u :: us,c :: cs,hl,hn,hc,h=>by
  obtain⟨h1,h2⟩:=qbT.1 hn;have hu:=h u qap;rw[zia,beq_self_eq_true,cond_true]at hu;refine⟨hu,(hc c qap).2,zkR (by simpa using hl) h2 (fun d hd=>hc d (qal _ hd)) fun v hv=>?_⟩;have:=h v (qal _ hv)
  rwa [zia,show(u == v)=false from beq_false_of_ne (fun e=>h1 (e ▸ hv)),cond_false]at this
theorem Fit.below{f:Fc}(hf:FcOk f){s:Nat→Nat}(h:Fit f s):zcP f.cs (f.vs.map s):=zkR hf.len (zlX hf.inc) hf.card h
def upd(s:Nat→Nat)(v p:Nat)(u:Nat):Nat:=bif u == v then p else s u
theorem zou(s:Nat→Nat)(v p:Nat):upd s v p v=p:=by unfold upd; rw[beq_self_eq_true,cond_true]
theorem zui{s:Nat→Nat}{v p u:Nat}(h:u≠v):upd s v p u=s u:=by unfold upd; rw[beq_false_of_ne h,cond_false]
end Go.Dc
