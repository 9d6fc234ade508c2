/-
 Plain laws: a row of a table sums to the grain. Conditions: none.
-/
import Derived.Test.YtnfgibomhkbcpaaNrJ14
import Derived.Test.YtnfgibomhkbcpaaNrJ6
import Derived.Test.YtnfgibomhkbcpaaNrJ9
set_option linter.unusedSimpArgs false
set_option linter.unusedVariables false
namespace Go.Dc
open Go Go.Mx Go.Lx
theorem zsg{xs:List Nat}{i v:Nat}(h:i<xs.length):zeP (iL xs) (i:Int) (v:Int)=some (iL (xs.set i v)):=by
 rw[zes (by rw[zan]; exact h)]; simp[iL]
theorem zoK(xs ys:List Nat):iL (xs ++ ys)=iL xs ++ iL ys:=by simp[iL]
theorem zrW:∀ {xs:List Nat} {i k:Nat} (h:i<xs.length),(xs.set i (xs[i]+k)).sum=xs.sum+k
 | [],i,k,h=>absurd h (qas _)
 | x :: xs,0,k,h=>by simp; omega
 | x :: xs,i+1,k,h=>by
  have:=zrW (xs:=xs) (i:=i) (k:=k) (by simpa using h);simp only[qcu,qcP,List.getElem_cons_succ,this];omega
theorem ziH:∀ {xs:List Nat} {i:Nat} (h:i<xs.length),xs[i]≤xs.sum
 | [],i,h=>absurd h (qas _)
 | x :: xs,0,h=>by simp
 | x :: xs,i+1,h=>by
  have:=ziH (xs:=xs) (i:=i) (by simpa using h);simp only[qcP,List.getElem_cons_succ];omega
theorem zdU{xs0 bs:List Nat}{x:Nat}:za5 (iL (xs0 ++ x :: bs)) ((xs0.length:Nat):Int)=some (x:Int):=by
 rw[za7 (by simp)]; simp
theorem zhs{xs0 bs:List Nat}{x y:Nat}:zeP (iL (xs0 ++ x :: bs)) ((xs0.length:Nat):Int) (y:Int)=some (iL (xs0 ++ y :: bs)):=by
 rw[zsg (by simp)]; simp
theorem znA{a b:Nat}(hb:0<b):zpl (a:Int) (b:Int)=some ((a % b:Nat):Int):=by
 unfold zpl;have:((b:Int)== 0)=false:=by simp; omega
 rw[this,cond_false]; rfl
theorem zzK{ws:List Nat}{g p c:Nat}(hp:p≤65536)(hc:c≤8):∀(n:Nat) (xs0:List Nat) (k:Nat),xs0.length+k=c→xs0.sum≤7 * xs0.length→k<n →
  ∃ zs:List Nat,zs.length=c∧zs.sum≤7 * c∧zcG (c:Int) (iL ws) (p:Int) n ((xs0.sum:Nat):Int) (xs0.length:Int) (iL (xs0 ++ List.replicate k 0))=some (((zs.sum:Nat):Int),iL zs)
 | 0,_,_,_,_,h=>absurd h (qas _)
 | n+1,xs0,0,h1,h2,h3=>by
  refine⟨xs0,by simpa using h1,by rw[← h1]; simpa using h2,?_⟩;unfold zcG;rw[zaH,decide_eq_false (by omega),cond_false];simp
 | n+1,xs0,k+1,h1,h2,h3=>by
  have step:∀ a:Nat,a≤7→∃ zs:List Nat,zs.length=c∧zs.sum≤7 * c∧zcG (c:Int) (iL ws) (p:Int) n (w64 (((xs0.sum:Nat):Int)+(a:Int))) (w64 ((xs0.length:Int)+1)) (iL (xs0 ++ a :: List.replicate k 0))=some (((zs.sum:Nat):Int),iL zs):=by
   intro a ha;obtain⟨zs,e1,e2,e3⟩:=zzK (ws:=ws) (g:=g) hp hc n (xs0 ++ [a]) k (by simp; omega) (by simp; omega) (by omega);refine⟨zs,e1,e2,?_⟩;rw[zap (by omega),← qci,zav (by omega),← e3];simp
  unfold zcG;rw[zaH,decide_eq_true (by omega),cond_true,zan,qaU];by_cases h0:0<ws.length
  ·have hq:(p+xs0.length) % ws.length<ws.length:=qbf _ h0;obtain⟨zs,e1,e2,e3⟩:=step (ws[(p+xs0.length) % ws.length] % 8) (by omega);refine⟨zs,e1,e2,?_⟩
   rw[show decide ((0:Int)<(ws.length:Int))=true by simpa using h0,cond_true,← qci,zav (by omega),znA h0,qaa,za7 hq,qaa,zdU,
    qaa,show(((ws[(p+xs0.length) % ws.length]:Nat):Int).tmod 8)=((ws[(p+xs0.length) % ws.length] % 8:Nat):Int)from rfl,zav (by omega),zhs,
    qaa,qaa,zdU,qaa,e3]
  obtain⟨zs,e1,e2,e3⟩:=step 0 (by omega);refine⟨zs,e1,e2,?_⟩;rw[show decide ((0:Int)<(ws.length:Int))=false by simpa using h0,cond_false,qaa,zdU,qaa,e3]
theorem zyV{g t c:Nat}(hg:g≤60)(hc:c≤8)(ht:t≤65536):∀(n:Nat) (xs0 bs:List Nat) (m:Nat) (v:Nat),xs0.length+bs.length=c→xs0.sum * t+g * bs.sum≤g * t→bs.sum≤t→xs0.sum≤g→v<c→bs.length<n →
  ∃(zs:List Nat) (v':Nat),zs.length=c∧zs.sum≤g∧v'<c∧zc9 (c:Int) (g:Int) (t:Int) n ((g - xs0.sum:Nat):Int) (v:Int) (xs0.length:Int) (iL (xs0 ++ bs))=some (((g - zs.sum:Nat):Int),(v':Int),iL zs)
 | 0,_,_,_,_,_,_,_,_,_,h=>absurd h (qas _)
 | n+1,xs0,[],m,v,h1,h2,h2b,h3,h4,h5=>by
  refine⟨xs0,v,by simpa using h1,h3,h4,?_⟩;unfold zc9;rw[zaH,decide_eq_false (by simp at h1; omega),cond_false];simp
 | n+1,xs0,b :: bs,m,v,h1,h2,h2b,h3,h4,h5=>by
  simp only[qaF,qcP]at h1 h2 h2b h5;unfold zc9;rw[zaH,decide_eq_true (by omega),cond_true,zdU,qaa];by_cases h0:0<b
  ·have hb:b≤t:=by omega
   have hgb:g * b≤60 * 65536:=qbz hg (by omega);have hd:g * b / t * t≤g * b:=Nat.div_mul_le_self _ _;have hs:xs0.sum+g * b / t≤g:=by
    have h6:(xs0.sum+g * b / t)* t≤g * t:=by
     rw[qaH];have:g * (b+bs.sum)=g * b+g * bs.sum:=Nat.mul_add _ _ _;omega
    exact qb5 h6 (by omega)
   obtain⟨zs,v',e1,e2,e3,e4⟩:=zyV hg hc ht n (xs0 ++ [g * b / t]) bs m xs0.length (by simp; omega) (by
    have:g * (b+bs.sum)=g * b+g * bs.sum:=Nat.mul_add _ _ _
    simp only[List.sum_append,qcP,List.sum_nil,qbn,qaH]; omega) (by omega) (by simpa using hs) (by omega) (by omega)
   refine⟨zs,v',e1,e2,e3,?_⟩;have hq:zo5 .i64 (w64 ((g:Int)* (b:Int))) (t:Int)=some ((g * b / t:Nat):Int):=by
    unfold zo5;have:((t:Int)== 0)=false:=by simp; omega
    rw[this,cond_false,← qaW,zav (by omega)];have hle:g * b / t≤g * b:=qcL _ _;exact congrArg some (zav (n:=g * b / t) (by omega))
   rw[show decide ((0:Int)<(b:Int))=true by simpa using h0,cond_true,hq,qaa,zhs,qaa,qaa];simp only[];rw[zdU,qaa,zap (by omega),show(((g - xs0.sum:Nat):Int) - ((g * b / t:Nat):Int))=((g - (xs0.sum+g * b / t):Nat):Int) by omega,zav (qca (Nat.sub_le _ _) (by omega)),← e4];simp
  have hb:b=0:=by omega
  subst hb;obtain⟨zs,v',e1,e2,e3,e4⟩:=zyV hg hc ht n (xs0 ++ [0]) bs m v (by simp; omega) (by simp at h2 ⊢; omega) (by omega) (by simpa using h3) h4 (by omega);refine⟨zs,v',e1,e2,e3,?_⟩;rw[show decide ((0:Int)<((0:Nat):Int))=false from rfl,cond_false,qaa];simp only[];rw[zdU,qaa,zap (by omega),← Int.ofNat_sub (by omega),zav (by omega),← e4];simp
theorem zvR{ws:List Nat}{g p c:Nat}(hg:g≤60)(hp:p≤65536)(h1:1≤c)(hc:c≤8):
  ∃ zs:List Nat,zs.length=c∧zs.sum=g∧zfd (g:Int) (c:Int) (iL ws) (p:Int)=some (iL zs):=by
 obtain⟨zs,e1,e2,e3⟩:=zzK (ws:=ws) (g:=g) hp hc (c+2) [] c (by simp) (by simp) (by omega);obtain⟨ys,v,f1,f2,f3,f4⟩:=zyV (g:=g) (t:=zs.sum) (c:=c) hg hc (by omega) (c+2) [] zs 0 0 (by simp[e1]) (by simp) (qam _) (by simp) (by omega) (by omega);have hv:v<ys.length:=by omega
 refine⟨ys.set v (ys[v]+(g - ys.sum)),by simp[f1],by rw[zrW]; omega,?_⟩;unfold zfd;have hz:List.replicate c (0:Int)=iL (List.replicate c 0):=by simp[iL]
 simp only[qa9,List.sum_nil,qaN,qcw]at e3 f4;rw[zc6 (by omega),qaa,hz,zaX];rw[show((0:Nat):Int)=0 from rfl]at e3 f4;rw[e3,qaa];simp only[];rw[f4,qaa];simp only[];rw[za7 hv,qaa,← qci,zav,zsg hv,qaa];have:ys[v]≤ys.sum:=ziH hv;omega
theorem zrz{c w:Nat}{os:List Int}{wh:Int}(hc:c≤5):∀(n i:Nat) (acc:List Int),acc.length=i→i≤c→c - i<n →
  ∃ zs:List Int,zs.length=c∧zbh ⟨List.replicate c 0,wh,os⟩ n (i:Int) acc=some zs
 | 0,_,_,_,_,h=>absurd h (qas _)
 | n+1,i,acc,h1,h2,h3=>by
  unfold zbh;simp only[qbH];by_cases hi:i<c
  ·obtain⟨zs,e1,e2⟩:=zrz (w:=w) (os:=os) (wh:=wh) hc n (i+1) (acc ++ [1]) (by simp[h1]) hi (by omega);refine⟨zs,e1,?_⟩
   rw[zaH,decide_eq_true hi,cond_true,qaa,show decide ((i:Int)<5)=true by simp; omega,cond_true,zbw (by simpa using hi),qaa,
    List.getElem_replicate,show w64 (1+w64 ((0:Int).tmod 4))=1 from rfl,zdZ (by simp; omega),qaa,zap (by omega),e2]
  exact⟨acc,by omega,by rw[zaH,decide_eq_false hi,cond_false,qaa,cond_false]⟩
theorem zs9{c N:Nat}{os:List Int}{wh:Int}(hc:c≤5)(hN:6≤N):∃ zs:List Int,zs.length=c∧zbJ N ⟨List.replicate c 0,wh,os⟩=some zs:=by
 obtain⟨zs,e1,e2⟩:=zrz (w:=0) (os:=os) (wh:=wh) hc N 0 [] rfl (qaC _) (by omega);refine⟨zs,e1,?_⟩;unfold zbJ;rw[show((0:Nat):Int)=0 from rfl]at e2;rw[e2,qaa]
structure PermOk (c:Nat) (xs:List Nat):Prop where
 len:xs.length=c
 nod:xs.Nodup
 lt:∀ x∈xs,x<c
 all:∀ x,x<c→x∈xs
theorem zl6{α:Type}{xs:List α}{a b:Nat}(h1:a≤b)(h2:b≤xs.length):ze2 xs (a:Int) (b:Int)=some ((xs.drop a).take (b - a)):=by
 unfold ze2;rw[if_pos (by omega)];simp
theorem zur{c N:Nat}{os:List Nat}{wh:Int}(hc:c≤5)(hN:6≤N)(ho:∀ o∈os,o≤255):∀(n i:Nat) (xs:List Nat),PermOk i xs→i≤c→c - i<n →
  ∃ zs:List Nat,PermOk c zs∧zaD N ⟨List.replicate c 0,wh,iL os⟩ n (i:Int) (iL xs)=some (iL zs)
 | 0,_,_,_,_,h=>absurd h (qas _)
 | n+1,i,xs,h1,h2,h3=>by
  unfold zaD;obtain⟨z0,z1,z2⟩:=zs9 (os:=iL os) (wh:=wh) hc hN;rw[z2,qaa,z1];by_cases hi:i<c
  ·have step:∀ q:Nat,q≤i→∃ zs:List Nat,PermOk c zs∧((ze2 (iL xs) 0 (q:Int)).bind fun y9=>
     (zdq 8 y9).bind fun y11=>(zdL 8 y9 [(i:Int)]).bind fun y13=>(ze2 (iL xs) (q:Int) (iL xs).length).bind fun y15=>(zdL 8 y13 y15).bind fun y17=>
     zaD N ⟨List.replicate c 0,wh,iL os⟩ n (w64 ((i:Int)+1)) y17)=some (iL zs):=by
    intro q hq;have hl:=h1.len;have hp:List.Perm (xs.take q ++ i :: xs.drop q) (i :: xs):=by
     refine List.perm_middle.trans ?_;rw[qbU]
    obtain⟨zs,e1,e2⟩:=zur (wh:=wh) hc hN ho n (i+1) (xs.take q ++ i :: xs.drop q) ⟨by rw[hp.length_eq]; simp[hl],hp.nodup_iff.2 (qbr.2 ⟨fun hx=>qb9 _ (h1.lt _ hx),h1.nod⟩),
     fun x hx=>by
      rcases qaP.1 (hp.mem_iff.1 hx)with h | h
      ·omega
      have:=h1.lt _ h; omega,
     fun x hx=>hp.mem_iff.2 (by
      by_cases hxi:x=i
      ·exact qaP.2 (.inl hxi)
      exact qak _ (h1.all _ (by omega)))⟩ hi (by omega)
    refine⟨zs,e1,?_⟩
    rw[show(0:Int)=((0:Nat):Int)from rfl,zl6 (qaC _) (by rw[zan]; omega),qaa,zgB (by simp[zan]; omega),qaa,
     zdZ (by simp[zan]; omega),qaa,zl6 (by rw[zan]; omega) (qam _),qaa,zdZ (by simp[zan]; omega),qaa,zap (by omega),← e2]
    congr 1
    simp[iL,qaK]
   rw[zaH,decide_eq_true hi,cond_true];simp only[zan (os)];by_cases hio:i<os.length
   ·have hq:os[i] % (i+1)≤i:=Nat.lt_succ_iff.1 (qbf _ (Nat.succ_pos _));have hb:=ho _ (qat hio);obtain⟨zs,e1,e2⟩:=step _ hq;refine⟨zs,e1,?_⟩;rw[zaH,decide_eq_true hio,cond_true,za7 hio,qaa,zav (by omega),zap (by omega),znA (by omega),qaa,qaa,← zap (by omega)];exact e2
   obtain⟨zs,e1,e2⟩:=step 0 (qaC _);refine⟨zs,e1,?_⟩;rw[zaH,decide_eq_false hio,cond_false,qaa];exact e2
  have:i=c:=by omega
  subst this;exact⟨xs,h1,by rw[zaH,decide_eq_false hi,cond_false]⟩
theorem zvw{c N:Nat}{os:List Nat}{wh:Int}(hc:c≤5)(hN:6≤N)(ho:∀ o∈os,o≤255):
  ∃ zs:List Nat,PermOk c zs∧za4 N ⟨List.replicate c 0,wh,iL os⟩=some (iL zs):=by
 obtain⟨zs,e1,e2⟩:=zur (wh:=wh) hc hN ho N 0 [] ⟨rfl,List.nodup_nil,by simp,by simp⟩ (qaC _) (by omega);refine⟨zs,e1,?_⟩;unfold za4;rw[show((0:Nat):Int)=0 from rfl,show iL []=[]from rfl]at e2;rw[e2,qaa]
structure NN where
 c:Nat
 ps:List Nat
 rows:List (List Nat)
def nd(x:NN):S_api_Node:=⟨x.c,iL x.ps,x.rows.map iL⟩
theorem zs0(k:IntKind)(a:Int){v:Nat}:∃ q,zmr k a (v:Int)=some q:=by
 unfold zmr;rw[if_pos (qbx v)];exact⟨_,rfl⟩
theorem ztO{num ps:List Nat}{ps8:Int}{u k:Nat}(hk:k<num.length):∃ b,zt2 (iL num) ps8 (u:Int) (k:Int) (iL ps)=some b∧(b=true→num[k]=u∧ps.length<3):=by
 unfold zt2;rw[za7 hk,qaa];by_cases h:num[k]=u
 ·obtain⟨q,e⟩:=zs0 .u8 ps8 (v:=k % 18446744073709551616);rw[show(((num[k]:Nat):Int)==(u:Int))=true by simp[h],cond_true,zxR,e,qaa];cases zpX .u8 q 1 == 1 with
  | true=>exact⟨_,rfl,fun h2=>⟨h,by rw[zan]at h2; have:=of_decide_eq_true h2; omega⟩⟩
  | false=>exact⟨_,rfl,fun h2=>by cases h2⟩
 rw[show(((num[k]:Nat):Int)==(u:Int))=false by simp; omega,cond_false];exact⟨_,rfl,fun h2=>by cases h2⟩
theorem zkw{num:List Nat}{ps8:Int}{u i:Nat}(hi:i≤num.length)(hn:num.length≤5)(hd:num.Nodup):∀(n k:Nat) (ps:List Nat),ps.length≤3→k≤i→i - k<n →
  ∃ qs:List Nat,zne (iL num) (i:Int) ps8 (u:Int) n (k:Int) (iL ps)=some (iL qs)∧(qs=ps∨(qs=ps ++ [u]∧ps.length<3∧∃ j,k≤j∧j<i∧num[j]? = some u))
 | 0,_,_,_,_,h=>absurd h (qas _)
 | n+1,k,ps,h1,h2,h3=>by
  unfold zne;by_cases hk:k<i
  ·obtain⟨b,e,hb⟩:=ztO (num:=num) (ps:=ps) (ps8:=ps8) (u:=u) (k:=k) (by omega);rw[zaH,decide_eq_true hk,cond_true,e,qaa];cases b with
   | false=>
    obtain⟨qs,e2,h4⟩:=zkw (ps8:=ps8) (u:=u) hi hn hd n (k+1) ps h1 hk (by omega);refine⟨qs,by rw[cond_false,zap (by omega),e2],?_⟩;rcases h4 with h4 | ⟨h4,h5,j,h6,h7,h8⟩
    ·exact .inl h4
    ·exact .inr ⟨h4,h5,j,by omega,h7,h8⟩
   | true=>
    obtain⟨h5,h6⟩:=hb rfl;obtain⟨qs,e2,h4⟩:=zkw (ps8:=ps8) (u:=u) hi hn hd n (k+1) (ps ++ [u]) (by simp; omega) hk (by omega);refine⟨qs,?_,.inr ⟨?_,h6,k,qam _,hk,by rw[qad (by omega),h5]⟩⟩
    ·rw[cond_true,zdZ (by simp[zan]; omega),qaa,zap (by omega),← e2];simp[iL]
    rcases h4 with h4 | ⟨h4,h7,j,h8,h9,h10⟩
    ·exact h4
    exfalso
    have hj:j<num.length:=by omega
    rw[qad hj]at h10;have h12:num[j]=num[k]'(by omega):=by rw[h5]; exact qac h10
    exact qbk.1 hd k j (by omega) hj (by omega) h12.symm
  exact⟨ps,by rw[zaH,decide_eq_false hk,cond_false],.inl rfl⟩
structure ParOk (num:List Nat) (i:Nat) (b:Nat) (ps:List Nat):Prop where
 len:ps.length≤3
 inc:ps.Pairwise (· < ·)
 lt:∀ p∈ps,p<b
 mem:∀ p∈ps,∃ j,j<i∧num[j]? = some p
theorem zoX{num:List Nat}{ps8:Int}{i c:Nat}(hi:i≤num.length)(hn:num.length≤5)(hc:c≤5)(hd:num.Nodup):∀(n u:Nat) (ps:List Nat),ParOk num i u ps→u≤c→c - u<n →
  ∃ qs:List Nat,zpy (iL num) (i:Int) ps8 (c:Int) n (u:Int) (iL ps)=some (iL qs)∧ParOk num i c qs
 | 0,_,_,_,_,h=>absurd h (qas _)
 | n+1,u,ps,h1,h2,h3=>by
  unfold zpy;by_cases hu:u<c
  ·obtain⟨qs,e,h4⟩:=zkw (ps8:=ps8) (u:=u) hi hn hd (i+2) 0 ps h1.len (qaC _) (by omega);rw[show((0:Nat):Int)=0 from rfl]at e;have hq:ParOk num i (u+1) qs:=by
    rcases h4 with h4 | ⟨h4,h5,j,h6,h7,h8⟩
    ·subst h4;exact⟨h1.len,h1.inc,fun p hp=>Nat.lt_succ_of_lt (h1.lt p hp),h1.mem⟩
    subst h4;refine⟨by simp; omega,?_,?_,?_⟩
    ·rw[qcz];exact⟨h1.inc,List.pairwise_singleton _ _,fun a ha b hb=>by rw[qa5.1 hb]; exact h1.lt a ha⟩
    ·intro p hp;rcases qbT.1 hp with hp | hp
     ·exact Nat.lt_succ_of_lt (h1.lt p hp)
     rw[qa5.1 hp]; exact qbN _
    intro p hp;rcases qbT.1 hp with hp | hp
    ·exact h1.mem p hp
    rw[qa5.1 hp]; exact⟨j,h7,h8⟩
   obtain⟨rs,e2,h9⟩:=zoX (ps8:=ps8) hi hn hc hd n (u+1) qs hq hu (by omega);refine⟨rs,?_,h9⟩;rw[zaH,decide_eq_true hu,cond_true,qaD,e,qaa,zap (by omega),e2]
  have:u=c:=by omega
  subst this;exact⟨ps,by rw[zaH,decide_eq_false hu,cond_false],h1⟩
theorem zcS{ns:List NN}{v:Nat}(h:v<ns.length):za5 (ns.map nd) (v:Int)=some (nd ns[v]):=by
 rw[zbw (by simpa using h)]; simp
theorem zgh{ns:List NN}{v:Nat}{x:NN}(h:v<ns.length):zeP (ns.map nd) (v:Int) (nd x)=some ((ns.set v x).map nd):=by
 rw[zes (by simpa using h)]; simp
theorem zvh{num:List Nat}{ps8:Int}{i:Nat}{ns:List NN}{v:Nat}(hi:i≤num.length)(hn:num.length≤5)(hl:ns.length≤5)(hd:num.Nodup)(hv:v<ns.length)(hp:ns[v].ps=[]):
  ∃ qs:List Nat,zmF (iL num) (i:Int) (v:Int) (ns.length:Int) ps8 (ns.map nd)=some ((ns.set v ⟨ns[v].c,qs,ns[v].rows⟩).map nd)∧ParOk num i ns.length qs:=by
 obtain⟨qs,e,h⟩:=zoX (ps8:=ps8) hi hn hl hd (ns.length+2) 0 [] ⟨by simp,by simp,by simp,by simp⟩ (qaC _) (by omega);refine⟨qs,?_,h⟩;unfold zmF;rw[show((0:Nat):Int)=0 from rfl,show iL []=[]from rfl]at e;rw[zcS hv,qaa,show(nd ns[v]).parents.isEmpty=true by simp[nd,hp,iL],cond_true,qaD,e,qaa];exact zgh (x:=⟨ns[v].c,qs,ns[v].rows⟩) hv
structure RowsOk (g c m:Nat) (rows:List (List Nat)):Prop where
 len:rows.length=m
 row:∀ r∈rows,r.length=c∧r.sum=g
theorem zhD{ns:List NN}{v:Nat}{x:NN}(hv:v<ns.length)(hx:x.c=ns[v].c):(ns.set v x).map (·.c)=ns.map (·.c):=by
 rw[List.map_set,hx];apply qbP (by simp);intro i h1 h2;rw[List.getElem_set];split
 ·subst_vars; simp
 rfl
def zdo(ns:List NN)(ps:List Nat):List Nat:=ps.map fun p=>(ns.map (·.c)).getD p 0
theorem zu4{xs:List Nat}{p:Nat}:(iL xs).getD p 0=((xs.getD p 0:Nat):Int):=by
 simp only[iL,qai,qa3];cases xs[p]?<;>rfl
theorem zyD{g:Int}{ns:List NN}{v:Nat}(hl:ns.length≤8)(hv:v<ns.length)(hp:Pl ns.length ns[v].ps)(h8:ns[v].ps.length≤8):
  zbu ⟨g,ns.map nd⟩ (v:Int)=some (iL (zdo ns ns[v].ps)):=by
 unfold zbu;rw[zcS hv,qaa,zty (by simpa using hl),qaa];have hc:(ns.map nd).map (·.card)=iL (ns.map (·.c)):=by simp[iL,nd,Function.comp_def]
 simp only[];rw[hc,show(nd ns[v]).parents=iL ns[v].ps from rfl,zyM (by rw[zan,qaE]; exact hp) h8,qaa];congr 1
 simp only[zu4];simp only[zdo,iL,qc7,Function.comp_def]
theorem zoc{g:Nat}{W:List Nat}{ns:List NN}{v m:Nat}(hg:g≤60)(hl:ns.length≤8)(hv:v<ns.length)(hp:Pl ns.length ns[v].ps)(h8:ns[v].ps.length≤8)(hc1:1≤ns[v].c)(hc4:ns[v].c≤4)
  (hs:∀ x∈zdo ns ns[v].ps,1≤x) (hm:zab (zdo ns ns[v].ps)=m) (hm2:m≤1024):∀(n r:Nat) (rows:List (List Nat)),RowsOk g ns[v].c r rows→r≤m→m - r<n →
  ∃ rows',RowsOk g ns[v].c m rows'∧zpE (g:Int) (v:Int) (iL W) (ns.map nd) (nd ns[v]) n (r:Int) (rows.map iL)=some (rows'.map iL)
 | 0,_,_,_,_,h=>absurd h (qas _)
 | n+1,r,rows,h1,h2,h3=>by
  unfold zpE;have hx:(⟨(nd ns[v]).card,(nd ns[v]).parents,rows.map iL⟩:S_api_Node)=nd ⟨ns[v].c,ns[v].ps,rows⟩:=rfl;have hpc:zbu ⟨g,(ns.set v ⟨ns[v].c,ns[v].ps,rows⟩).map nd⟩ (v:Int)=some (iL (zdo ns ns[v].ps)):=by
   rw[zyD (by simpa using hl) (by simpa using hv) (by simpa using hp) (by simpa using h8)];unfold zdo;rw[zhD (x:=⟨ns[v].c,ns[v].ps,rows⟩) hv rfl];simp
  rw[hx,zgh hv,qaa,hpc,qaa,zv0 hs (by simpa [zdo]using h8) (by omega),qaa,hm];by_cases hr:r<m
  ·have hmul:r * (ns[v].c+1)≤1024 * 5:=qbz (by omega) (by omega);obtain⟨zs,e1,e2,e3⟩:=zvR (ws:=W) (g:=g) (p:=r * (ns[v].c+1)) (c:=ns[v].c) hg (by omega) hc1 (by omega)
   obtain⟨rows',e4,e5⟩:=zoc hg hl hv hp h8 hc1 hc4 hs hm hm2 (W:=W) n (r+1) (rows ++ [zs]) ⟨by simp[h1.len],by
    intro y hy;rcases qbT.1 hy with hy | hy
    ·exact h1.row y hy
    rw[qa5.1 hy]; exact⟨e1,e2⟩⟩ hr (by omega)
   refine⟨rows',e4,?_⟩;have hcard:(nd ns[v]).card=((ns[v].c:Nat):Int):=rfl;have hlen:=h1.len;rw[zaH,decide_eq_true hr,cond_true,hcard,zap (by omega),← qaW,zav (by omega),e3,qaa,zdZ (by simp; omega),qaa,zap (by omega),← e5];simp
  have:r=m:=by omega
  subst this;exact⟨rows,h1,by rw[zaH,decide_eq_false hr,cond_false]⟩
theorem zvX{g N:Nat}{W:List Nat}{ns:List NN}{v:Nat}(hg:g≤60)(hl:ns.length≤8)(hv:v<ns.length)(hp:Pl ns.length ns[v].ps)(h8:ns[v].ps.length≤8)(hc1:1≤ns[v].c)(hc4:ns[v].c≤4)
  (hs:∀ x∈zdo ns ns[v].ps,1≤x) (hm2:zab (zdo ns ns[v].ps)≤1024) (hr:ns[v].rows=[]) (hN:1025≤N):
  ∃ rows,RowsOk g ns[v].c (zab (zdo ns ns[v].ps)) rows∧znu N (g:Int) (v:Int) (iL W) (ns.map nd)=some ((ns.set v ⟨ns[v].c,ns[v].ps,rows⟩).map nd):=by
 obtain⟨rows,e1,e2⟩:=zoc hg hl hv hp h8 hc1 hc4 hs rfl hm2 (W:=W) N 0 [] ⟨rfl,by simp⟩ (qaC _) (by omega);refine⟨rows,e1,?_⟩;unfold znu;rw[show((0:Nat):Int)=0 from rfl,show([]:List (List Nat)).map iL=[]from rfl]at e2;rw[zcS hv,qaa,show(nd ns[v]).rows.isEmpty=true by simp[nd,hr],cond_true,e2,qaa];exact zgh (x:=⟨ns[v].c,ns[v].ps,rows⟩) hv
structure NodeOk (num:List Nat) (g:Nat) (cs:List Nat) (j:Nat) (x:NN):Prop where
 par:ParOk num j cs.length x.ps
 rows:RowsOk g x.c (zab (x.ps.map fun p=>cs.getD p 0)) x.rows
structure NetOk (num:List Nat) (g:Nat) (ns:List NN):Prop where
 g1:1≤g
 g2:g≤60
 n1:1≤ns.length
 n2:ns.length≤8
 card:∀ x∈ns,1≤x.c∧x.c≤4
 prod:zab (ns.map (·.c))≤1024
 perm:PermOk ns.length num
 node:∀(j v:Nat) (x:NN),num[j]? = some v→ns[v]? = some x→NodeOk num g (ns.map (·.c)) j x
structure PieceN where
 card:Nat
 parents:Nat
 w:List Nat
structure DraftN where
 grain:Nat
 nodes:List PieceN
 order:List Nat
def zoS(x:PieceN):S_haruspexref05_Piece:=⟨x.card,x.parents,iL x.w⟩
def zcM(d:DraftN):S_haruspexref05_Draft:=⟨d.grain,d.nodes.map zoS,iL d.order⟩
structure DraftOk (d:DraftN):Prop where
 grain:d.grain≤255
 card:∀ x∈d.nodes,x.card≤255
 order:∀ x∈d.order,x≤255
def zkJ(d:DraftN):Nat:=min (max d.nodes.length 1) 5
theorem zmw(d:DraftN):zc2 (zcY ((zcM d).nodes.length:Int) 1) 5=((zkJ d:Nat):Int):=by
 simp only[zc2,zcY,zkJ,zcM,qaE];split<;>split<;>omega
def zme(xs:List Nat):Nat:=xs.foldr (fun x a=>max 1 x * a) 1
theorem zl3:∀ {xs:List Nat} {i c:Nat},xs[i]? = some 0→1≤c→zme (xs.set i c)=zme xs * c
 | [],i,c,h,hc=>by simp at h
 | x :: xs,0,c,h,hc=>by
  have:x=0:=by simpa using h
  subst this;simp only[qb8,zme,qc5];rw[Nat.max_eq_right hc,Nat.max_eq_left (qaC _),qbb,qaQ]
 | x :: xs,i+1,c,h,hc=>by
  have ih:=zl3 (xs:=xs) (i:=i) (c:=c) (by simpa using h) hc;simp only[qcu,zme,qc5]at ih ⊢;rw[ih,qbi]
theorem zoJ:∀ {xs:List Nat},(∀ x∈xs,1≤x)→zme xs=zab xs
 | [],_=>rfl
 | x :: xs,h=>by
  have ih:=zoJ (xs:=xs) fun y hy=>h y (qak _ hy)
  have hx:=h x qar;simp only[zme,zab,qc5]at ih ⊢;rw[ih,Nat.max_eq_right hx]
theorem zAn{a v:Nat}(h:a * 2 ^ v<9223372036854775808)(hv:v<64):zsS .i64 (a:Int) (v:Int)=some ((a * 2 ^ v:Nat):Int):=by
 unfold zsS;rw[if_pos (qbx v)];congr 1
 have h1:min (v:Int).toNat IntKind.i64.bits=v:=by
  rw[show IntKind.i64.bits=64 from rfl,qaD]; exact qbK (by omega)
 rw[h1];have h2:(a:Int)* ((2:Int) ^ v)=((a * 2 ^ v:Nat):Int):=by simp
 rw[h2];exact zav h
structure L1Ok (num:List Nat) (c j a:Nat) (ns:List NN):Prop where
 len:ns.length=c
 bare:∀ x∈ns,x.ps=[]∧x.rows=[]
 prod:zme (ns.map (·.c))=a
 low:a * 2 ^ (c - j)≤100
 done:∀(k v:Nat),k<j→num[k]? = some v→∃ x,ns[v]? = some x∧2≤x.c∧x.c≤3
 left:∀(k v:Nat),j≤k→num[k]? = some v→∃ x,ns[v]? = some x∧x.c=0
theorem zlR{d:DraftN}(hd:DraftOk d){j:Nat}:∃(card parents:Nat) (w:List Nat),card≤255 ∧
  ((bif (decide ((j:Int)<((zcM d).nodes.length:Int)))then(
(za5 (zcM d).nodes (j:Int)).bind fun x9=>
some (x9.card,x9.parents,x9.w))
else(
some (0,0,[])):Option ((Int×Int×(List Int)))))=some ((card:Int),(parents:Int),iL w):=by
 have hl:(zcM d).nodes.length=d.nodes.length:=by simp[zcM]
 by_cases hj:j<d.nodes.length
 ·refine⟨d.nodes[j].card,d.nodes[j].parents,d.nodes[j].w,hd.card _ (qat hj),?_⟩;rw[hl,zaH,decide_eq_true hj,cond_true,zbw (by rw[hl]; exact hj),qaa];simp[zcM,zoS]
 refine⟨0,0,[],by omega,?_⟩;rw[hl,zaH,decide_eq_false hj,cond_false];rfl
theorem zuA{d:DraftN}(hd:DraftOk d){num:List Nat}{c:Nat}(hc:zkJ d=c)(hp:PermOk c num):∀(n j a:Nat) (ns:List NN),L1Ok num c j a ns→j≤c→c - j<n →
  ∃(ns':List NN) (a':Nat),L1Ok num c c a' ns'∧zbi (zcM d) (iL num) n (a:Int) (j:Int) (ns.map nd)=some (ns'.map nd)
 | 0,_,_,_,_,_,h=>absurd h (qas _)
 | n+1,j,a,ns,h1,h2,h3=>by
  have hc5:c≤5:=by rw[← hc]; exact qcn _ _
  unfold zbi;rw[zmw,hc];by_cases hj:j<c
  ·rw[zaH,decide_eq_true hj,cond_true];obtain⟨card,parents,w,hcard,e⟩:=zlR hd (j:=j);rw[e,qaa];simp only[];have hjn:j<num.length:=by rw[hp.len]; exact hj
   have hv:num[j]<ns.length:=by rw[h1.len]; exact hp.lt _ (qat hjn)
   obtain⟨x0,hx0,hx00⟩:=h1.left j num[j] (qam _) (qad hjn);have hx1:ns[num[j]]=x0:=by rw[qad hv]at hx0; exact qac hx0
   have hbare:=h1.bare _ (qat hv);have hpow:1≤2 ^ (c - 1 - j):=Nat.one_le_two_pow;have hsplit:2 ^ (c - j)=2 * 2 ^ (c - 1 - j):=by rw[show c - j=(c - 1 - j)+1 by omega,Nat.pow_succ,qaQ]
   have hlow:=h1.low;have hle:a * 2 ^ (c - 1 - j)≤100:=qao (Nat.mul_le_mul_left a (by omega)) hlow;have ha:a≤100:=qao (qaX a hpow) hle;have step:∀ b:Nat,2≤b→b≤3→a * b * 2 ^ (c - 1 - j)≤100→∃(ns':List NN) (a':Nat),L1Ok num c c a' ns' ∧
     ((za5 (iL num) (j:Int)).bind fun x14=>(za5 (ns.map nd) x14).bind fun x16=>(zeP (ns.map nd) x14 (S_api_Node.mk (b:Int) x16.parents x16.rows)).bind fun y18=>
      zbi (zcM d) (iL num) n (w64 ((a:Int)* (b:Int))) (w64 ((j:Int)+1)) y18)=some (ns'.map nd):=by
    intro b hb1 hb2 hb3;have hab:a * b≤100:=qao (qaX _ hpow) hb3
    obtain⟨ns',a',f1,f2⟩:=zuA hd hc hp n (j+1) (a * b) (ns.set num[j] ⟨b,ns[num[j]].ps,ns[num[j]].rows⟩) {
     len:=by simpa using h1.len
     bare:=fun y hy=>by
      rcases qcd hy with hy | hy
      ·exact h1.bare y hy
      subst hy; exact hbare
     prod:=by
      rw[List.map_set,zl3 (c:=b) (by rw[qa3,qad hv,hx1]; simp[hx00]) (by omega),h1.prod]
     low:=by rw[show c - (j+1)=c - 1 - j by omega]; exact hb3
     done:=fun k v hk hkv=>by
      by_cases hkj:k=j
      ·subst hkj;rw[qad hjn]at hkv;have:=qac hkv;subst this;exact⟨_,qay hv,hb1,hb2⟩
      obtain⟨x,g1,g2⟩:=h1.done k v (by omega) hkv;refine⟨x,?_,g2⟩;rw[qan,g1];intro hh;have hk':=(qab.1 hkv);have hkl:k<num.length:=hk'.1;exact qbk.1 hp.nod k j hkl hjn (by omega) (by rw[hk'.2]; exact hh.symm)
     left:=fun k v hk hkv=>by
      obtain⟨x,g1,g2⟩:=h1.left k v (by omega) hkv;refine⟨x,?_,g2⟩;rw[qan,g1];intro hh;have hk':=(qab.1 hkv);have hkl:k<num.length:=hk'.1
      exact qbk.1 hp.nod j k hjn hkl (by omega) (by rw[hk'.2]; exact hh) } hj (by omega)
    refine⟨ns',a',f1,?_⟩
    rw[za7 hjn,qaa,zcS hv,qaa,show S_api_Node.mk (b:Int) (nd ns[num[j]]).parents (nd ns[num[j]]).rows=nd ⟨b,ns[num[j]].ps,ns[num[j]].rows⟩from rfl,
     zgh hv,qaa,← qaW,zav (by omega),zap (by omega),f2]
   have hw1:w64 (2+w64 ((card:Int).tmod 2))=((2+card % 2:Nat):Int):=by
    rw[show((card:Int).tmod 2)=((card % 2:Nat):Int)from rfl,zav (by omega),show(2:Int)+((card % 2:Nat):Int)=((2+card % 2:Nat):Int) by omega,zav (by omega)]
   have hac:a * (2+card % 2)≤100 * 3:=qbz ha (by omega);have hbig:a * (2+card % 2)* 2 ^ (c - 1 - j)≤300 * 2 ^ 4:=qbz hac (qbY (by decide) (by omega));have hcc:w64 (((c:Nat):Int) - 1)=((c - 1:Nat):Int):=by rw[show((c:Nat):Int) - 1=((c - 1:Nat):Int) by omega,zav (by omega)]
   have hcj:w64 (((c - 1:Nat):Int) - (j:Int))=((c - 1 - j:Nat):Int):=by rw[show((c - 1:Nat):Int) - (j:Int)=((c - 1 - j:Nat):Int) by omega,zav (by omega)]
   rw[hw1,hcc,hcj,zez (by omega),← qaW,zav (by omega),zAn (by omega) (by omega),qaa];by_cases hbg:100<a * (2+card % 2)* 2 ^ (c - 1 - j)
   ·obtain⟨ns',a',f1,f2⟩:=step 2 (by omega) (by omega) (by rw[qbi,← hsplit]; exact hlow);refine⟨ns',a',f1,?_⟩;rw[show decide ((100:Int)<((a * (2+card % 2)* 2 ^ (c - 1 - j):Nat):Int))=true from decide_eq_true (by omega),cond_true,qaa];exact f2
   obtain⟨ns',a',f1,f2⟩:=step (2+card % 2) (by omega) (by omega) (by omega);refine⟨ns',a',f1,?_⟩;rw[show decide ((100:Int)<((a * (2+card % 2)* 2 ^ (c - 1 - j):Nat):Int))=false from decide_eq_false (by omega),cond_false,qaa];exact f2
  have:j=c:=by omega
  subst this;exact⟨ns,a,h1,by rw[zaH,decide_eq_false hj,cond_false]⟩
structure L2Ok (num:List Nat) (g c:Nat) (cs:List Nat) (i:Nat) (ns:List NN):Prop where
 len:ns.length=c
 cards:ns.map (·.c)=cs
 done:∀(k v:Nat) (x:NN),k<i→num[k]? = some v→ns[v]? = some x→NodeOk num g cs k x
 left:∀(k v:Nat) (x:NN),i≤k→num[k]? = some v→ns[v]? = some x→x.ps=[]∧x.rows=[]
theorem zjV{m:Nat}(hm:1≤m):∀ {xs:List Nat},(∀ x∈xs,x≤m)→zab xs≤m ^ xs.length
 | [],_=>qam 1
 | x :: xs,h=>by
  have ih:=zjV hm (xs:=xs) fun y hy=>h y (qak _ hy)
  rw[qaF,Nat.pow_succ,qaQ];exact qbz (h x qar) ih
theorem zuo{xs:List Nat}(h:xs.Nodup){i j v w:Nat}(hi:xs[i]? = some v)(hj:xs[j]? = some w)(hne:i≠j):v≠w:=by
 obtain⟨h1,h2⟩:=qab.1 hi;obtain⟨h3,h4⟩:=qab.1 hj;intro he;rcases Nat.lt_or_gt_of_ne hne with hlt | hlt
 ·exact qbk.1 h i j h1 h3 hlt (by rw[h2,h4,he])
 exact qbk.1 h j i h3 h1 hlt (by rw[h2,h4,he])
theorem zuP{d:DraftN}(hd:DraftOk d){num:List Nat}{c N:Nat}{cs:List Nat}(hc:zkJ d=c)(hp:PermOk c num)(hs:∀ x∈cs,1≤x∧x≤3)(hN:1025≤N):∀(n i:Nat) (ns:List NN),L2Ok num (1+d.grain % 60) c cs i ns→i≤c→c - i<n →
  ∃ ns':List NN,L2Ok num (1+d.grain % 60) c cs c ns'∧zbB N (zcM d) (iL num) n (i:Int) (ns.map nd)=some (ns'.map nd)
 | 0,_,_,_,_,h=>absurd h (qas _)
 | n+1,i,ns,h1,h2,h3=>by
  have hc5:c≤5:=by rw[← hc]; exact qcn _ _
  unfold zbB;rw[zmw,hc];by_cases hi:i<c
  ·rw[zaH,decide_eq_true hi,cond_true];obtain⟨card,parents,w,hcard,e⟩:=zlR hd (j:=i);rw[e,qaa];simp only[];have hin:i<num.length:=by rw[hp.len]; exact hi
   have hget:num[i]? = some num[i]:=qad hin;have hlen:=h1.len;have hcl:cs.length=c:=by rw[← h1.cards,qaE,h1.len]
   have hv:num[i]<ns.length:=by rw[h1.len]; exact hp.lt _ (qat hin)
   obtain⟨b1,b2⟩:=h1.left i num[i] ns[num[i]] (qam _) hget (qad hv);obtain⟨qs,e2,hq⟩:=zvh (num:=num) (ps8:=(parents:Int)) (i:=i) (ns:=ns) (v:=num[i]) (by omega) (by rw[hp.len]; omega) (by omega) hp.nod hv b1;rw[h1.len]at e2 hq;have hg:w64 (1+w64 ((zcM d).grain.tmod 60))=((1+d.grain % 60:Nat):Int):=by
    rw[show((zcM d).grain.tmod 60)=((d.grain % 60:Nat):Int)from rfl,zav (by omega),show(1:Int)+((d.grain % 60:Nat):Int)=((1+d.grain % 60:Nat):Int) by omega,zav (by omega)]
   have hset:(ns.set num[i] ⟨ns[num[i]].c,qs,ns[num[i]].rows⟩)[num[i]]'(by simpa using hv)=⟨ns[num[i]].c,qs,ns[num[i]].rows⟩:=by simp
   have hcs1:(ns.set num[i] ⟨ns[num[i]].c,qs,ns[num[i]].rows⟩).map (·.c)=cs:=by rw[zhD (x:=⟨ns[num[i]].c,qs,ns[num[i]].rows⟩) hv rfl,h1.cards]
   have hcv:1≤ns[num[i]].c∧ns[num[i]].c≤3:=hs _ (by rw[← h1.cards]; exact qaJ.2 ⟨_,qat hv,rfl⟩);have hco:zdo (ns.set num[i] ⟨ns[num[i]].c,qs,ns[num[i]].rows⟩) qs=qs.map fun p=>cs.getD p 0:=by unfold zdo; rw[hcs1]
   have hqs:∀ x∈(qs.map fun p=>cs.getD p 0),1≤x∧x≤3:=by
    intro x hx;obtain⟨p,hpq,rfl⟩:=qaJ.1 hx;have hpl:p<cs.length:=by rw[hcl]; exact hq.lt p hpq
    refine hs _ ?_;simp[hpl]
   have hprod:zab (qs.map fun p=>cs.getD p 0)≤3 ^ 3:=by
    refine qao (zjV (m:=3) (by omega) fun x hx=>(hqs x hx).2) ?_;rw[qaE];exact qbY (by decide) hq.len
   obtain⟨rows,r1,r2⟩:=zvX (g:=1+d.grain % 60) (N:=N) (W:=w) (ns:=ns.set num[i] ⟨ns[num[i]].c,qs,ns[num[i]].rows⟩) (v:=num[i]) (by omega) (by simp; omega) (by simpa using hv)
    (by rw[hset]; intro p hpq; rw[qaI,h1.len]; exact hq.lt p hpq) (by rw[hset]; have:=hq.len; simp; omega) (by rw[hset]; exact hcv.1) (by rw[hset]; have:=hcv.2; simp; omega)
    (by rw[hset,hco]; exact fun x hx=>(hqs x hx).1) (by rw[hset,hco]; exact qao hprod (by decide)) (by rw[hset]; exact b2) hN
   simp only[hset,hco,List.set_set]at r1 r2
   obtain⟨ns',f1,f2⟩:=zuP hd hc hp hs hN n (i+1) (ns.set num[i] ⟨ns[num[i]].c,qs,rows⟩) {
    len:=by simpa using h1.len
    cards:=by rw[zhD (x:=⟨ns[num[i]].c,qs,rows⟩) hv rfl,h1.cards]
    done:=fun k v x hk hkv hx=>by
     by_cases hki:k=i
     ·subst hki;rw[hget]at hkv;have:=qac hkv;subst this;rw[qay hv]at hx;have:=qac hx;subst this;exact⟨by rw[hcl]; exact hq,r1⟩
     rw[qan (zuo hp.nod hget hkv (by omega))]at hx;exact h1.done k v x (by omega) hkv hx
    left:=fun k v x hk hkv hx=>by
     rw[qan (zuo hp.nod hget hkv (by omega))]at hx
     exact h1.left k v x (by omega) hkv hx } hi (by omega)
   refine⟨ns',f1,?_⟩;rw[za7 hin,qaa,e2,qaa,hg,r2,qaa,zap (by omega),f2]
  have:i=c:=by omega
  subst this;exact⟨ns,h1,by rw[zaH,decide_eq_false hi,cond_false]⟩
theorem ztZ{d:DraftN}(hd:DraftOk d){N:Nat}(hN:1025≤N):
  ∃(num:List Nat) (ns:List NN),NetOk num (1+d.grain % 60) ns∧ns.length≤5∧zce N (zcM d)=some ⟨((1+d.grain % 60:Nat):Int),ns.map nd⟩:=by
 have hc5:zkJ d≤5:=qcn _ _;have hc1:1≤zkJ d:=by unfold zkJ; omega
 obtain⟨num,hp,e1⟩:=zvw (c:=zkJ d) (N:=N) (os:=d.order) (wh:=0) hc5 (by omega) hd.order;have hpl:=hp.len;have h0:∀ v,v<zkJ d→(List.replicate (zkJ d) (⟨0,[],[]⟩:NN))[v]? = some ⟨0,[],[]⟩:=fun v hv=>by simp[hv]
 obtain⟨ns1,a,h1,e2⟩:=zuA hd rfl hp (zkJ d+2) 0 1 (List.replicate (zkJ d) ⟨0,[],[]⟩) {
  len:=by simp
  bare:=fun x hx=>by rw[(qcI.1 hx).2]; exact⟨rfl,rfl⟩
  prod:=by
   rw[qcJ];generalize zkJ d=c;induction c with
   | zero=>rfl
   | succ c ih=>rw[qaU]; simp only[zme,qc5]at ih ⊢; rw[ih]; rfl
  low:=by
   have:2 ^ (zkJ d - 0)≤2 ^ 5:=qbY (by decide) (by omega);omega
  done:=fun k v hk hkv=>absurd hk (qas _)
  left:=fun k v hk hkv=>⟨_,h0 v (hp.lt v (qaB hkv)),rfl⟩ } (qaC _) (by omega)
 have hcards:∀ x∈ns1,2≤x.c∧x.c≤3:=by
  intro x hx;obtain⟨v,hv⟩:=qbB hx;have hvl:v<zkJ d:=by rw[← h1.len]; exact(qab.1 hv).1
  obtain⟨k,hk⟩:=qbB (hp.all v hvl);obtain⟨y,g1,g2⟩:=h1.done k v (by rw[← hpl]; exact(qab.1 hk).1) hk;rw[hv]at g1;have:=qac g1;subst this;exact g2
 have hcs:∀ x∈ns1.map (·.c),1≤x∧x≤3:=by
  intro x hx;obtain⟨y,hy,rfl⟩:=qaJ.1 hx;have:=hcards y hy;exact⟨by omega,this.2⟩
 obtain⟨ns2,h2,e3⟩:=zuP hd rfl hp hcs hN (zkJ d+2) 0 ns1 ⟨h1.len,rfl,fun k v x hk=>absurd hk (qas _),fun k v x hk hkv hx=>h1.bare x (qaB hx)⟩ (qaC _) (by omega);have hl2:=h2.len;have hlow:=h1.low;refine⟨num,ns2,⟨by omega,by omega,by omega,by omega,?_,?_,by rw[h2.len]; exact hp,?_⟩,by omega,?_⟩
 ·intro x hx;have:=hcs x.c (by rw[← h2.cards]; exact qaJ.2 ⟨x,hx,rfl⟩);omega
 ·rw[h2.cards,← zoJ fun x hx=>(hcs x hx).1,h1.prod];rw[qcX,Nat.pow_zero]at hlow;omega
 ·intro j v x hj hx;rw[h2.cards];exact h2.done j v x (by rw[← hpl]; exact(qab.1 hj).1) hj hx
 have hg:w64 (1+w64 ((zcM d).grain.tmod 60))=((1+d.grain % 60:Nat):Int):=by
  rw[show((zcM d).grain.tmod 60)=((d.grain % 60:Nat):Int)from rfl,zav (by omega),show(1:Int)+((d.grain % 60:Nat):Int)=((1+d.grain % 60:Nat):Int) by omega,zav (by omega)]
 have hz:List.replicate (zkJ d) (S_api_Node.mk 0 [] [])=(List.replicate (zkJ d) (⟨0,[],[]⟩:NN)).map nd:=by rw[qcJ]; rfl
 have e2':=e2;have e3':=e3;rw[show((0:Nat):Int)=0 from rfl]at e2' e3';rw[show((1:Nat):Int)=1 from rfl]at e2';unfold zce;rw[zmw,zc6 (by omega),qaa,zc6 (by omega),qaa,show(zcM d).order=iL d.order from rfl,e1,qaa,zaX,hz,e2',qaa,e3',qaa,hg]
def zdK(xs:List Nat):Nat:=xs.foldl (fun m p=>m ||| 2 ^ p) 0
theorem zs4(xs:List Nat)(p:Nat):zdK (xs ++ [p])=zdK xs ||| 2 ^ p:=by simp[zdK]
theorem zlq:∀(xs:List Nat) (m i:Nat),(xs.foldl (fun m p=>m ||| 2 ^ p) m).testBit i=(m.testBit i || decide (i∈xs))
 | [],m,i=>by simp
 | x :: xs,m,i=>by
  rw[qcF,zlq xs,Nat.testBit_or,Nat.testBit_two_pow,Bool.or_assoc];congr 1
  by_cases h:x=i
  ·simp[h]
  simp[h,show ¬ i=x from fun q=>h q.symm]
theorem zkF(xs:List Nat)(i:Nat):(zdK xs).testBit i=decide (i∈xs):=by
 unfold zdK; rw[zlq]; simp
theorem zoa:∀(xs:List Nat) (m:Nat),m<18446744073709551616→(∀ x∈xs,x<64)→xs.foldl (fun m p=>m ||| 2 ^ p) m<18446744073709551616
 | [],m,h,_=>h
 | x :: xs,m,h,hx=>zoa xs _ (Nat.or_lt_two_pow (n:=64) h (qcA (by decide) (hx x qar))) fun y hy=>hx y (qak _ hy)
theorem zjv{xs:List Nat}(h:∀ x∈xs,x<64):zdK xs<18446744073709551616:=zoa xs 0 (by decide) h
def Sub(a b:Nat):Prop:=∀ i,a.testBit i=true→b.testBit i=true
theorem zqq{a b:Nat}(ha:a<18446744073709551616)(hb:b<18446744073709551616):diff a b=0↔Sub a b:=by
 constructor
 ·intro h i hi;have:=zol (i:=i) ha hb;rw[h,hi]at this;simpa using this
 intro h;apply Nat.eq_of_testBit_eq;intro i;rw[zol ha hb,Nat.zero_testBit];cases hi:a.testBit i with
 | false=>rfl
 | true=>rw[h i hi]; rfl
theorem zlT{cs ps:List Nat}{nodes:S_api_Net}{sets order:List Int}{x:S_api_Node}(hx:x.parents=iL ps)(hp:Pl cs.length ps)(hl:ps.length≤8)(hc:∀ p∈ps,1≤cs.getD p 0):∀(n i a:Nat),i≤ps.length →
  a * zab ((ps.drop i).map fun p=>cs.getD p 0)≤65536→ps.length - i<n →
  za0 x ⟨nodes,iL cs,sets,order⟩ n (a:Int) (i:Int)=some ((a * zab ((ps.drop i).map fun p=>cs.getD p 0):Nat):Int)
 | 0,_,_,_,_,h=>absurd h (qas _)
 | n+1,i,a,h1,h2,h3=>by
  unfold za0;rw[hx,zan];by_cases hi:i<ps.length
  ·have e2:a * zab ((ps.drop i).map fun p=>cs.getD p 0)=a * cs.getD ps[i] 0 * zab ((ps.drop (i+1)).map fun p=>cs.getD p 0):=by
    rw[qav hi]; exact(qbi _ _ _).symm
   rw[e2]at h2;have hb:ps[i]<cs.length:=hp _ (qat hi);have hq:1≤zab ((ps.drop (i+1)).map fun p=>cs.getD p 0):=zdl fun x hx=>by
    obtain⟨p,hp1,rfl⟩:=qaJ.1 hx;exact hc p (qcg hp1)
   have hle:a * cs.getD ps[i] 0≤65536:=qao (qaX _ hq) h2;have he:cs[ps[i]]=cs.getD ps[i] 0:=by simp[hb]
   rw[zaH,decide_eq_true hi,cond_true,za7 hi,qaa,za7 hb,qaa,he,← qaW,zav (by omega),zap (by omega),
    zlT hx hp hl hc n (i+1) _ hi h2 (by omega),e2]
  rw[zaH,decide_eq_false hi,cond_false,qbc (by omega)];simp[zab]
theorem zlg{y:Int×List Int}{zs:List Nat}(hy:y.2=iL zs)(hl:zs.length≤8):∀(n i r:Nat),i≤zs.length→(zs.drop i).sum≤r→r≤65536→zs.length - i<n →
  za1 y n (r:Int) (i:Int)=some (.go ((r - (zs.drop i).sum:Nat):Int))
 | 0,_,_,_,_,_,h=>absurd h (qas _)
 | n+1,i,r,h1,h2,hr,h3=>by
  unfold za1;rw[hy,zan];by_cases hi:i<zs.length
  ·have e:(zs.drop i).sum=zs[i]+(zs.drop (i+1)).sum:=by rw[qav hi,qcP]
   rw[e]at h2
   rw[zaH,decide_eq_true hi,cond_true,za7 hi,qaa,show decide (((zs[i]:Nat):Int)<0)=false from decide_eq_false (by omega),cond_false,qaa,
    show decide ((r:Int)<((zs[i]:Nat):Int))=false from decide_eq_false (by omega),cond_false,show((r:Int) - ((zs[i]:Nat):Int))=((r - zs[i]:Nat):Int) by omega,zav (by omega),zap (by omega),
    zlg hy hl n (i+1) _ hi (by omega) (by omega) (by omega),e,Nat.sub_sub]
  rw[zaH,decide_eq_false hi,cond_false,qbc (by omega)];simp
theorem zkY{g c:Nat}{nw:S_net_network}{x:S_api_Node}(hg:nw.net.grain=(g:Int))(hg2:g≤60)(hc:x.card=(c:Int))(hc8:c≤8):∀(L:List (Int×List Int)),(∀ y∈L,∃ zs:List Nat,y.2=iL zs∧zs.length=c∧zs.sum=g)→
  zaO nw x L=some (.go ())
 | [],_=>rfl
 | y :: L,h=>by
  obtain⟨zs,h1,h2,h3⟩:=h y qar;unfold zaO;have e:=zlg h1 (by omega) (zs.length+2) 0 g (qaC _) (by rw[qa8]; omega) (by omega) (by omega);rw[qa8,h3,qcX,show((0:Nat):Int)=0 from rfl]at e;rw[hg,h1,zan,zaX,e,qaa];simp only[];rw[hc,h2,show((c:Int)==(c:Int))=true by simp,cond_true,qaa,show(!((0:Int)== 0))=false from rfl,cond_false];exact zkY hg hg2 hc hc8 L fun y hy=>h y (qak _ hy)
theorem zrS{g:Nat}{cs:List Nat}{nodes:List S_api_Node}{sets order:List Int}{x:NN}(hg2:g≤60)(hp:Pl cs.length x.ps)(hl:x.ps.length≤8)(hc:∀ p∈x.ps,1≤cs.getD p 0)(hc8:x.c≤8)
  (hm:zab (x.ps.map fun p=>cs.getD p 0)≤65536) (hr:RowsOk g x.c (zab (x.ps.map fun p=>cs.getD p 0)) x.rows):zbo ⟨⟨(g:Int),nodes⟩,iL cs,sets,order⟩ (nd x)=some true:=by
 unfold zbo;have e:=zlT (x:=nd x) (nodes:=⟨(g:Int),nodes⟩) (sets:=sets) (order:=order) rfl hp hl hc (x.ps.length+2) 0 1 (qaC _) (by simpa using hm) (by omega);rw[show((0:Nat):Int)=0 from rfl,show((1:Nat):Int)=1 from rfl,qa8,qbb]at e;have hrl:(nd x).rows.length=x.rows.length:=by simp[nd]
 rw[show(nd x).parents=iL x.ps from rfl,zan,zaX,e,qaa,hrl,hr.len,show(((zab (x.ps.map fun p=>cs.getD p 0):Nat):Int)==((zab (x.ps.map fun p=>cs.getD p 0):Nat):Int))=true by simp,cond_true];unfold zeb;rw[qaa];have hs:zfa (nd x).rows=some ():=by
  unfold zfa;rw[if_pos (by rw[hrl,hr.len]; omega)]
 rw[hs,qaa,zkY (g:=g) (c:=x.c) rfl hg2 rfl hc8,qaa];intro y hy;unfold zrr at hy;obtain⟨q,hq,rfl⟩:=qaJ.1 hy;have hq1:q.1∈(nd x).rows:=by
  have:=List.mem_zipIdx' hq;rw[this.2]; exact qat _
 obtain⟨zs,hz,hz2⟩:=qaJ.1 hq1;exact⟨zs,hz2.symm,hr.row zs hz⟩
def zeA(g:Nat)(ns:List NN):S_api_Net:=⟨(g:Int),ns.map nd⟩
theorem zqK{g P:Nat}{ns:List NN}(hn:ns.length≤8)(hc:∀ x∈ns,1≤x.c∧x.c≤4)(hP:P≤65536):∀(n:Nat) (xs ys:List NN) (a:Nat),xs ++ ys=ns→a * zab (ys.map (·.c))=P→ys.length<n →
  zcA (zeA g ns) n (a:Int) (xs.length:Int) (iL (xs.map (·.c)++ List.replicate ys.length 0))=some (.go ((P:Int),iL (ns.map (·.c))))
 | 0,_,_,_,_,_,h=>absurd h (qas _)
 | n+1,xs,[],a,h1,h2,h3=>by
  unfold zcA;rw[qa2]at h1;subst h1;have:a=P:=by rw[← h2]; simp[zab]
  subst this;rw[show(zeA g xs).nodes.length=xs.length by simp[zeA],zaH,decide_eq_false (by omega),cond_false];simp
 | n+1,xs,y :: ys,a,h1,h2,h3=>by
  unfold zcA;have hl:(zeA g ns).nodes.length=ns.length:=by simp[zeA]
  have hxn:xs.length<ns.length:=by rw[← h1]; simp
  have hy:ns[xs.length]=y:=by subst h1; simp
  have hyc:=hc y (by rw[← h1]; simp);have e2:a * y.c * zab (ys.map (·.c))=P:=by rw[← h2]; exact qbi _ _ _
  have hq:1≤zab (ys.map (·.c)):=zdl fun c hcm=>by
   obtain⟨z,hz,rfl⟩:=qaJ.1 hcm;exact(hc z (by rw[← h1]; simp[hz])).1
  have hle:a * y.c≤P:=by rw[← e2]; exact qaX _ hq
  have ih:=zqK hn hc hP (g:=g) n (xs ++ [y]) ys (a * y.c) (by rw[← h1]; simp) e2 (by simp at h3; omega)
  rw[hl,zaH,decide_eq_true hxn,cond_true,show za5 (zeA g ns).nodes (xs.length:Int)=some (nd y) by rw[← hy]; exact zcS hxn,qaa,
   show(nd y).card=(y.c:Int)from rfl,show decide ((y.c:Int)<1)=false from decide_eq_false (by omega),cond_false,qaa,show decide ((4:Int)<(y.c:Int))=false from decide_eq_false (by omega),cond_false]
  have hxl:((xs.length:Nat):Int)=(((xs.map (·.c)).length:Nat):Int):=by simp
  rw[qaF,qaU,hxl,zdU,qaa,zhs,qaa,← qaW,zav (by omega),zap (by simp; omega),← ih];simp
theorem zp9{g v:Nat}{ns:List NN}{x:S_api_Node}{ps xs ys:List Nat}(hx:x.parents=iL ps)(hn:ns.length≤8)(hv:xs.length=v)(hp:∀ p∈ps,p<ns.length∧p≠v)(hinc:ps.Pairwise (· < ·)):∀(n i:Nat) (m:Nat) (lo:Int),i≤ps.length→m<18446744073709551616 →
  (∀ p∈ps.drop i,lo<(p:Int))→ps.length - i<n →
  zc4 x (zeA g ns) (v:Int) n lo (i:Int) (iL (xs ++ m :: ys))=some (.go (iL (xs ++ ((ps.drop i).foldl (fun m p=>m ||| 2 ^ p) m):: ys)))
 | 0,_,_,_,_,_,_,h=>absurd h (qas _)
 | n+1,i,m,lo,h1,h2,h4,h3=>by
  have hps:ps.length≤9223372036854775806∨True:=.inr trivial;unfold zc4;have hl:(zeA g ns).nodes.length=ns.length:=by simp[zeA]
  rw[hx,zan,hl];by_cases hi:i<ps.length
  ·have hd:ps.drop i=ps[i]:: ps.drop (i+1):=qav hi;obtain⟨hp1,hp2⟩:=hp _ (qat hi);have hlo:=h4 ps[i] (by rw[hd]; exact qar);have hsm:i≤ps[i]:=by
    have:∀(j:Nat) (hj:j<ps.length),j≤ps[j]:=by
     intro j;induction j with
     | zero=>intro hj; exact qaC _
     | succ j ih=>
      intro hj;have h6:=ih (by omega);have h7:=qbk.1 hinc j (j+1) (by omega) hj (by omega);omega
    exact this i hi
   have hgt:∀ p∈ps.drop (i+1),((ps[i]:Nat):Int)<(p:Int):=by
    intro p hp;obtain⟨k,hk,rfl⟩:=qc3.1 hp;rw[List.getElem_drop];have:=qbk.1 hinc i (i+1+k) hi (by simp at hk; omega) (by omega);omega
   have hpw:2 ^ ps[i]<18446744073709551616:=qcA (n:=64) (by decide) (by omega);have hm:m ||| 2 ^ ps[i]<18446744073709551616:=Nat.or_lt_two_pow (n:=64) h2 hpw;have ih:=zp9 (g:=g) (ys:=ys) hx hn hv hp hinc n (i+1) (m ||| 2 ^ ps[i]) (ps[i]:Int) hi hm hgt (by omega)
   rw[zaH,decide_eq_true hi,cond_true,za7 hi,qaa,show decide (((ps[i]:Nat):Int)≤lo)=false from decide_eq_false (by omega),cond_false,
    show decide (((ns.length:Nat):Int)≤((ps[i]:Nat):Int))=false from decide_eq_false (by omega),cond_false,qaa,show(((ps[i]:Nat):Int)==(v:Int))=false by simp; omega,cond_false,
    ← hv,zdU,qaa,zzE (by omega),qaa,orU h2 hpw,zhs,qaa,zap (by omega),hv,ih,hd,qcF]
  rw[zaH,decide_eq_false hi,cond_false,qbc (by omega)];rfl
structure RightN (g:Nat) (ns:List NN):Prop where
 g1:1≤g
 g2:g≤60
 n1:1≤ns.length
 n2:ns.length≤8
 card:∀ x∈ns,1≤x.c∧x.c≤4
 prod:zab (ns.map (·.c))≤1024
 inc:∀ x∈ns,x.ps.Pairwise (· < ·)
 lt:∀ x∈ns,∀ p∈x.ps,p<ns.length
 rows:∀ x∈ns,RowsOk g x.c (zab (x.ps.map fun p=>(ns.map (·.c)).getD p 0)) x.rows
 rk:∃ rk:Nat→Nat,(∀ v,rk v≤8)∧∀ v x,ns[v]? = some x→∀ p∈x.ps,rk p<rk v
theorem zhI{n:Nat}{ps:List Nat}(h:ps.Pairwise (· < ·))(hp:∀ p∈ps,p<n):ps.length≤n:=by
 have:∀(j:Nat) (hj:j<ps.length),j≤ps[j]:=by
  intro j;induction j with
  | zero=>intro hj; exact qaC _
  | succ j ih=>
   intro hj;have h6:=ih (by omega);have h7:=qbk.1 h j (j+1) (by omega) hj (by omega);omega
 cases hl:ps.length with
 | zero=>exact qaC _
 | succ m=>
  have h1:=this m (by omega);have h2:=hp _ (qat (show m<ps.length by omega));omega
theorem RightN.zzL{g:Nat}{ns:List NN}(h:RightN g ns){x:NN}(hx:x∈ns):x.ps.length≤8:=by
 have:=zhI (h.inc x hx) (h.lt x hx);have:=h.n2;omega
theorem RightN.ne{g:Nat}{ns:List NN}(h:RightN g ns){v:Nat}{x:NN}(hx:ns[v]? = some x):∀ p∈x.ps,p≠v:=by
 obtain⟨rk,_,h2⟩:=h.rk;intro p hp he;subst he;exact qb9 _ (h2 p x hx p hp)
theorem RightN.zwP{g:Nat}{ns:List NN}(h:RightN g ns){x:NN}(hx:x∈ns):∀ p∈x.ps,1≤(ns.map (·.c)).getD p 0∧(ns.map (·.c)).getD p 0≤4:=by
 intro p hp;have hp1:=h.lt x hx p hp;have:=h.card ns[p] (qat hp1);simpa [hp1]using this
theorem RightN.zyQ{g:Nat}{ns:List NN}(h:RightN g ns){x:NN}(hx:x∈ns):zab (x.ps.map fun p=>(ns.map (·.c)).getD p 0)≤65536:=by
 refine qao (zjV (m:=4) (by omega) fun y hy=>?_) ?_
 ·obtain⟨p,hp,rfl⟩:=qaJ.1 hy;exact(h.zwP hx p hp).2
 rw[qaE];exact qao (qbY (by decide) (h.zzL hx)) (by decide)
theorem zsB{g:Nat}{ns:List NN}(h:RightN g ns):∀(n:Nat) (xs ys:List NN),xs ++ ys=ns→ys.length<n →
  zcB (zeA g ns) (iL (ns.map (·.c))) n (xs.length:Int) (iL (xs.map (fun x=>zdK x.ps)++ List.replicate ys.length 0))=some (.go (iL (ns.map fun x=>zdK x.ps)))
 | 0,_,_,_,h=>absurd h (qas _)
 | n+1,xs,[],h1,h3=>by
  unfold zcB;rw[qa2]at h1;subst h1;rw[show(zeA g xs).nodes.length=xs.length by simp[zeA],zaH,decide_eq_false (by omega),cond_false];simp
 | n+1,xs,y :: ys,h1,h3=>by
  unfold zcB;have hl:(zeA g ns).nodes.length=ns.length:=by simp[zeA]
  have hxn:xs.length<ns.length:=by rw[← h1]; simp
  have hn:=h.n2;have hy:ns[xs.length]=y:=by subst h1; simp
  have hyg:ns[xs.length]? = some y:=by rw[qad hxn,hy]
  have hym:y∈ns:=qaB hyg;have hcl:(ns.map (·.c)).length=ns.length:=by simp
  have hlt:∀ p∈y.ps,p<ns.length∧p≠xs.length:=fun p hp=>⟨h.lt y hym p hp,h.ne hyg p hp⟩
  have hcs:=h.zwP hym;have hpl:=h.zzL hym;have hprod:=h.zyQ hym;have hyc:=h.card y (by rw[← h1]; simp);have ih:=zsB h n (xs ++ [y]) ys (by rw[← h1]; simp) (by simp at h3; omega);have e3:=zp9 (g:=g) (ns:=ns) (x:=nd y) (xs:=xs.map fun x=>zdK x.ps) (ys:=List.replicate ys.length 0) (v:=xs.length) rfl hn (by simp) hlt (h.inc y hym) (y.ps.length+2) 0 0 (-1) (qaC _) (by decide) (fun p hp=>by omega) (by omega);rw[show((0:Nat):Int)=0 from rfl,qa8]at e3;have e4:=zrS (g:=g) (cs:=ns.map (·.c)) (nodes:=ns.map nd) (sets:=iL (xs.map (fun x=>zdK x.ps)++ zdK y.ps :: List.replicate ys.length 0)) (order:=[]) (x:=y) h.g2 (by rw[hcl]; exact fun p hp=>(hlt p hp).1) (by omega) (fun p hp=>(hcs p hp).1) (by omega) hprod (h.rows y hym)
  rw[hl,zaH,decide_eq_true hxn,cond_true,show za5 (zeA g ns).nodes (xs.length:Int)=some (nd y) by rw[← hy]; exact zcS hxn,qaa,qaF,qaU,
   show(nd y).parents.length=y.ps.length by simp[nd,zan],zaX,e3,qaa]
  simp only[];rw[show(y.ps.foldl (fun m p=>m ||| 2 ^ p) 0)=zdK y.ps from rfl];rw[show zeA g ns=⟨(g:Int),ns.map nd⟩from rfl]at ih ⊢;rw[e4,qaa,cond_true,zap (by omega),← ih];simp
def zlH(ms:List Nat)(mask v:Nat):Prop:=mask.testBit v=false∧Sub (ms.getD v 0) mask
structure First (ms:List Nat) (mask v:Nat):Prop where
 lt:v<ms.length
 ready:zlH ms mask v
 least:∀ u,u<v→¬ zlH ms mask u
def zgb(ms os:List Nat):Prop:=∀ k v,os[k]? = some v→First ms (zdK (os.take k)) v
theorem zgb.app{ms os:List Nat}{v:Nat}(h:zgb ms os)(hv:First ms (zdK os) v):zgb ms (os ++ [v]):=by
 intro k u hk;by_cases hl:k<os.length
 ·rw[qal hl]at hk;rw[qcm (by omega)];exact h k u hk
 have hk2:k=os.length:=by
  have:=(qab.1 hk).1;simp at this;omega
 subst hk2;have hu:u=v:=by simpa using hk.symm
 subst hu;simpa using hv
theorem zgb.lt{ms os:List Nat}(h:zgb ms os):∀ x∈os,x<ms.length:=by
 intro x hx;obtain⟨k,hk⟩:=qbB hx;exact(h k x hk).lt
theorem zuy:∀ {xs ys:List Nat},xs.Nodup→(∀ x∈xs,x∈ys)→xs.length≤ys.length
 | [],_,_,_=>qaC _
 | x :: xs,ys,h,hs=>by
  obtain⟨h1,h2⟩:=qbr.1 h;have hx:=hs x qar;have ih:=zuy (xs:=xs) (ys:=ys.erase x) h2 fun y hy=>(List.mem_erase_of_ne (fun q:y=x=>h1 (by rw[← q]; exact hy))).2 (hs y (qak _ hy))
  rw[List.length_erase_of_mem hx]at ih;have:=List.length_pos_of_mem hx;simp only[qaF];omega
theorem zt6{ms:List Nat}{mask:Nat}:∀ v,v<ms.length→zlH ms mask v→∃ u,First ms mask u:=by
 intro v;induction v using Nat.strongRecOn with
 | ind v ih=>
  intro hv hr;by_cases h:∃ u,u<v∧zlH ms mask u
  ·obtain⟨u,hu,hur⟩:=h;exact ih u hu (by omega) hur
  exact⟨v,hv,hr,fun u hu hur=>h ⟨u,hu,hur⟩⟩
def zbV(ns:List NN):List Nat:=ns.map fun x=>zdK x.ps
theorem RightN.zjv{g:Nat}{ns:List NN}(h:RightN g ns):∀ m∈zbV ns,m<18446744073709551616:=by
 intro m hm;obtain⟨x,hx,rfl⟩:=qaJ.1 hm;refine Go.Dc.zjv fun p hp=>?_
 have:=h.lt x hx p hp;have:=h.n2;omega
theorem RightN.ready{g:Nat}{ns:List NN}(h:RightN g ns)(os:List Nat){rk:Nat→Nat}(hrk:∀ v x,ns[v]? = some x→∀ p∈x.ps,rk p<rk v):∀(j v:Nat),rk v=j→v<ns.length→v ∉ os→∃ u,u<ns.length∧zlH (zbV ns) (zdK os) u:=by
 intro j;induction j using Nat.strongRecOn with
 | ind j ih=>
  intro v hj hvl hv;by_cases hp:∃ p,p∈ns[v].ps∧p ∉ os
  ·obtain⟨p,hp1,hp2⟩:=hp;have:=hrk v _ (qad hvl) p hp1;exact ih (rk p) (by omega) p rfl (h.lt _ (qat hvl) p hp1) hp2
  refine⟨v,hvl,by rw[zkF]; simp[hv],fun i hi=>?_⟩;rw[show(zbV ns).getD v 0=zdK ns[v].ps by simp[zbV,hvl],zkF]at hi;rw[zkF];have hi2:=of_decide_eq_true hi;refine decide_eq_true ?_;exact qcB fun hno=>hp ⟨i,hi2,hno⟩
theorem RightN.next{g:Nat}{ns:List NN}(h:RightN g ns){os:List Nat}(hl:os.length<ns.length):∃ v,First (zbV ns) (zdK os) v:=by
 obtain⟨rk,_,hrk⟩:=h.rk;by_cases hs:∀ x∈List.range ns.length,x∈os
 ·have:=zuy List.nodup_range hs;rw[List.length_range]at this;omega
 have:∃ x,x∈List.range ns.length∧x ∉ os:=qcB fun hno=>hs fun x hx=>qcB fun hx2=>hno ⟨x,hx,hx2⟩
 obtain⟨x,hx,hxo⟩:=this;obtain⟨u,hu,hr⟩:=h.ready os hrk _ x rfl (qcr.1 hx) hxo;exact zt6 u (by simpa [zbV]using hu) hr
theorem zqJ{ms:List Nat}{mask i:Nat}{β:Type}(hm:∀ m∈ms,m<18446744073709551616)(hk:mask<18446744073709551616)(hi:i<ms.length)(h64:i<64)(l:β):
  ∃ b:Bool,(b=true↔zlH ms mask i)∧((zmr .u64 (mask:Int) (i:Int)).bind fun q7=>bif ((zpX .u64 q7 1)== 0)then some (((zys .u64 ((ms[i]:Nat):Int) (mask:Int))== 0),l)else some (false,l))=some (b,l)∧
   ((zmr .u64 (mask:Int) (i:Int)).bind fun q7=>bif ((zpX .u64 q7 1)== 0)then some ((zys .u64 ((ms[i]:Nat):Int) (mask:Int))== 0)else some false)=some b:=by
 obtain⟨q,h1,h2⟩:=zAa (a:=mask) (v:=i) hk h64;have hmi:=hm _ (qat hi);have hg:ms.getD i 0=ms[i]:=by simp[hi]
 simp only[h1,qaa,h2,zAl];cases hb:mask.testBit i with
 | true=>exact⟨false,by simp[zlH,hb],rfl,rfl⟩
 | false=>
  refine⟨(((diff ms[i] mask:Nat):Int)== 0),?_,rfl,rfl⟩;rw[zlH,hb,hg,← zqq hmi hk];simp
theorem zk6{ms os:List Nat}{mask C v:Nat}(hn:ms.length≤8)(hm:∀ m∈ms,m<18446744073709551616)(hk:mask<18446744073709551616)(hC:os.length+1≤C)(hv:First ms mask v):∀(n i:Nat),i≤v→v - i<n →
  zch (iL ms) (mask:Int) C n (i:Int) (iL os)=some (.brk (((mask ||| 2 ^ v:Nat):Int),iL (os ++ [v])))
 | 0,_,_,h=>absurd h (qas _)
 | n+1,i,h1,h3=>by
  unfold zch;have hvl:=hv.lt;have hi:i<ms.length:=by omega
  obtain⟨b,hb,e,_⟩:=zqJ hm hk hi (by omega) (iL os);rw[zan,zaH,decide_eq_true hi,cond_true,za7 hi,qaa,e,qaa];simp only[];by_cases hiv:i=v
  ·subst hiv;have hpw:2 ^ i<18446744073709551616:=qcA (n:=64) (by decide) (by omega);rw[hb.2 hv.ready,cond_true];unfold znE;rw[if_pos (by simp[zan]; omega),qaa,zzE (by omega),qaa,orU hk hpw];simp[iL]
  have:b=false:=by
   cases b with
   | false=>rfl
   | true=>exact absurd (hb.1 rfl) (hv.least i (by omega))
  rw[this,cond_false,zap (by omega),zk6 hn hm hk hC hv n (i+1) (by omega) (by omega)]
theorem zma{g:Nat}{ns:List NN}(h:RightN g ns):∀(n:Nat) (os:List Nat),zgb (zbV ns) os→os.length≤ns.length→ns.length - os.length<n →
  ∃ os',zgb (zbV ns) os'∧os'.length=ns.length∧zck (iL (zbV ns)) ns.length n ((zdK os:Nat):Int) (iL os)=some (.go (iL os'))
 | 0,_,_,_,h=>absurd h (qas _)
 | n+1,os,h1,h2,h3=>by
  unfold zck;have hml:(zbV ns).length=ns.length:=by simp[zbV]
  have hn:=h.n2;rw[zan,zan,hml,zaH];by_cases hl:os.length<ns.length
  ·obtain⟨v,hv⟩:=h.next hl;have hvl:=hv.lt;have hk:zdK os<18446744073709551616:=Go.Dc.zjv fun x hx=>by
    have:=h1.lt x hx;omega
   have e:=zk6 (os:=os) (C:=ns.length) (by omega) h.zjv hk (by omega) hv (ns.length+2) 0 (qaC _) (by omega);rw[show((0:Nat):Int)=0 from rfl]at e;obtain⟨os',g1,g2,g3⟩:=zma h n (os ++ [v]) (h1.app hv) (by simp; omega) (by simp; omega);refine⟨os',g1,g2,?_⟩;rw[decide_eq_true hl,cond_true,zaX,e,qaa];simp only[];rw[← zs4,g3]
  exact⟨os,h1,by omega,by rw[decide_eq_false hl,cond_false]⟩
theorem zrn{g:Nat}{ns:List NN}(h:RightN g ns):
  ∃ os,zgb (zbV ns) os∧os.length=ns.length∧zdn (iL (zbV ns))=some (iL os,true):=by
 have hml:(zbV ns).length=ns.length:=by simp[zbV]
 have hn:=h.n2;obtain⟨os,g1,g2,g3⟩:=zma h (ns.length+2) [] (fun k v hk=>by simp at hk) (qaC _) (by simp);refine⟨os,g1,g2,?_⟩;unfold zdn;rw[zan,hml];have hcap:zwI 8 ((ns.length:Nat):Int)=some ns.length:=by
  unfold zwI;rw[if_pos ⟨qbx _,by simp only[zag]; omega⟩,qaD]
 rw[hcap,qaa,show(((ns.length:Nat):Int) - ((([]:List Int).length:Nat):Int)+2).toNat=ns.length+2 by simp; omega];rw[show((zdK []:Nat):Int)=0 from rfl,show iL []=[]from rfl]at g3;rw[g3,qaa]
theorem zwl{g:Nat}{ns:List NN}(h:RightN g ns):
  ∃ os,zgb (zbV ns) os∧os.length=ns.length∧zeg (zeA g ns)=some (⟨zeA g ns,iL (ns.map (·.c)),iL (zbV ns),iL os⟩,0):=by
 obtain⟨os,g1,g2,g3⟩:=zrn h;refine⟨os,g1,g2,?_⟩;have h1:=h.g1;have h2:=h.g2;have h3:=h.n1;have h4:=h.n2;have hl:(zeA g ns).nodes.length=ns.length:=by simp[zeA]
 have hp:=h.prod;have e1:=zqK (g:=g) (P:=zab (ns.map (·.c))) h.n2 h.card (by omega) (ns.length+2) [] ns 1 rfl (qbb _) (by omega);have e2:=zsB h (ns.length+2) [] ns rfl (by omega);simp only[qc6,qa9,qaN]at e1 e2;rw[show((0:Nat):Int)=0 from rfl]at e1 e2;rw[show((1:Nat):Int)=1 from rfl]at e1;have hz:List.replicate ns.length (0:Int)=iL (List.replicate ns.length 0):=by simp[iL]
 unfold zeg
 rw[hl,show(zeA g ns).grain=(g:Int)from rfl,show decide ((g:Int)<1)=false from decide_eq_false (by omega),cond_false,show decide ((60:Int)<(g:Int))=false from decide_eq_false (by omega),cond_false,
  show decide (((ns.length:Nat):Int)<1)=false from decide_eq_false (by omega),cond_false,qaa,show decide ((8:Int)<((ns.length:Nat):Int))=false from decide_eq_false (by omega),cond_false,
  zc6 (by omega),qaa,qaa,zaX,hz,e1,qaa]
 simp only[];rw[show decide ((1024:Int)<((zab (ns.map (·.c)):Nat):Int))=false from decide_eq_false (by omega),cond_false,e2,qaa];simp only[];rw[show(ns.map fun x=>zdK x.ps)=zbV ns from rfl,g3,qaa];simp only[];rw[cond_true]
theorem zhp(a b:List Nat):zab (a ++ b)=zab a * zab b:=by
 induction a with
 | nil=>simp[zab]
 | cons x a ih=>
  rw[qba];show x * zab (a ++ b)=x * zab a * zab b;rw[ih,qbi]
theorem znv:∀(a b:List Nat) (j:Nat),0<zab b→j<zab a * zab b→dig (a ++ b) j=dig a (j / zab b)++ dig b (j % zab b)
 | [],b,j,_,h=>by
  have h:j<zab b:=by simpa [zab]using h
  simp[dig,qaZ h]
 | c :: a,b,j,hb,h=>by
  have ha:0<zab a:=by
   rcases qct (zab a)with h0 | h0
   ·have:zab (c :: a)=c * zab a:=rfl;rw[this,h0]at h;simp at h
   exact h0
  rw[qba];simp only[dig];rw[znv a b (j % zab (a ++ b)) hb (by rw[zhp]; exact qbf _ (qcS ha hb)),zhp,qba];have e1:j / (zab a * zab b)=j / zab b / zab a:=by rw[qcR,qaQ]
  have e2:j % (zab a * zab b) / zab b=j / zab b % zab a:=by rw[qaQ,Nat.mod_mul_right_div_self]
  have e3:j % (zab a * zab b) % zab b=j % zab b:=Nat.mod_mod_of_dvd _ ⟨zab a,qaQ _ _⟩;rw[e1,e2,e3]
def zwy(B c:Nat)(rows:List (List Nat))(j:Nat):Nat:=(rows.getD (j / (c * B)* B+j % B) []).getD (j / B % c) 0
theorem zqc{B c i x j:Nat}(hB:0<B)(hx:x<c)(h:(j / (c * B)* B+j % B)* c+j / B % c=i * c+x):j=(i / B * c+x)* B+i % B:=by
 have hc:0<c:=by omega
 have h1:j / B % c=x:=by
  have:=congrArg (· % c) h;rw[qbQ,qbo,Nat.mod_mod,qbQ (i * c),qbo,qaZ hx]at this;exact this
 have h2:j / (c * B)* B+j % B=i:=by
  have:(j / (c * B)* B+j % B)* c=i * c:=by omega
  exact Nat.eq_of_mul_eq_mul_right hc this
 have h3:i / B=j / (c * B):=by
  rw[← h2,qbQ,qcb _ _ hB,qbO (qbf _ hB),qaO]
 have h4:i % B=j % B:=by
  rw[← h2,qbQ,qbo,Nat.mod_mod]
 rw[h3,h4,← h1];have e1:j / (c * B)=j / B / c:=by rw[qcR,qaQ]
 rw[e1];have e2:=qbV (j / B) c;have e3:=qbV j B;rw[qaQ c]at e2;rw[e2,qaQ (j / B)];omega
theorem zxY{A B c i x:Nat}(hi:i<A * B)(hx:x<c):(i / B * c+x)* B+i % B<A * c * B:=by
 have hB:0<B:=by
  rcases qct B with h | h
  ·subst h; simp at hi
  exact h
 have h1:i / B<A:=qbC (by rw[qaQ]; exact hi);have h2:i % B<B:=qbf _ hB;have h3:i / B * c+x<A * c:=by
  have:=qaq c (show i / B+1≤A from h1);rw[qaH,qbb]at this;omega
 have h4:=qaq B (show i / B * c+x+1≤A * c from h3);rw[qaH,qbb]at h4;omega
theorem zxz{B c i x:Nat}(hB:0<B)(hx:x<c):((i / B * c+x)* B+i % B) / (c * B)* B+((i / B * c+x)* B+i % B) % B=i∧((i / B * c+x)* B+i % B) / B % c=x:=by
 have h2:i % B<B:=qbf _ hB;have e1:((i / B * c+x)* B+i % B) / B=i / B * c+x:=by rw[qbQ,qcb _ _ hB,qbO h2,qaO]
 have e2:((i / B * c+x)* B+i % B) % B=i % B:=by rw[qbQ,qbo,Nat.mod_mod]
 have e3:(i / B * c+x) / c=i / B:=by rw[qbQ,qcb _ _ (by omega),qbO hx,qaO]
 have e4:(i / B * c+x) % c=x:=by rw[qbQ,qbo,qaZ hx]
 refine⟨?_,by rw[e1,e4]⟩;rw[qaQ c,← qcR,e1,e3,e2,qaQ];exact qbV i B
structure Fil (A B c:Nat) (rows:List (List Nat)) (k:Nat) (w:List Nat):Prop where
 len:w.length=A * c * B
 at_:∀ j,j<A * c * B→(j / (c * B)* B+j % B)* c+j / B % c<k→w.getD j 0=zwy B c rows j
theorem Fil.step{A B c i x:Nat}{rows:List (List Nat)}{w:List Nat}(h:Fil A B c rows (i * c+x) w)(hB:0<B)(hi:i<A * B)(hx:x<c):
  Fil A B c rows (i * c+(x+1)) (w.set ((i / B * c+x)* B+i % B) ((rows.getD i []).getD x 0)):=by
 have hlt:=zxY (A:=A) hi hx;refine⟨by rw[qaI]; exact h.len,fun j hj hk=>?_⟩;by_cases e:(i / B * c+x)* B+i % B=j
 ·subst e;obtain⟨k1,k2⟩:=zxz (i:=i) hB hx;unfold zwy;rw[k1,k2,qai,qay (by rw[h.len]; exact hlt),qbm]
 rw[qai,qan e,← qai];refine h.at_ j hj ?_;rcases qa0 ((j / (c * B)* B+j % B)* c+j / B % c) (i * c+x)with g | g
 ·exact g
 exact absurd (zqc hB hx (by omega)).symm e
theorem Fil.next{A B c i:Nat}{rows:List (List Nat)}{w:List Nat}(h:Fil A B c rows (i * c+c) w):Fil A B c rows ((i+1)* c+0) w:=by
 rw[qbn,qaH,qbb]; exact h
theorem Fil.start(A B c:Nat)(rows:List (List Nat)):Fil A B c rows (0 * c+0) (List.replicate (A * c * B) 0):=
 ⟨by simp,fun j _ h=>absurd h (by omega)⟩
theorem Fil.all{A B c:Nat}{rows:List (List Nat)}{w:List Nat}(h:Fil A B c rows (A * B * c+0) w)(hB:0<B)(hc:0<c):w=(List.range' 0 (A * c * B)).map (zwy B c rows):=by
 apply qbP
 ·simp[h.len]
 intro j h1 h2;have hj:j<A * c * B:=by rw[← h.len]; exact h1
 have hk:(j / (c * B)* B+j % B)* c+j / B % c<A * B * c+0:=by
  have g1:j / (c * B)<A:=qbC (by rw[qaQ (c * B),← qbi]; exact hj);have g2:j % B<B:=qbf _ hB;have g3:j / B % c<c:=qbf _ hc;have g4:=qaq B (show j / (c * B)+1≤A from g1);rw[qaH,qbb]at g4;have g5:=qaq c (show j / (c * B)* B+j % B+1≤A * B by omega);rw[qaH,qbb]at g5;omega
 have:=h.at_ j hj hk;rw[qai,qad h1,qbm]at this;rw[this];simp
section
variable {x:S_api_Factor} {p3:Int}
end
section
variable {y4 l1:List Int} {x:S_api_Factor}
end
section
variable {r6 r8:S_api_Factor} {p3:Int} {y4:List Int}
end
def Fc.val(f:Fc)(s:Nat→Nat):Nat:=f.get (dot (f.vs.map s) (zax f.cs))
def Fit(f:Fc)(s:Nat→Nat):Prop:=∀ v∈f.vs,s v<at_ f.vs f.cs v
theorem zl8{s:Nat→Nat}:∀ {us cs:List Nat},us.length=cs.length→us.Nodup→(∀ c∈cs,1≤c∧c≤8)→(∀ v∈us,s v<at_ us cs v)→zcw cs (us.map s)
 | [],[],_,_,_,_=>trivial
 | [],c :: cs,h,_,_,_=>by simp at h
 | u :: us,[],h,_,_,_=>by simp at h
 | u :: us,c :: cs,hl,hn,hc,h=>by
  obtain⟨h1,h2⟩:=qbr.1 hn;have hu:=h u qar;rw[zeQ,beq_self_eq_true,cond_true]at hu;refine⟨hu,(hc c qar).2,zl8 (by simpa using hl) h2 (fun d hd=>hc d (qak _ hd)) fun v hv=>?_⟩;have:=h v (qak _ hv)
  rwa [zeQ,show(u == v)=false from beq_false_of_ne (fun e=>h1 (e ▸ hv)),cond_false]at this
theorem Fit.below{f:Fc}(hf:FcOk f){s:Nat→Nat}(h:Fit f s):zcw f.cs (f.vs.map s):=zl8 hf.len (zbr hf.inc) hf.card h
theorem zwn{f:Fc}(hf:FcOk f){i:Nat}(hi:i<zab f.cs):Fit f (at_ f.vs (dig f.cs i)):=fun v hv=>(zhq hf.len (zeZ hf.card hi) hv).1
theorem zq7{f:Fc}(hf:FcOk f){i:Nat}(hi:i<zab f.cs):f.val (at_ f.vs (dig f.cs i))=f.get i:=by
 unfold Fc.val;rw[zou (zbr hf.inc) (by rw[zfO,hf.len]),zgT hf.card hi]
theorem val_congr{f:Fc}{s t:Nat→Nat}(h:∀ v∈f.vs,s v=t v):f.val s=f.val t:=by
 unfold Fc.val;rw[qbp h]
theorem get_map{n:Nat}{g:Nat→Nat}{i:Nat}(h:i<n):((List.range' 0 n).map g).getD i 0=g i:=by
 rw[qai,qad (by simpa using h)];simp
def big(b:Bool)(xs:List Nat):Nat:=xs.foldr (gop b) 0
theorem zq3(b:Bool)(x y z:Nat):gop b (gop b x y) z=gop b x (gop b y z):=by
 cases b
 ·exact qbh x y z
 exact Nat.max_assoc x y z
theorem ztw(b:Bool)(x y:Nat):gop b x y=gop b y x:=by
 cases b
 ·exact qbQ x y
 exact Nat.max_comm x y
theorem zoy(b:Bool)(x:Nat):gop b x 0=x:=by
 cases b
 ·rfl
 exact Nat.max_zero x
theorem ztM(b:Bool)(x:Nat):gop b 0 x=x:=by rw[ztw,zoy]
theorem zoQ(b:Bool)(x:Nat)(xs:List Nat):big b (x :: xs)=gop b x (big b xs):=rfl
def fib(f:Fc)(us:List Nat)(m i j:Nat):List Nat:=((List.range' i m).filter fun i=>ix f us i == j).map f.get
theorem zte(f:Fc)(us:List Nat)(m i j:Nat):fib f us (m+1) i j=bif ix f us i == j then f.get i :: fib f us m (i+1) j else fib f us m (i+1) j:=by
 unfold fib;rw[qcp];cases hb:(ix f us i == j)with
 | true=>rw[qcN (p:=fun i=>ix f us i == j) hb,qaG,cond_true]
 | false=>rw[qcM (p:=fun i=>ix f us i == j) (by rw[hb]; decide),cond_false]
theorem zjl{b:Bool}{f:Fc}{us:List Nat}{M:Nat}(hM:∀ i,f.get i≤M):∀ {m i K:Nat} {l:List Nat},(∀ j,l.getD j 0≤K)→K+m * M≤zg7→(∀ k,i≤k→k<i+m→ix f us k<l.length)→
  ∃ l',zhN b f us m i l=some l'∧l'.length=l.length∧∀ j,j<l.length→l'.getD j 0=gop b (l.getD j 0) (big b (fib f us m i j))
 | 0,i,K,l,_,_,_=>⟨l,rfl,rfl,fun j _=>by
   rw[show fib f us 0 i j=[]from rfl]
   exact(zoy b _).symm⟩
 | m+1,i,K,l,hl,hK,hx=>by
  have hi:=hx i (qam _) (by omega);have h1:=hl (ix f us i);have h2:=hM i;rw[qaH,qbb]at hK;have h3:gop b (l.getD (ix f us i) 0) (f.get i)≤K+M:=by
   cases b
   ·show _+_≤_; omega
   show max _ _≤_; omega
  have hset:∀ j,(l.set (ix f us i) (gop b (l.getD (ix f us i) 0) (f.get i))).getD j 0=bif ix f us i == j then gop b (l.getD (ix f us i) 0) (f.get i)else l.getD j 0:=by
   intro j;by_cases e:ix f us i=j
   ·subst e;rw[beq_self_eq_true,cond_true,qai,qay hi];rfl
   rw[beq_false_of_ne e,cond_false,qai,qan e,← qai]
  obtain⟨l',g1,g2,g3⟩:=zjl (b:=b) (us:=us) hM (m:=m) (i:=i+1) (K:=K+M) (l:=l.set (ix f us i) (gop b (l.getD (ix f us i) 0) (f.get i))) (fun j=>by
   rw[hset];cases(ix f us i == j)
   ·rw[cond_false]; have:=hl j; omega
   rw[cond_true]; exact h3) (by omega) (fun k a c=>by rw[qaI]; exact hx k (by omega) (by omega))
  refine⟨l',?_,by rw[g2,qaI],fun j hj=>?_⟩
  ·unfold zhN;rw[decide_eq_true (show gop b (l.getD (ix f us i) 0) (f.get i)≤zg7 by omega),cond_true];exact g1
  rw[g3 j (by rw[qaI]; exact hj),hset,zte];cases hb:(ix f us i == j)with
  | false=>rw[cond_false,cond_false]
  | true=>
   rw[cond_true,cond_true,zoQ,zq3,beq_iff_eq.1 hb]
theorem znR(b:Bool){f:Fc}(hf:FcOk f){us:List Nat}(hs:Sel f us){M:Nat}(hM:∀ i,f.get i≤M)(hB:zab f.cs * M≤zg7):
  gat b f us=some ((List.range' 0 (zab (cof f us))).map fun j=>big b (fib f us (zab f.cs) 0 j)):=by
 obtain⟨l',g1,g2,g3⟩:=zjl (b:=b) (us:=us) hM (m:=zab f.cs) (i:=0) (K:=0) (l:=List.replicate (zab (cof f us)) 0) (fun j=>by
  rw[qai,qcQ]
  split<;>exact qam _) (by omega) (fun k _ hk=>by rw[qbH]; exact zw7 hf hs (by omega))
 unfold gat;rw[g1];refine congrArg some (qbP (by rw[g2]; simp) fun j a c=>?_);have hj:j<zab (cof f us):=by simpa using c
 have e:=g3 j (by simpa using hj);rw[qai,qad a,qai,qcQ,if_pos hj]at e;simp only[qbm]at e;rw[ztM]at e;rw[e];simp
def upd(s:Nat→Nat)(v p:Nat)(u:Nat):Nat:=bif u == v then p else s u
theorem zet(s:Nat→Nat)(v p:Nat):upd s v p v=p:=by unfold upd; rw[beq_self_eq_true,cond_true]
theorem zg2{s:Nat→Nat}{v p u:Nat}(h:u≠v):upd s v p u=s u:=by unfold upd; rw[beq_false_of_ne h,cond_false]
theorem zvt{f:Fc}{v u:Nat}(h:u∈rest f v):u≠v:=by
 have:=(qbj.1 h).2;intro e;rw[e,beq_self_eq_true]at this;cases this
theorem zgn{f:Fc}(hf:FcOk f){v k:Nat}(hv:pos f.vs v=some k)(s:Nat→Nat)(p:Nat):(f.vs.map (upd s v p)).eraseIdx k=(rest f v).map s:=by
 rw[← ze9,← zh6 hf hv];exact qbp fun u hu=>zg2 (zvt hu)
theorem zla{cs:List Nat}{k:Nat}(hc:∀ c∈cs,1≤c∧c≤8){i:Nat}(h:i<zab (cs.eraseIdx k)):dot (dig (cs.eraseIdx k) i) (zax (cs.eraseIdx k))=i:=zgT (zd9 hc k) h
theorem zmJ{cs ds:List Nat}{k p:Nat}(hc:∀ c∈cs,1≤c∧c≤8)(hk:k<cs.length)(hp:p<cs[k])(hb:zcw cs ds)(hd:ds.getD k 0=p):zgJ cs k p (dot (ds.eraseIdx k) (zax (cs.eraseIdx k)))=dot ds (zax cs)∧dot (ds.eraseIdx k) (zax (cs.eraseIdx k))<zab (cs.eraseIdx k):=by
 have hlt:=zlE hb;have hdig:=znb hb;obtain⟨j,h1,h2⟩:=zoZ hc hk hlt (p:=p) (by rw[hdig]; exact hd);have h3:=(zjr hc hk hp h1).2;rw[h2,hdig]at h3;rw[h3,zla hc h1];exact⟨h2,h1⟩
theorem znZ{f:Fc}{v k:Nat}(hv:pos f.vs v=some k)(s:Nat→Nat)(p:Nat):(f.vs.map (upd s v p)).getD k 0=p:=by
 obtain⟨hk,e⟩:=zeo hv;rw[qai,qad (by simpa using hk)];simp only[qc1,e,zet,qbm]
theorem znC{f:Fc}(hf:FcOk f){v k:Nat}(hv:pos f.vs v=some k)(hk:k<f.cs.length):at_ f.vs f.cs v=f.cs[k]:=by
 rw[zrq hv,qai,qad hk];rfl
theorem zrF{f:Fc}(hf:FcOk f){v k p:Nat}(hv:pos f.vs v=some k)(hk:k<f.cs.length)(hp:p<f.cs[k]){s:Nat→Nat}(hs:∀ u∈rest f v,s u<at_ f.vs f.cs u):Fit f (upd s v p):=by
 intro u hu;by_cases e:u=v
 ·subst e;rw[zet,znC hf hv hk];exact hp
 rw[zg2 e];exact hs u (qbj.2 ⟨hu,by rw[beq_false_of_ne e]; rfl⟩)
theorem zwu{f:Fc}(hf:FcOk f){v k p:Nat}(hv:pos f.vs v=some k)(hk:k<f.cs.length)(hp:p<f.cs[k]){s:Nat→Nat}(hs:∀ u∈rest f v,s u<at_ f.vs f.cs u):(fixF f v k p).val s=f.val (upd s v p):=by
 have hb:=(zrF hf hv hk hp hs).below hf;obtain⟨h1,h2⟩:=zmJ hf.card hk hp hb (znZ hv s p);rw[zgn hf hv]at h1 h2;show((List.range' 0 (zab (f.cs.eraseIdx k))).map fun j=>f.get (zgJ f.cs k p j)).getD (dot ((rest f v).map s) (zax (f.cs.eraseIdx k))) 0=_;rw[get_map h2,h1];rfl
theorem zjb:∀ {cs:List Nat} {k p q i:Nat},(∀ c∈cs,1≤c∧c≤8)→k<cs.length→p<q→zgJ cs k p i<zgJ cs k q i
 | [],k,_,_,_,_,hk,_=>by simp at hk
 | c :: cs,0,p,q,i,hc,_,h=>by
  have hp:0<zab cs:=zbK fun d hd=>hc d (qak c hd)
  have:=Nat.mul_lt_mul_of_pos_right h hp;show p * zab cs+i<q * zab cs+i;omega
 | c :: cs,k+1,p,q,i,hc,hk,h=>by
  have:=zjb (i:=i % zab (cs.eraseIdx k)) (fun d hd=>hc d (qak c hd)) (show k<cs.length by simpa using hk) h;show i / zab (cs.eraseIdx k)* zab cs+zgJ cs k p (i % zab (cs.eraseIdx k))<i / zab (cs.eraseIdx k)* zab cs+zgJ cs k q (i % zab (cs.eraseIdx k));omega
theorem zsE{f:Fc}(hf:FcOk f){v k:Nat}(hv:pos f.vs v=some k){i:Nat}:ix f (rest f v) i=dot ((dig f.cs i).eraseIdx k) (zax (f.cs.eraseIdx k)):=by
 unfold ix;rw[zhl hf hv,zh6 hf hv,ze9,zou (zbr hf.inc) (by rw[zfO,hf.len])]
theorem zta{f:Fc}(hf:FcOk f){v k:Nat}(hv:pos f.vs v=some k)(hk:k<f.cs.length){j:Nat}(hj:j<zab (f.cs.eraseIdx k)):fib f (rest f v) (zab f.cs) 0 j=(List.range' 0 f.cs[k]).map fun p=>f.get (zgJ f.cs k p j):=by
 have e:((List.range' 0 (zab f.cs)).filter fun i=>ix f (rest f v) i == j)=(List.range' 0 f.cs[k]).map fun p=>zgJ f.cs k p j:=by
  refine zgX (qbu _ List.pairwise_lt_range') (List.pairwise_map.2 (List.Pairwise.imp (fun h=>zjb hf.card hk h) List.pairwise_lt_range')) fun x=>?_
  simp only[qbj,List.mem_range'_1,qaJ,beq_iff_eq];constructor
  ·rintro⟨⟨_,h1⟩,h2⟩;have hx:x<zab f.cs:=by omega
   have hb:=zeZ hf.card hx;have hp:(dig f.cs x).getD k 0<f.cs[k]:=by
    have hkd:k<(dig f.cs x).length:=by rw[zfO]; exact hk
    have hm:f.vs[k]'(by rw[hf.len]; exact hk)∈f.vs:=qat _;have h3:=(zhq hf.len hb hm).1;rw[zob (zbr hf.inc) (by rw[hf.len]; exact hk),zob (zbr hf.inc) (by rw[hf.len]; exact hk)]at h3
    rwa [qai (l:=f.cs),qad hk]at h3
   refine⟨(dig f.cs x).getD k 0,⟨qaC _,by omega⟩,?_⟩;obtain⟨h3,_⟩:=zmJ hf.card hk hp hb rfl;rw[zsE hf hv]at h2;rw[h2,zgT hf.card hx]at h3;exact h3
  rintro⟨p,⟨_,h1⟩,rfl⟩;have hp:p<f.cs[k]:=by omega
  refine⟨⟨qaC _,by have:=zjM hf.card hk hp hj; omega⟩,?_⟩;rw[zsE hf hv,(zjr hf.card hk hp hj).2,zla hf.card hj]
 unfold fib;rw[e,qc7];rfl
theorem zwq(b:Bool){f:Fc}(hf:FcOk f){v k:Nat}(hv:pos f.vs v=some k)(hk:k<f.cs.length){l:List Nat}{M:Nat}(hM:∀ i,f.get i≤M)(hB:zab f.cs * M≤zg7)(hg:gat b f (rest f v)=some l){s:Nat→Nat}(hs:∀ u∈rest f v,s u<at_ f.vs f.cs u):
  (gF f (rest f v) l).val s=big b ((List.range' 0 f.cs[k]).map fun p=>f.val (upd s v p)):=by
 have h0:=znR b hf (zgG hf v) hM hB;rw[hg,zhl hf hv]at h0;have hl:=qac h0;have hc0:0<f.cs[k]:=(hf.card _ (qat hk)).1;have key:∀ p,p<f.cs[k]→zgJ f.cs k p (dot ((rest f v).map s) (zax (f.cs.eraseIdx k)))=dot (f.vs.map (upd s v p)) (zax f.cs)∧dot ((rest f v).map s) (zax (f.cs.eraseIdx k))<zab (f.cs.eraseIdx k):=by
  intro p hp;have h:=zmJ hf.card hk hp ((zrF hf hv hk hp hs).below hf) (znZ hv s p);rw[zgn hf hv]at h;exact h
 have hj:=(key 0 hc0).2;show l.getD (dot ((rest f v).map s) (zax (cof f (rest f v)))) 0=_;rw[zhl hf hv,hl,get_map hj,zta hf hv hk hj];congr 1
 refine qbp fun p hp=>?_
 have:=List.mem_range'_1.1 hp;rw[(key p (by omega)).1];rfl
end Go.Dc
