/-
 Plain laws: numbers and sets of bits. Conditions: none.
-/
import Derived.Test.YtcfdkhbflhdjeaaNcJ5
set_option linter.unusedSimpArgs false
set_option linter.unusedVariables false
namespace Go.Dc
open Go Go.Mx Go.Lx
theorem zaT{n:Nat}(h:n<9223372036854775808):w64 (n:Int)=(n:Int):=wrap64 (by omega) (by omega)
theorem zm6{n:Int}(h1:-9223372036854775808≤n)(h2:n<9223372036854775808):w64 n=n:=wrap64 h1 h2
theorem zaq{n:Nat}(h:n+1<9223372036854775808):w64 ((n:Int)+1)=((n+1:Nat):Int):=by
 rw[zm6 (by omega) (by omega)]; omega
theorem zuL(n:Nat):IntKind.u64.wrap (n:Int)=((n % 18446744073709551616:Nat):Int):=by
 simp only[IntKind.wrap,IntKind.bits,IntKind.signed]; simp
theorem zfi{n:Nat}(h:n<18446744073709551616):IntKind.u64.wrap (n:Int)=(n:Int):=by
 rw[zuL,qbr h]
theorem zxD{a b:Nat}(ha:a<18446744073709551616)(hb:b<18446744073709551616):znD .u64 (a:Int) (b:Int)=((a &&& b:Nat):Int):=by
 have h:(BitVec.ofInt 64 (a:Int) &&& BitVec.ofInt 64 (b:Int)).toNat=a &&& b:=by
  simp only[qcf,BitVec.toNat_and,BitVec.toNat_ofNat];rw[qbr ha,qbr hb]
 show IntKind.u64.wrap ((BitVec.ofInt 64 (a:Int) &&& BitVec.ofInt 64 (b:Int)).toNat:Int)=_;rw[h];exact zfi (qb4 Nat.and_le_left ha)
theorem orU{a b:Nat}(ha:a<18446744073709551616)(hb:b<18446744073709551616):orI .u64 (a:Int) (b:Int)=((a ||| b:Nat):Int):=by
 have h:(BitVec.ofInt 64 (a:Int)||| BitVec.ofInt 64 (b:Int)).toNat=a ||| b:=by
  simp only[qcf,BitVec.toNat_or,BitVec.toNat_ofNat];rw[qbr ha,qbr hb]
 show IntKind.u64.wrap ((BitVec.ofInt 64 (a:Int)||| BitVec.ofInt 64 (b:Int)).toNat:Int)=_;rw[h];exact zfi (qbW (n:=64) ha hb)
def diff(a b:Nat):Nat:=(BitVec.ofNat 64 a &&& ~~~ BitVec.ofNat 64 b).toNat
theorem ztS(a b:Nat):diff a b<18446744073709551616:=(BitVec.ofNat 64 a &&& ~~~ BitVec.ofNat 64 b).isLt
theorem zxc(a b:Nat):ztW .u64 (a:Int) (b:Int)=((diff a b:Nat):Int):=by
 show IntKind.u64.wrap ((BitVec.ofInt 64 (a:Int) &&& ~~~ BitVec.ofInt 64 (b:Int)).toNat:Int)=_;rw[qcf,qcf];exact zfi (ztS a b)
theorem zmI{a b i:Nat}(ha:a<18446744073709551616)(hb:b<18446744073709551616):(diff a b).testBit i=(a.testBit i && !b.testBit i):=by
 unfold diff;rw[BitVec.testBit_toNat,BitVec.getLsbD_and,BitVec.getLsbD_not,BitVec.getLsbD_ofNat,BitVec.getLsbD_ofNat];by_cases hi:i<64
 ·simp[hi]
 have:a.testBit i=false:=Nat.testBit_lt_two_pow (qbl ha (qbj (n:=2) (by decide) (show 64≤i by omega)));simp[hi,this]
theorem zvZ{v:Nat}(hv:v<64):zmV .u64 1 (v:Int)=some ((2 ^ v:Nat):Int):=by
 unfold zmV;rw[if_pos (by omega)];congr 1
 have h1:min (v:Int).toNat IntKind.u64.bits=v:=by
  rw[show IntKind.u64.bits=64 from rfl,qaO]; exact qbv (by omega)
 rw[h1,Int.one_mul];have h2:((2:Int) ^ v)=((2 ^ v:Nat):Int):=by simp
 rw[h2];exact zfi (qbG (by decide) hv)
theorem zxH{a v:Nat}(hv:v<64):zkr .u64 (a:Int) (v:Int)=some ((a >>> v:Nat):Int):=by
 unfold zkr;rw[if_pos (by omega)];congr 1
 have h1:min (v:Int).toNat IntKind.u64.bits=v:=by
  rw[show IntKind.u64.bits=64 from rfl,qaO]; exact qbv (by omega)
 rw[h1,qcg];have h2:((2:Int) ^ v)=((2 ^ v:Nat):Int):=by simp
 rw[h2,Int.fdiv_eq_ediv_of_nonneg _ (qbm _)];rfl
theorem zxf(a v:Nat):((a >>> v) &&& 1)=(a.testBit v).toNat:=by
 rw[Nat.and_one_is_mod,Nat.testBit_eq_decide_div_mod_eq,qcg];have h:=Nat.mod_two_eq_zero_or_one (a / 2 ^ v);rcases h with h | h<;>simp[h]
theorem zw7{a v:Nat}(ha:a<18446744073709551616)(hv:v<64):∃ q:Int,zkr .u64 (a:Int) (v:Int)=some q∧znD .u64 q 1=((a.testBit v).toNat:Int):=by
 refine⟨_,zxH hv,?_⟩;rw[show(1:Int)=((1:Nat):Int)from rfl,zxD (qb4 (by rw[qcg]; exact Nat.div_le_self _ _) ha) (by decide),zxf]
variable {α:Type}
theorem zrh{xs:List α}{i:Nat}:zaO xs (i:Int)=xs[i]?:=by
 unfold zaO;rw[if_pos (qbm i),qaO]
theorem zaJ{xs:List α}{i:Nat}(h:i<xs.length):zaO xs (i:Int)=some (xs[i]'h):=by
 rw[zrh,qae h]
theorem zgU{xs:List α}{i:Nat}{v:α}(h:i<xs.length):zgG xs (i:Int) v=some (xs.set i v):=by
 unfold zgG;rw[if_pos (by omega),qaO]
theorem zd2{b:Nat}{xs ys:List α}(h:(xs.length+ys.length)* b≤70368744177664):zd5 b xs ys=some (xs ++ ys):=by
 unfold zd5;rw[if_pos (by simp only[zad]; omega)]
theorem zhv{b n:Nat}{z:α}(h:n * b≤70368744177664):zgl b (n:Int) z=some (List.replicate n z):=by
 have h2:(n:Int)* (b:Int)≤zad:=by
  rw[← qbg]; simp only[zad]; omega
 unfold zgl;rw[if_pos ⟨qbm n,h2⟩,qaO]
theorem zrM{b:Nat}{xs:List α}(h:xs.length * b≤70368744177664):zev b xs=some xs:=by
 unfold zev;rw[if_pos (by simp only[zad]; omega)]
theorem zar{i n:Nat}:decide ((i:Int)<(n:Int))=decide (i<n):=by simp
theorem zaF(n:Nat):((n:Int) - 0+2).toNat=n+2:=by omega
theorem zpk{p0:S_api_Net}(hl:p0.nodes.length≤8):∀(n i:Nat) (acc:List Int),i≤p0.nodes.length→acc.length≤i→p0.nodes.length - i<n →
  zcy p0 n (i:Int) acc=some (acc ++ (p0.nodes.drop i).map (·.card))
 | 0,_,_,_,_,h=>absurd h (qam _)
 | n+1,i,acc,h1,h2,h3=>by
  unfold zcy;by_cases hi:i<p0.nodes.length
  ·rw[zar,decide_eq_true hi,cond_true,zaJ hi,qaa,zd2 (by simp; omega),qaa,zaq (by omega),
    zpk hl n (i+1) _ hi (by simp; omega) (by omega),qaq hi]
   rw[qa2]; rfl
  rw[zar,decide_eq_false hi,cond_false,qaF (by omega)];simp
theorem ziN{p0:S_api_Net}(hl:p0.nodes.length≤8):zcm p0=some (p0.nodes.map (·.card)):=by
 unfold zcm;rw[zaF];have h:=zpk hl (p0.nodes.length+2) 0 [] (qav _) (qak _) (by omega);rw[show((0:Nat):Int)=0 from rfl]at h;rw[h];simp
def Pl(n:Nat)(xs:List Nat):Prop:=∀ x∈xs,x<n
def iL(xs:List Nat):List Int:=xs.map (fun x:Nat=>(x:Int))
theorem zaw(xs:List Nat):(iL xs).length=xs.length:=by simp[iL]
theorem zsH{xs:List Nat}{i:Nat}(h:i<xs.length):(iL xs)[i]'(by rw[zaw]; exact h)=((xs[i]:Nat):Int):=by simp[iL]
theorem zbS{xs:List Nat}{i:Nat}(h:i<xs.length):zaO (iL xs) (i:Int)=some ((xs[i]:Nat):Int):=by
 rw[zaJ (by rw[zaw]; exact h),zsH h]
theorem zwX{cs:List Int}{ps:List Nat}(hp:Pl cs.length ps)(hl:ps.length≤8):∀(n i:Nat) (acc:List Int),i≤ps.length→acc.length≤i→ps.length - i<n →
  zem (iL ps) cs n (i:Int) acc=some (acc ++ (ps.drop i).map fun p=>cs.getD p 0)
 | 0,_,_,_,_,h=>absurd h (qam _)
 | n+1,i,acc,h1,h2,h3=>by
  unfold zem;rw[zaw];by_cases hi:i<ps.length
  ·have hb:ps[i]<cs.length:=hp _ (qao hi)
   rw[zar,decide_eq_true hi,cond_true,zbS hi,qaa,zaJ hb,qaa,zd2 (by simp; omega),qaa,zaq (by omega),
    zwX hp hl n (i+1) _ hi (by simp; omega) (by omega),qaq hi]
   rw[qa2,qaD,show cs.getD ps[i] 0=cs[ps[i]] by simp[hb]]; rfl
  rw[zar,decide_eq_false hi,cond_false,qaF (by omega)];simp
theorem zu1{cs:List Int}{ps:List Nat}(hp:Pl cs.length ps)(hl:ps.length≤8):zf6 cs (iL ps)=some (ps.map fun p=>cs.getD p 0):=by
 unfold zf6;rw[zaw,zaF];have h:=zwX hp hl (ps.length+2) 0 [] (qav _) (qak _) (by omega);rw[show((0:Nat):Int)=0 from rfl]at h;rw[h];simp
def zaB(xs:List Nat):Nat:=xs.foldr (· * ·) 1
theorem zhQ{xs:List Nat}(h:∀ x∈xs,1≤x):1≤zaB xs:=by
 induction xs with
 | nil=>exact qak 1
 | cons x xs ih=>exact qb1 (h x qas) (ih fun y hy=>h y (qar _ hy))
theorem zsR{cs:List Nat}(hc:∀ x∈cs,1≤x)(hl:cs.length≤8):∀(n i a:Nat),i≤cs.length→a * zaB (cs.drop i)≤65536→cs.length - i<n →
  zcP (iL cs) n (a:Int) (i:Int)=some ((a * zaB (cs.drop i):Nat):Int)
 | 0,_,_,_,_,h=>absurd h (qam _)
 | n+1,i,a,h1,h2,h3=>by
  unfold zcP;rw[zaw];by_cases hi:i<cs.length
  ·have e:cs.drop i=cs[i]:: cs.drop (i+1):=qaq hi;have e2:a * zaB (cs.drop i)=a * cs[i] * zaB (cs.drop (i+1)):=by rw[e]; exact(qca _ _ _).symm
   rw[e2]at h2;have hq:1≤zaB (cs.drop (i+1)):=zhQ fun x hx=>hc x (qcd hx)
   have hle:a * cs[i]≤65536:=qax (qa6 _ hq) h2
   rw[zar,decide_eq_true hi,cond_true,zbS hi,qaa,zaq (by omega),show((a:Int)* ((cs[i]:Nat):Int))=((a * cs[i]:Nat):Int) by simp,
    zaT (by omega),zsR hc hl n (i+1) _ hi h2 (by omega),e2]
  rw[zar,decide_eq_false hi,cond_false,qaF (by omega)];simp[zaB]
theorem zlT{cs:List Nat}(hc:∀ x∈cs,1≤x)(hl:cs.length≤8)(hp:zaB cs≤65536):zcS (iL cs)=some ((zaB cs:Nat):Int):=by
 unfold zcS;rw[zaw,zaF];have h:=zsR hc hl (cs.length+2) 0 1 (qav _) (by simpa using hp) (by omega);rw[show((0:Nat):Int)=0 from rfl,show((1:Nat):Int)=1 from rfl]at h;rw[h];simp
theorem zpq{xs:List Nat}{i v:Nat}(h:i<xs.length):zgG (iL xs) (i:Int) (v:Int)=some (iL (xs.set i v)):=by
 rw[zgU (by rw[zaw]; exact h)]; simp[iL]
theorem zoP:∀ {xs:List Nat} {i k:Nat} (h:i<xs.length),(xs.set i (xs[i]+k)).sum=xs.sum+k
 | [],i,k,h=>absurd h (qam _)
 | x :: xs,0,k,h=>by simp; omega
 | x :: xs,i+1,k,h=>by
  have:=zoP (xs:=xs) (i:=i) (k:=k) (by simpa using h);simp only[qco,qbA,List.getElem_cons_succ,this];omega
theorem zib:∀ {xs:List Nat} {i:Nat} (h:i<xs.length),xs[i]≤xs.sum
 | [],i,h=>absurd h (qam _)
 | x :: xs,0,h=>by simp
 | x :: xs,i+1,h=>by
  have:=zib (xs:=xs) (i:=i) (by simpa using h);simp only[qbA,List.getElem_cons_succ];omega
theorem zcW{xs0 bs:List Nat}{x:Nat}:zaO (iL (xs0 ++ x :: bs)) ((xs0.length:Nat):Int)=some (x:Int):=by
 rw[zbS (by simp)]; simp
theorem zff{xs0 bs:List Nat}{x y:Nat}:zgG (iL (xs0 ++ x :: bs)) ((xs0.length:Nat):Int) (y:Int)=some (iL (xs0 ++ y :: bs)):=by
 rw[zpq (by simp)]; simp
theorem zoT{a b:Nat}(hb:0<b):zsh (a:Int) (b:Int)=some ((a % b:Nat):Int):=by
 unfold zsh;have:((b:Int)== 0)=false:=by simp; omega
 rw[this,cond_false]; rfl
theorem zw2{ws:List Nat}{g p c:Nat}(hp:p≤65536)(hc:c≤8):∀(n:Nat) (xs0:List Nat) (k:Nat),xs0.length+k=c→xs0.sum≤7 * xs0.length→k<n →
  ∃ zs:List Nat,zs.length=c∧zs.sum≤7 * c∧zct (c:Int) (iL ws) (p:Int) n ((xs0.sum:Nat):Int) (xs0.length:Int) (iL (xs0 ++ List.replicate k 0))=some (((zs.sum:Nat):Int),iL zs)
 | 0,_,_,_,_,h=>absurd h (qam _)
 | n+1,xs0,0,h1,h2,h3=>by
  refine⟨xs0,by simpa using h1,by rw[← h1]; simpa using h2,?_⟩;unfold zct;rw[zar,decide_eq_false (by omega),cond_false];simp
 | n+1,xs0,k+1,h1,h2,h3=>by
  have step:∀ a:Nat,a≤7→∃ zs:List Nat,zs.length=c∧zs.sum≤7 * c∧zct (c:Int) (iL ws) (p:Int) n (w64 (((xs0.sum:Nat):Int)+(a:Int))) (w64 ((xs0.length:Int)+1)) (iL (xs0 ++ a :: List.replicate k 0))=some (((zs.sum:Nat):Int),iL zs):=by
   intro a ha;obtain⟨zs,e1,e2,e3⟩:=zw2 (ws:=ws) (g:=g) hp hc n (xs0 ++ [a]) k (by simp; omega) (by simp; omega) (by omega);refine⟨zs,e1,e2,?_⟩;rw[zaq (by omega),← qcE,zaT (by omega),← e3];simp
  unfold zct;rw[zar,decide_eq_true (by omega),cond_true,zaw,qa3];by_cases h0:0<ws.length
  ·have hq:(p+xs0.length) % ws.length<ws.length:=qbV _ h0;obtain⟨zs,e1,e2,e3⟩:=step (ws[(p+xs0.length) % ws.length] % 8) (by omega);refine⟨zs,e1,e2,?_⟩
   rw[show decide ((0:Int)<(ws.length:Int))=true by simpa using h0,cond_true,← qcE,zaT (by omega),zoT h0,qaa,zbS hq,qaa,zcW,
    qaa,show(((ws[(p+xs0.length) % ws.length]:Nat):Int).tmod 8)=((ws[(p+xs0.length) % ws.length] % 8:Nat):Int)from rfl,zaT (by omega),zff,
    qaa,qaa,zcW,qaa,e3]
  obtain⟨zs,e1,e2,e3⟩:=step 0 (by omega);refine⟨zs,e1,e2,?_⟩;rw[show decide ((0:Int)<(ws.length:Int))=false by simpa using h0,cond_false,qaa,zcW,qaa,e3]
theorem zv0{g t c:Nat}(hg:g≤60)(hc:c≤8)(ht:t≤65536):∀(n:Nat) (xs0 bs:List Nat) (m:Nat) (v:Nat),xs0.length+bs.length=c→xs0.sum * t+g * bs.sum≤g * t→bs.sum≤t→xs0.sum≤g→v<c→bs.length<n →
  ∃(zs:List Nat) (v':Nat),zs.length=c∧zs.sum≤g∧v'<c∧zcT (c:Int) (g:Int) (t:Int) n ((g - xs0.sum:Nat):Int) (v:Int) (xs0.length:Int) (iL (xs0 ++ bs))=some (((g - zs.sum:Nat):Int),(v':Int),iL zs)
 | 0,_,_,_,_,_,_,_,_,_,h=>absurd h (qam _)
 | n+1,xs0,[],m,v,h1,h2,h2b,h3,h4,h5=>by
  refine⟨xs0,v,by simpa using h1,h3,h4,?_⟩;unfold zcT;rw[zar,decide_eq_false (by simp at h1; omega),cond_false];simp
 | n+1,xs0,b :: bs,m,v,h1,h2,h2b,h3,h4,h5=>by
  simp only[qaL,qbA]at h1 h2 h2b h5;unfold zcT;rw[zar,decide_eq_true (by omega),cond_true,zcW,qaa];by_cases h0:0<b
  ·have hb:b≤t:=by omega
   have hgb:g * b≤60 * 65536:=qb1 hg (by omega);have hd:g * b / t * t≤g * b:=Nat.div_mul_le_self _ _;have hs:xs0.sum+g * b / t≤g:=by
    have h6:(xs0.sum+g * b / t)* t≤g * t:=by
     rw[qaW];have:g * (b+bs.sum)=g * b+g * bs.sum:=Nat.mul_add _ _ _;omega
    exact qbL h6 (by omega)
   obtain⟨zs,v',e1,e2,e3,e4⟩:=zv0 hg hc ht n (xs0 ++ [g * b / t]) bs m xs0.length (by simp; omega) (by
    have:g * (b+bs.sum)=g * b+g * bs.sum:=Nat.mul_add _ _ _
    simp only[List.sum_append,qbA,List.sum_nil,qbJ,qaW]; omega) (by omega) (by simpa using hs) (by omega) (by omega)
   refine⟨zs,v',e1,e2,e3,?_⟩;have hq:ztc .i64 (w64 ((g:Int)* (b:Int))) (t:Int)=some ((g * b / t:Nat):Int):=by
    unfold ztc;have:((t:Int)== 0)=false:=by simp; omega
    rw[this,cond_false,← qbg,zaT (by omega)];have hle:g * b / t≤g * b:=Nat.div_le_self _ _;exact congrArg some (zaT (n:=g * b / t) (by omega))
   rw[show decide ((0:Int)<(b:Int))=true by simpa using h0,cond_true,hq,qaa,zff,qaa,qaa];simp only[];rw[zcW,qaa,zaq (by omega),show(((g - xs0.sum:Nat):Int) - ((g * b / t:Nat):Int))=((g - (xs0.sum+g * b / t):Nat):Int) by omega,zaT (qb4 (Nat.sub_le _ _) (by omega)),← e4];simp
  have hb:b=0:=by omega
  subst hb;obtain⟨zs,v',e1,e2,e3,e4⟩:=zv0 hg hc ht n (xs0 ++ [0]) bs m v (by simp; omega) (by simp at h2 ⊢; omega) (by omega) (by simpa using h3) h4 (by omega);refine⟨zs,v',e1,e2,e3,?_⟩;rw[show decide ((0:Int)<((0:Nat):Int))=false from rfl,cond_false,qaa];simp only[];rw[zcW,qaa,zaq (by omega),← Int.ofNat_sub (by omega),zaT (by omega),← e4];simp
theorem ztd{ws:List Nat}{g p c:Nat}(hg:g≤60)(hp:p≤65536)(h1:1≤c)(hc:c≤8):
  ∃ zs:List Nat,zs.length=c∧zs.sum=g∧ze1 (g:Int) (c:Int) (iL ws) (p:Int)=some (iL zs):=by
 obtain⟨zs,e1,e2,e3⟩:=zw2 (ws:=ws) (g:=g) hp hc (c+2) [] c (by simp) (by simp) (by omega);obtain⟨ys,v,f1,f2,f3,f4⟩:=zv0 (g:=g) (t:=zs.sum) (c:=c) hg hc (by omega) (c+2) [] zs 0 0 (by simp[e1]) (by simp) (qak _) (by simp) (by omega) (by omega);have hv:v<ys.length:=by omega
 refine⟨ys.set v (ys[v]+(g - ys.sum)),by simp[f1],by rw[zoP]; omega,?_⟩;unfold ze1;have hz:List.replicate c (0:Int)=iL (List.replicate c 0):=by simp[iL]
 simp only[qbe,List.sum_nil,qaQ,qcw]at e3 f4;rw[zhv (by omega),qaa,hz,zaF];rw[show((0:Nat):Int)=0 from rfl]at e3 f4;rw[e3,qaa];simp only[];rw[f4,qaa];simp only[];rw[zbS hv,qaa,← qcE,zaT,zpq hv,qaa];have:ys[v]≤ys.sum:=zib hv;omega
theorem zoK{c w:Nat}{os:List Int}{wh:Int}(hc:c≤5):∀(n i:Nat) (acc:List Int),acc.length=i→i≤c→c - i<n →
  ∃ zs:List Int,zs.length=c∧za4 ⟨List.replicate c 0,wh,os⟩ n (i:Int) acc=some zs
 | 0,_,_,_,_,h=>absurd h (qam _)
 | n+1,i,acc,h1,h2,h3=>by
  unfold za4;simp only[qcx];by_cases hi:i<c
  ·obtain⟨zs,e1,e2⟩:=zoK (w:=w) (os:=os) (wh:=wh) hc n (i+1) (acc ++ [1]) (by simp[h1]) hi (by omega);refine⟨zs,e1,?_⟩
   rw[zar,decide_eq_true hi,cond_true,qaa,show decide ((i:Int)<5)=true by simp; omega,cond_true,zaJ (by simpa using hi),qaa,
    List.getElem_replicate,show w64 (1+w64 ((0:Int).tmod 4))=1 from rfl,zd2 (by simp; omega),qaa,zaq (by omega),e2]
  exact⟨acc,by omega,by rw[zar,decide_eq_false hi,cond_false,qaa,cond_false]⟩
theorem zq9{c N:Nat}{os:List Int}{wh:Int}(hc:c≤5)(hN:6≤N):∃ zs:List Int,zs.length=c∧zbA N ⟨List.replicate c 0,wh,os⟩=some zs:=by
 obtain⟨zs,e1,e2⟩:=zoK (w:=0) (os:=os) (wh:=wh) hc N 0 [] rfl (qav _) (by omega);refine⟨zs,e1,?_⟩;unfold zbA;rw[show((0:Nat):Int)=0 from rfl]at e2;rw[e2,qaa]
structure PermOk (c:Nat) (xs:List Nat):Prop where
 len:xs.length=c
 nod:xs.Nodup
 lt:∀ x∈xs,x<c
 all:∀ x,x<c→x∈xs
theorem zke{α:Type}{xs:List α}{a b:Nat}(h1:a≤b)(h2:b≤xs.length):zdb xs (a:Int) (b:Int)=some ((xs.drop a).take (b - a)):=by
 unfold zdb;rw[if_pos (by omega)];simp
theorem zst{c N:Nat}{os:List Nat}{wh:Int}(hc:c≤5)(hN:6≤N)(ho:∀ o∈os,o≤255):∀(n i:Nat) (xs:List Nat),PermOk i xs→i≤c→c - i<n →
  ∃ zs:List Nat,PermOk c zs∧zaz N ⟨List.replicate c 0,wh,iL os⟩ n (i:Int) (iL xs)=some (iL zs)
 | 0,_,_,_,_,h=>absurd h (qam _)
 | n+1,i,xs,h1,h2,h3=>by
  unfold zaz;obtain⟨z0,z1,z2⟩:=zq9 (os:=iL os) (wh:=wh) hc hN;rw[z2,qaa,z1];by_cases hi:i<c
  ·have step:∀ q:Nat,q≤i→∃ zs:List Nat,PermOk c zs∧((zdb (iL xs) 0 (q:Int)).bind fun y9=>
     (zev 8 y9).bind fun y11=>(zd5 8 y9 [(i:Int)]).bind fun y13=>(zdb (iL xs) (q:Int) (iL xs).length).bind fun y15=>(zd5 8 y13 y15).bind fun y17=>
     zaz N ⟨List.replicate c 0,wh,iL os⟩ n (w64 ((i:Int)+1)) y17)=some (iL zs):=by
    intro q hq;have hl:=h1.len;have hp:List.Perm (xs.take q ++ i :: xs.drop q) (i :: xs):=by
     refine List.perm_middle.trans ?_;rw[qbO]
    obtain⟨zs,e1,e2⟩:=zst (wh:=wh) hc hN ho n (i+1) (xs.take q ++ i :: xs.drop q) ⟨by rw[hp.length_eq]; simp[hl],hp.nodup_iff.2 (qb7.2 ⟨fun hx=>Nat.lt_irrefl _ (h1.lt _ hx),h1.nod⟩),
     fun x hx=>by
      rcases qaH.1 (hp.mem_iff.1 hx)with h | h
      ·omega
      have:=h1.lt _ h; omega,
     fun x hx=>hp.mem_iff.2 (by
      by_cases hxi:x=i
      ·exact qaH.2 (.inl hxi)
      exact qar _ (h1.all _ (by omega)))⟩ hi (by omega)
    refine⟨zs,e1,?_⟩
    rw[show(0:Int)=((0:Nat):Int)from rfl,zke (qav _) (by rw[zaw]; omega),qaa,zrM (by simp[zaw]; omega),qaa,
     zd2 (by simp[zaw]; omega),qaa,zke (by rw[zaw]; omega) (qak _),qaa,zd2 (by simp[zaw]; omega),qaa,zaq (by omega),← e2]
    congr 1
    simp[iL,qaM]
   rw[zar,decide_eq_true hi,cond_true];simp only[zaw (os)];by_cases hio:i<os.length
   ·have hq:os[i] % (i+1)≤i:=Nat.lt_succ_iff.1 (qbV _ (Nat.succ_pos _));have hb:=ho _ (qao hio);obtain⟨zs,e1,e2⟩:=step _ hq;refine⟨zs,e1,?_⟩;rw[zar,decide_eq_true hio,cond_true,zbS hio,qaa,zaT (by omega),zaq (by omega),zoT (by omega),qaa,qaa,← zaq (by omega)];exact e2
   obtain⟨zs,e1,e2⟩:=step 0 (qav _);refine⟨zs,e1,?_⟩;rw[zar,decide_eq_false hio,cond_false,qaa];exact e2
  have:i=c:=by omega
  subst this;exact⟨xs,h1,by rw[zar,decide_eq_false hi,cond_false]⟩
theorem ztb{c N:Nat}{os:List Nat}{wh:Int}(hc:c≤5)(hN:6≤N)(ho:∀ o∈os,o≤255):
  ∃ zs:List Nat,PermOk c zs∧zaX N ⟨List.replicate c 0,wh,iL os⟩=some (iL zs):=by
 obtain⟨zs,e1,e2⟩:=zst (wh:=wh) hc hN ho N 0 [] ⟨rfl,List.nodup_nil,by simp,by simp⟩ (qav _) (by omega);refine⟨zs,e1,?_⟩;unfold zaX;rw[show((0:Nat):Int)=0 from rfl,show iL []=[]from rfl]at e2;rw[e2,qaa]
structure NN where
 c:Nat
 ps:List Nat
 rows:List (List Nat)
def nd(x:NN):S_api_Node:=⟨x.c,iL x.ps,x.rows.map iL⟩
theorem zrF(k:IntKind)(a:Int){v:Nat}:∃ q,zkr k a (v:Int)=some q:=by
 unfold zkr;rw[if_pos (qbm v)];exact⟨_,rfl⟩
theorem zrG{num ps:List Nat}{ps8:Int}{u k:Nat}(hk:k<num.length):∃ b,zr6 (iL num) ps8 (u:Int) (k:Int) (iL ps)=some b∧(b=true→num[k]=u∧ps.length<3):=by
 unfold zr6;rw[zbS hk,qaa];by_cases h:num[k]=u
 ·obtain⟨q,e⟩:=zrF .u8 ps8 (v:=k % 18446744073709551616);rw[show(((num[k]:Nat):Int)==(u:Int))=true by simp[h],cond_true,zuL,e,qaa];cases znD .u8 q 1 == 1 with
  | true=>exact⟨_,rfl,fun h2=>⟨h,by rw[zaw]at h2; have:=of_decide_eq_true h2; omega⟩⟩
  | false=>exact⟨_,rfl,fun h2=>by cases h2⟩
 rw[show(((num[k]:Nat):Int)==(u:Int))=false by simp; omega,cond_false];exact⟨_,rfl,fun h2=>by cases h2⟩
theorem zi1{num:List Nat}{ps8:Int}{u i:Nat}(hi:i≤num.length)(hn:num.length≤5)(hd:num.Nodup):∀(n k:Nat) (ps:List Nat),ps.length≤3→k≤i→i - k<n →
  ∃ qs:List Nat,zma (iL num) (i:Int) ps8 (u:Int) n (k:Int) (iL ps)=some (iL qs)∧(qs=ps∨(qs=ps ++ [u]∧ps.length<3∧∃ j,k≤j∧j<i∧num[j]? = some u))
 | 0,_,_,_,_,h=>absurd h (qam _)
 | n+1,k,ps,h1,h2,h3=>by
  unfold zma;by_cases hk:k<i
  ·obtain⟨b,e,hb⟩:=zrG (num:=num) (ps:=ps) (ps8:=ps8) (u:=u) (k:=k) (by omega);rw[zar,decide_eq_true hk,cond_true,e,qaa];cases b with
   | false=>
    obtain⟨qs,e2,h4⟩:=zi1 (ps8:=ps8) (u:=u) hi hn hd n (k+1) ps h1 hk (by omega);refine⟨qs,by rw[cond_false,zaq (by omega),e2],?_⟩;rcases h4 with h4 | ⟨h4,h5,j,h6,h7,h8⟩
    ·exact .inl h4
    ·exact .inr ⟨h4,h5,j,by omega,h7,h8⟩
   | true=>
    obtain⟨h5,h6⟩:=hb rfl;obtain⟨qs,e2,h4⟩:=zi1 (ps8:=ps8) (u:=u) hi hn hd n (k+1) (ps ++ [u]) (by simp; omega) hk (by omega);refine⟨qs,?_,.inr ⟨?_,h6,k,qak _,hk,by rw[qae (by omega),h5]⟩⟩
    ·rw[cond_true,zd2 (by simp[zaw]; omega),qaa,zaq (by omega),← e2];simp[iL]
    rcases h4 with h4 | ⟨h4,h7,j,h8,h9,h10⟩
    ·exact h4
    exfalso
    have hj:j<num.length:=by omega
    rw[qae hj]at h10;have h12:num[j]=num[k]'(by omega):=by rw[h5]; exact qab h10
    exact qaY.1 hd k j (by omega) hj (by omega) h12.symm
  exact⟨ps,by rw[zar,decide_eq_false hk,cond_false],.inl rfl⟩
structure ParOk (num:List Nat) (i:Nat) (b:Nat) (ps:List Nat):Prop where
 len:ps.length≤3
 inc:ps.Pairwise (· < ·)
 lt:∀ p∈ps,p<b
 mem:∀ p∈ps,∃ j,j<i∧num[j]? = some p
theorem zmk{num:List Nat}{ps8:Int}{i c:Nat}(hi:i≤num.length)(hn:num.length≤5)(hc:c≤5)(hd:num.Nodup):∀(n u:Nat) (ps:List Nat),ParOk num i u ps→u≤c→c - u<n →
  ∃ qs:List Nat,znT (iL num) (i:Int) ps8 (c:Int) n (u:Int) (iL ps)=some (iL qs)∧ParOk num i c qs
 | 0,_,_,_,_,h=>absurd h (qam _)
 | n+1,u,ps,h1,h2,h3=>by
  unfold znT;by_cases hu:u<c
  ·obtain⟨qs,e,h4⟩:=zi1 (ps8:=ps8) (u:=u) hi hn hd (i+2) 0 ps h1.len (qav _) (by omega);rw[show((0:Nat):Int)=0 from rfl]at e;have hq:ParOk num i (u+1) qs:=by
    rcases h4 with h4 | ⟨h4,h5,j,h6,h7,h8⟩
    ·subst h4;exact⟨h1.len,h1.inc,fun p hp=>Nat.lt_succ_of_lt (h1.lt p hp),h1.mem⟩
    subst h4;refine⟨by simp; omega,?_,?_,?_⟩
    ·rw[List.pairwise_append];exact⟨h1.inc,List.pairwise_singleton _ _,fun a ha b hb=>by rw[qaZ.1 hb]; exact h1.lt a ha⟩
    ·intro p hp;rcases qbc.1 hp with hp | hp
     ·exact Nat.lt_succ_of_lt (h1.lt p hp)
     rw[qaZ.1 hp]; exact qb0 _
    intro p hp;rcases qbc.1 hp with hp | hp
    ·exact h1.mem p hp
    rw[qaZ.1 hp]; exact⟨j,h7,h8⟩
   obtain⟨rs,e2,h9⟩:=zmk (ps8:=ps8) hi hn hc hd n (u+1) qs hq hu (by omega);refine⟨rs,?_,h9⟩;rw[zar,decide_eq_true hu,cond_true,qaO,e,qaa,zaq (by omega),e2]
  have:u=c:=by omega
  subst this;exact⟨ps,by rw[zar,decide_eq_false hu,cond_false],h1⟩
theorem zek{ns:List NN}{v:Nat}(h:v<ns.length):zaO (ns.map nd) (v:Int)=some (nd ns[v]):=by
 rw[zaJ (by simpa using h)]; simp
theorem zfG{ns:List NN}{v:Nat}{x:NN}(h:v<ns.length):zgG (ns.map nd) (v:Int) (nd x)=some ((ns.set v x).map nd):=by
 rw[zgU (by simpa using h)]; simp
theorem ztU{num:List Nat}{ps8:Int}{i:Nat}{ns:List NN}{v:Nat}(hi:i≤num.length)(hn:num.length≤5)(hl:ns.length≤5)(hd:num.Nodup)(hv:v<ns.length)(hp:ns[v].ps=[]):
  ∃ qs:List Nat,zlr (iL num) (i:Int) (v:Int) (ns.length:Int) ps8 (ns.map nd)=some ((ns.set v ⟨ns[v].c,qs,ns[v].rows⟩).map nd)∧ParOk num i ns.length qs:=by
 obtain⟨qs,e,h⟩:=zmk (ps8:=ps8) hi hn hl hd (ns.length+2) 0 [] ⟨by simp,by simp,by simp,by simp⟩ (qav _) (by omega);refine⟨qs,?_,h⟩;unfold zlr;rw[show((0:Nat):Int)=0 from rfl,show iL []=[]from rfl]at e;rw[zek hv,qaa,show(nd ns[v]).parents.isEmpty=true by simp[nd,hp,iL],cond_true,qaO,e,qaa];exact zfG (x:=⟨ns[v].c,qs,ns[v].rows⟩) hv
structure RowsOk (g c m:Nat) (rows:List (List Nat)):Prop where
 len:rows.length=m
 row:∀ r∈rows,r.length=c∧r.sum=g
theorem zhu{ns:List NN}{v:Nat}{x:NN}(hv:v<ns.length)(hx:x.c=ns[v].c):(ns.set v x).map (·.c)=ns.map (·.c):=by
 rw[qcl,hx];apply List.ext_getElem (by simp);intro i h1 h2;rw[List.getElem_set];split
 ·subst_vars; simp
 rfl
def zdf(ns:List NN)(ps:List Nat):List Nat:=ps.map fun p=>(ns.map (·.c)).getD p 0
theorem zo4{xs:List Nat}{p:Nat}:(iL xs).getD p 0=((xs.getD p 0:Nat):Int):=by
 simp only[iL,qbM,qba];cases xs[p]?<;>rfl
theorem zwy{g:Int}{ns:List NN}{v:Nat}(hl:ns.length≤8)(hv:v<ns.length)(hp:Pl ns.length ns[v].ps)(h8:ns[v].ps.length≤8):
  zaK ⟨g,ns.map nd⟩ (v:Int)=some (iL (zdf ns ns[v].ps)):=by
 unfold zaK;rw[zek hv,qaa,ziN (by simpa using hl),qaa];have hc:(ns.map nd).map (·.card)=iL (ns.map (·.c)):=by simp[iL,nd,qa4]
 simp only[];rw[hc,show(nd ns[v]).parents=iL ns[v].ps from rfl,zu1 (by rw[zaw,qaB]; exact hp) h8,qaa];congr 1
 simp only[zo4];simp only[zdf,iL,List.map_map,qa4]
theorem zm1{g:Nat}{W:List Nat}{ns:List NN}{v m:Nat}(hg:g≤60)(hl:ns.length≤8)(hv:v<ns.length)(hp:Pl ns.length ns[v].ps)(h8:ns[v].ps.length≤8)(hc1:1≤ns[v].c)(hc4:ns[v].c≤4)
  (hs:∀ x∈zdf ns ns[v].ps,1≤x) (hm:zaB (zdf ns ns[v].ps)=m) (hm2:m≤1024):∀(n r:Nat) (rows:List (List Nat)),RowsOk g ns[v].c r rows→r≤m→m - r<n →
  ∃ rows',RowsOk g ns[v].c m rows'∧zn6 (g:Int) (v:Int) (iL W) (ns.map nd) (nd ns[v]) n (r:Int) (rows.map iL)=some (rows'.map iL)
 | 0,_,_,_,_,h=>absurd h (qam _)
 | n+1,r,rows,h1,h2,h3=>by
  unfold zn6;have hx:(⟨(nd ns[v]).card,(nd ns[v]).parents,rows.map iL⟩:S_api_Node)=nd ⟨ns[v].c,ns[v].ps,rows⟩:=rfl;have hpc:zaK ⟨g,(ns.set v ⟨ns[v].c,ns[v].ps,rows⟩).map nd⟩ (v:Int)=some (iL (zdf ns ns[v].ps)):=by
   rw[zwy (by simpa using hl) (by simpa using hv) (by simpa using hp) (by simpa using h8)];unfold zdf;rw[zhu (x:=⟨ns[v].c,ns[v].ps,rows⟩) hv rfl];simp
  rw[hx,zfG hv,qaa,hpc,qaa,zlT hs (by simpa [zdf]using h8) (by omega),qaa,hm];by_cases hr:r<m
  ·have hmul:r * (ns[v].c+1)≤1024 * 5:=qb1 (by omega) (by omega);obtain⟨zs,e1,e2,e3⟩:=ztd (ws:=W) (g:=g) (p:=r * (ns[v].c+1)) (c:=ns[v].c) hg (by omega) hc1 (by omega)
   obtain⟨rows',e4,e5⟩:=zm1 hg hl hv hp h8 hc1 hc4 hs hm hm2 (W:=W) n (r+1) (rows ++ [zs]) ⟨by simp[h1.len],by
    intro y hy;rcases qbc.1 hy with hy | hy
    ·exact h1.row y hy
    rw[qaZ.1 hy]; exact⟨e1,e2⟩⟩ hr (by omega)
   refine⟨rows',e4,?_⟩;have hcard:(nd ns[v]).card=((ns[v].c:Nat):Int):=rfl;have hlen:=h1.len;rw[zar,decide_eq_true hr,cond_true,hcard,zaq (by omega),← qbg,zaT (by omega),e3,qaa,zd2 (by simp; omega),qaa,zaq (by omega),← e5];simp
  have:r=m:=by omega
  subst this;exact⟨rows,h1,by rw[zar,decide_eq_false hr,cond_false]⟩
theorem ztH{g N:Nat}{W:List Nat}{ns:List NN}{v:Nat}(hg:g≤60)(hl:ns.length≤8)(hv:v<ns.length)(hp:Pl ns.length ns[v].ps)(h8:ns[v].ps.length≤8)(hc1:1≤ns[v].c)(hc4:ns[v].c≤4)
  (hs:∀ x∈zdf ns ns[v].ps,1≤x) (hm2:zaB (zdf ns ns[v].ps)≤1024) (hr:ns[v].rows=[]) (hN:1025≤N):
  ∃ rows,RowsOk g ns[v].c (zaB (zdf ns ns[v].ps)) rows∧zlL N (g:Int) (v:Int) (iL W) (ns.map nd)=some ((ns.set v ⟨ns[v].c,ns[v].ps,rows⟩).map nd):=by
 obtain⟨rows,e1,e2⟩:=zm1 hg hl hv hp h8 hc1 hc4 hs rfl hm2 (W:=W) N 0 [] ⟨rfl,by simp⟩ (qav _) (by omega);refine⟨rows,e1,?_⟩;unfold zlL;rw[show((0:Nat):Int)=0 from rfl,show([]:List (List Nat)).map iL=[]from rfl]at e2;rw[zek hv,qaa,show(nd ns[v]).rows.isEmpty=true by simp[nd,hr],cond_true,e2,qaa];exact zfG (x:=⟨ns[v].c,ns[v].ps,rows⟩) hv
structure NodeOk (num:List Nat) (g:Nat) (cs:List Nat) (j:Nat) (x:NN):Prop where
 par:ParOk num j cs.length x.ps
 rows:RowsOk g x.c (zaB (x.ps.map fun p=>cs.getD p 0)) x.rows
structure NetOk (num:List Nat) (g:Nat) (ns:List NN):Prop where
 g1:1≤g
 g2:g≤60
 n1:1≤ns.length
 n2:ns.length≤8
 card:∀ x∈ns,1≤x.c∧x.c≤4
 prod:zaB (ns.map (·.c))≤1024
 perm:PermOk ns.length num
 node:∀(j v:Nat) (x:NN),num[j]? = some v→ns[v]? = some x→NodeOk num g (ns.map (·.c)) j x
structure PieceN where
 card:Nat
 parents:Nat
 w:List Nat
structure DraftN where
 grain:Nat
 nodes:List PieceN
 order:List Nat
def zmO(x:PieceN):S_haruspexref05_Piece:=⟨x.card,x.parents,iL x.w⟩
def zch(d:DraftN):S_haruspexref05_Draft:=⟨d.grain,d.nodes.map zmO,iL d.order⟩
structure DraftOk (d:DraftN):Prop where
 grain:d.grain≤255
 card:∀ x∈d.nodes,x.card≤255
 order:∀ x∈d.order,x≤255
def zjQ(d:DraftN):Nat:=min (max d.nodes.length 1) 5
theorem zlm(d:DraftN):zco (zcO ((zch d).nodes.length:Int) 1) 5=((zjQ d:Nat):Int):=by
 simp only[zco,zcO,zjQ,zch,qaB];split<;>split<;>omega
def zk4(xs:List Nat):Nat:=xs.foldr (fun x a=>max 1 x * a) 1
theorem zkw:∀ {xs:List Nat} {i c:Nat},xs[i]? = some 0→1≤c→zk4 (xs.set i c)=zk4 xs * c
 | [],i,c,h,hc=>by simp at h
 | x :: xs,0,c,h,hc=>by
  have:x=0:=by simpa using h
  subst this;simp only[qcn,zk4,qcF];rw[Nat.max_eq_right hc,Nat.max_eq_left (qav _),qck,qcy]
 | x :: xs,i+1,c,h,hc=>by
  have ih:=zkw (xs:=xs) (i:=i) (c:=c) (by simpa using h) hc;simp only[qco,zk4,qcF]at ih ⊢;rw[ih,qca]
theorem zmE:∀ {xs:List Nat},(∀ x∈xs,1≤x)→zk4 xs=zaB xs
 | [],_=>rfl
 | x :: xs,h=>by
  have ih:=zmE (xs:=xs) fun y hy=>h y (qar _ hy)
  have hx:=h x qas;simp only[zk4,zaB,qcF]at ih ⊢;rw[ih,Nat.max_eq_right hx]
theorem zxN{a v:Nat}(h:a * 2 ^ v<9223372036854775808)(hv:v<64):zmV .i64 (a:Int) (v:Int)=some ((a * 2 ^ v:Nat):Int):=by
 unfold zmV;rw[if_pos (qbm v)];congr 1
 have h1:min (v:Int).toNat IntKind.i64.bits=v:=by
  rw[show IntKind.i64.bits=64 from rfl,qaO]; exact qbv (by omega)
 rw[h1];have h2:(a:Int)* ((2:Int) ^ v)=((a * 2 ^ v:Nat):Int):=by simp
 rw[h2];exact zaT h
structure L1Ok (num:List Nat) (c j a:Nat) (ns:List NN):Prop where
 len:ns.length=c
 bare:∀ x∈ns,x.ps=[]∧x.rows=[]
 prod:zk4 (ns.map (·.c))=a
 low:a * 2 ^ (c - j)≤100
 done:∀(k v:Nat),k<j→num[k]? = some v→∃ x,ns[v]? = some x∧2≤x.c∧x.c≤3
 left:∀(k v:Nat),j≤k→num[k]? = some v→∃ x,ns[v]? = some x∧x.c=0
theorem zlb{d:DraftN}(hd:DraftOk d){j:Nat}:∃(card parents:Nat) (w:List Nat),card≤255 ∧
  ((bif (decide ((j:Int)<((zch d).nodes.length:Int)))then(
(zaO (zch d).nodes (j:Int)).bind fun x9=>
some (x9.card,x9.parents,x9.w))
else(
some (0,0,[])):Option ((Int×Int×(List Int)))))=some ((card:Int),(parents:Int),iL w):=by
 have hl:(zch d).nodes.length=d.nodes.length:=by simp[zch]
 by_cases hj:j<d.nodes.length
 ·refine⟨d.nodes[j].card,d.nodes[j].parents,d.nodes[j].w,hd.card _ (qao hj),?_⟩;rw[hl,zar,decide_eq_true hj,cond_true,zaJ (by rw[hl]; exact hj),qaa];simp[zch,zmO]
 refine⟨0,0,[],by omega,?_⟩;rw[hl,zar,decide_eq_false hj,cond_false];rfl
theorem zsj{d:DraftN}(hd:DraftOk d){num:List Nat}{c:Nat}(hc:zjQ d=c)(hp:PermOk c num):∀(n j a:Nat) (ns:List NN),L1Ok num c j a ns→j≤c→c - j<n →
  ∃(ns':List NN) (a':Nat),L1Ok num c c a' ns'∧za5 (zch d) (iL num) n (a:Int) (j:Int) (ns.map nd)=some (ns'.map nd)
 | 0,_,_,_,_,_,h=>absurd h (qam _)
 | n+1,j,a,ns,h1,h2,h3=>by
  have hc5:c≤5:=by rw[← hc]; exact qch _ _
  unfold za5;rw[zlm,hc];by_cases hj:j<c
  ·rw[zar,decide_eq_true hj,cond_true];obtain⟨card,parents,w,hcard,e⟩:=zlb hd (j:=j);rw[e,qaa];simp only[];have hjn:j<num.length:=by rw[hp.len]; exact hj
   have hv:num[j]<ns.length:=by rw[h1.len]; exact hp.lt _ (qao hjn)
   obtain⟨x0,hx0,hx00⟩:=h1.left j num[j] (qak _) (qae hjn);have hx1:ns[num[j]]=x0:=by rw[qae hv]at hx0; exact qab hx0
   have hbare:=h1.bare _ (qao hv);have hpow:1≤2 ^ (c - 1 - j):=Nat.one_le_two_pow;have hsplit:2 ^ (c - j)=2 * 2 ^ (c - 1 - j):=by rw[show c - j=(c - 1 - j)+1 by omega,Nat.pow_succ,qcy]
   have hlow:=h1.low;have hle:a * 2 ^ (c - 1 - j)≤100:=qax (Nat.mul_le_mul_left a (by omega)) hlow;have ha:a≤100:=qax (qa6 a hpow) hle;have step:∀ b:Nat,2≤b→b≤3→a * b * 2 ^ (c - 1 - j)≤100→∃(ns':List NN) (a':Nat),L1Ok num c c a' ns' ∧
     ((zaO (iL num) (j:Int)).bind fun x14=>(zaO (ns.map nd) x14).bind fun x16=>(zgG (ns.map nd) x14 (S_api_Node.mk (b:Int) x16.parents x16.rows)).bind fun y18=>
      za5 (zch d) (iL num) n (w64 ((a:Int)* (b:Int))) (w64 ((j:Int)+1)) y18)=some (ns'.map nd):=by
    intro b hb1 hb2 hb3;have hab:a * b≤100:=qax (qa6 _ hpow) hb3
    obtain⟨ns',a',f1,f2⟩:=zsj hd hc hp n (j+1) (a * b) (ns.set num[j] ⟨b,ns[num[j]].ps,ns[num[j]].rows⟩) {
     len:=by simpa using h1.len
     bare:=fun y hy=>by
      rcases qbR hy with hy | hy
      ·exact h1.bare y hy
      subst hy; exact hbare
     prod:=by
      rw[qcl,zkw (c:=b) (by rw[qba,qae hv,hx1]; simp[hx00]) (by omega),h1.prod]
     low:=by rw[show c - (j+1)=c - 1 - j by omega]; exact hb3
     done:=fun k v hk hkv=>by
      by_cases hkj:k=j
      ·subst hkj;rw[qae hjn]at hkv;have:=qab hkv;subst this;exact⟨_,qau hv,hb1,hb2⟩
      obtain⟨x,g1,g2⟩:=h1.done k v (by omega) hkv;refine⟨x,?_,g2⟩;rw[qal,g1];intro hh;have hk':=(qac.1 hkv);have hkl:k<num.length:=hk'.1;exact qaY.1 hp.nod k j hkl hjn (by omega) (by rw[hk'.2]; exact hh.symm)
     left:=fun k v hk hkv=>by
      obtain⟨x,g1,g2⟩:=h1.left k v (by omega) hkv;refine⟨x,?_,g2⟩;rw[qal,g1];intro hh;have hk':=(qac.1 hkv);have hkl:k<num.length:=hk'.1
      exact qaY.1 hp.nod j k hjn hkl (by omega) (by rw[hk'.2]; exact hh) } hj (by omega)
    refine⟨ns',a',f1,?_⟩
    rw[zbS hjn,qaa,zek hv,qaa,show S_api_Node.mk (b:Int) (nd ns[num[j]]).parents (nd ns[num[j]]).rows=nd ⟨b,ns[num[j]].ps,ns[num[j]].rows⟩from rfl,
     zfG hv,qaa,← qbg,zaT (by omega),zaq (by omega),f2]
   have hw1:w64 (2+w64 ((card:Int).tmod 2))=((2+card % 2:Nat):Int):=by
    rw[show((card:Int).tmod 2)=((card % 2:Nat):Int)from rfl,zaT (by omega),show(2:Int)+((card % 2:Nat):Int)=((2+card % 2:Nat):Int) by omega,zaT (by omega)]
   have hac:a * (2+card % 2)≤100 * 3:=qb1 ha (by omega);have hbig:a * (2+card % 2)* 2 ^ (c - 1 - j)≤300 * 2 ^ 4:=qb1 hac (qbj (by decide) (by omega));have hcc:w64 (((c:Nat):Int) - 1)=((c - 1:Nat):Int):=by rw[show((c:Nat):Int) - 1=((c - 1:Nat):Int) by omega,zaT (by omega)]
   have hcj:w64 (((c - 1:Nat):Int) - (j:Int))=((c - 1 - j:Nat):Int):=by rw[show((c - 1:Nat):Int) - (j:Int)=((c - 1 - j:Nat):Int) by omega,zaT (by omega)]
   rw[hw1,hcc,hcj,zfi (by omega),← qbg,zaT (by omega),zxN (by omega) (by omega),qaa];by_cases hbg:100<a * (2+card % 2)* 2 ^ (c - 1 - j)
   ·obtain⟨ns',a',f1,f2⟩:=step 2 (by omega) (by omega) (by rw[qca,← hsplit]; exact hlow);refine⟨ns',a',f1,?_⟩;rw[show decide ((100:Int)<((a * (2+card % 2)* 2 ^ (c - 1 - j):Nat):Int))=true from decide_eq_true (by omega),cond_true,qaa];exact f2
   obtain⟨ns',a',f1,f2⟩:=step (2+card % 2) (by omega) (by omega) (by omega);refine⟨ns',a',f1,?_⟩;rw[show decide ((100:Int)<((a * (2+card % 2)* 2 ^ (c - 1 - j):Nat):Int))=false from decide_eq_false (by omega),cond_false,qaa];exact f2
  have:j=c:=by omega
  subst this;exact⟨ns,a,h1,by rw[zar,decide_eq_false hj,cond_false]⟩
structure L2Ok (num:List Nat) (g c:Nat) (cs:List Nat) (i:Nat) (ns:List NN):Prop where
 len:ns.length=c
 cards:ns.map (·.c)=cs
 done:∀(k v:Nat) (x:NN),k<i→num[k]? = some v→ns[v]? = some x→NodeOk num g cs k x
 left:∀(k v:Nat) (x:NN),i≤k→num[k]? = some v→ns[v]? = some x→x.ps=[]∧x.rows=[]
theorem zf3{m:Nat}(hm:1≤m):∀ {xs:List Nat},(∀ x∈xs,x≤m)→zaB xs≤m ^ xs.length
 | [],_=>qak 1
 | x :: xs,h=>by
  have ih:=zf3 hm (xs:=xs) fun y hy=>h y (qar _ hy)
  rw[qaL,Nat.pow_succ,qcy];exact qb1 (h x qas) ih
theorem zoX{xs:List Nat}(h:xs.Nodup){i j v w:Nat}(hi:xs[i]? = some v)(hj:xs[j]? = some w)(hne:i≠j):v≠w:=by
 obtain⟨h1,h2⟩:=qac.1 hi;obtain⟨h3,h4⟩:=qac.1 hj;intro he;rcases Nat.lt_or_gt_of_ne hne with hlt | hlt
 ·exact qaY.1 h i j h1 h3 hlt (by rw[h2,h4,he])
 exact qaY.1 h j i h3 h1 hlt (by rw[h2,h4,he])
theorem zsl{d:DraftN}(hd:DraftOk d){num:List Nat}{c N:Nat}{cs:List Nat}(hc:zjQ d=c)(hp:PermOk c num)(hs:∀ x∈cs,1≤x∧x≤3)(hN:1025≤N):∀(n i:Nat) (ns:List NN),L2Ok num (1+d.grain % 60) c cs i ns→i≤c→c - i<n →
  ∃ ns':List NN,L2Ok num (1+d.grain % 60) c cs c ns'∧zbm N (zch d) (iL num) n (i:Int) (ns.map nd)=some (ns'.map nd)
 | 0,_,_,_,_,h=>absurd h (qam _)
 | n+1,i,ns,h1,h2,h3=>by
  have hc5:c≤5:=by rw[← hc]; exact qch _ _
  unfold zbm;rw[zlm,hc];by_cases hi:i<c
  ·rw[zar,decide_eq_true hi,cond_true];obtain⟨card,parents,w,hcard,e⟩:=zlb hd (j:=i);rw[e,qaa];simp only[];have hin:i<num.length:=by rw[hp.len]; exact hi
   have hget:num[i]? = some num[i]:=qae hin;have hlen:=h1.len;have hcl:cs.length=c:=by rw[← h1.cards,qaB,h1.len]
   have hv:num[i]<ns.length:=by rw[h1.len]; exact hp.lt _ (qao hin)
   obtain⟨b1,b2⟩:=h1.left i num[i] ns[num[i]] (qak _) hget (qae hv);obtain⟨qs,e2,hq⟩:=ztU (num:=num) (ps8:=(parents:Int)) (i:=i) (ns:=ns) (v:=num[i]) (by omega) (by rw[hp.len]; omega) (by omega) hp.nod hv b1;rw[h1.len]at e2 hq;have hg:w64 (1+w64 ((zch d).grain.tmod 60))=((1+d.grain % 60:Nat):Int):=by
    rw[show((zch d).grain.tmod 60)=((d.grain % 60:Nat):Int)from rfl,zaT (by omega),show(1:Int)+((d.grain % 60:Nat):Int)=((1+d.grain % 60:Nat):Int) by omega,zaT (by omega)]
   have hset:(ns.set num[i] ⟨ns[num[i]].c,qs,ns[num[i]].rows⟩)[num[i]]'(by simpa using hv)=⟨ns[num[i]].c,qs,ns[num[i]].rows⟩:=by simp
   have hcs1:(ns.set num[i] ⟨ns[num[i]].c,qs,ns[num[i]].rows⟩).map (·.c)=cs:=by rw[zhu (x:=⟨ns[num[i]].c,qs,ns[num[i]].rows⟩) hv rfl,h1.cards]
   have hcv:1≤ns[num[i]].c∧ns[num[i]].c≤3:=hs _ (by rw[← h1.cards]; exact qay.2 ⟨_,qao hv,rfl⟩);have hco:zdf (ns.set num[i] ⟨ns[num[i]].c,qs,ns[num[i]].rows⟩) qs=qs.map fun p=>cs.getD p 0:=by unfold zdf; rw[hcs1]
   have hqs:∀ x∈(qs.map fun p=>cs.getD p 0),1≤x∧x≤3:=by
    intro x hx;obtain⟨p,hpq,rfl⟩:=qay.1 hx;have hpl:p<cs.length:=by rw[hcl]; exact hq.lt p hpq
    refine hs _ ?_;simp[hpl]
   have hprod:zaB (qs.map fun p=>cs.getD p 0)≤3 ^ 3:=by
    refine qax (zf3 (m:=3) (by omega) fun x hx=>(hqs x hx).2) ?_;rw[qaB];exact qbj (by decide) hq.len
   obtain⟨rows,r1,r2⟩:=ztH (g:=1+d.grain % 60) (N:=N) (W:=w) (ns:=ns.set num[i] ⟨ns[num[i]].c,qs,ns[num[i]].rows⟩) (v:=num[i]) (by omega) (by simp; omega) (by simpa using hv)
    (by rw[hset]; intro p hpq; rw[qan,h1.len]; exact hq.lt p hpq) (by rw[hset]; have:=hq.len; simp; omega) (by rw[hset]; exact hcv.1) (by rw[hset]; have:=hcv.2; simp; omega)
    (by rw[hset,hco]; exact fun x hx=>(hqs x hx).1) (by rw[hset,hco]; exact qax hprod (by decide)) (by rw[hset]; exact b2) hN
   simp only[hset,hco,qbt]at r1 r2
   obtain⟨ns',f1,f2⟩:=zsl hd hc hp hs hN n (i+1) (ns.set num[i] ⟨ns[num[i]].c,qs,rows⟩) {
    len:=by simpa using h1.len
    cards:=by rw[zhu (x:=⟨ns[num[i]].c,qs,rows⟩) hv rfl,h1.cards]
    done:=fun k v x hk hkv hx=>by
     by_cases hki:k=i
     ·subst hki;rw[hget]at hkv;have:=qab hkv;subst this;rw[qau hv]at hx;have:=qab hx;subst this;exact⟨by rw[hcl]; exact hq,r1⟩
     rw[qal (zoX hp.nod hget hkv (by omega))]at hx;exact h1.done k v x (by omega) hkv hx
    left:=fun k v x hk hkv hx=>by
     rw[qal (zoX hp.nod hget hkv (by omega))]at hx
     exact h1.left k v x (by omega) hkv hx } hi (by omega)
   refine⟨ns',f1,?_⟩;rw[zbS hin,qaa,e2,qaa,hg,r2,qaa,zaq (by omega),f2]
  have:i=c:=by omega
  subst this;exact⟨ns,h1,by rw[zar,decide_eq_false hi,cond_false]⟩
theorem zrN{d:DraftN}(hd:DraftOk d){N:Nat}(hN:1025≤N):
  ∃(num:List Nat) (ns:List NN),NetOk num (1+d.grain % 60) ns∧ns.length≤5∧zbz N (zch d)=some ⟨((1+d.grain % 60:Nat):Int),ns.map nd⟩:=by
 have hc5:zjQ d≤5:=qch _ _;have hc1:1≤zjQ d:=by unfold zjQ; omega
 obtain⟨num,hp,e1⟩:=ztb (c:=zjQ d) (N:=N) (os:=d.order) (wh:=0) hc5 (by omega) hd.order;have hpl:=hp.len;have h0:∀ v,v<zjQ d→(List.replicate (zjQ d) (⟨0,[],[]⟩:NN))[v]? = some ⟨0,[],[]⟩:=fun v hv=>by simp[hv]
 obtain⟨ns1,a,h1,e2⟩:=zsj hd rfl hp (zjQ d+2) 0 1 (List.replicate (zjQ d) ⟨0,[],[]⟩) {
  len:=by simp
  bare:=fun x hx=>by rw[(List.mem_replicate.1 hx).2]; exact⟨rfl,rfl⟩
  prod:=by
   rw[qb3];generalize zjQ d=c;induction c with
   | zero=>rfl
   | succ c ih=>rw[qa3]; simp only[zk4,qcF]at ih ⊢; rw[ih]; rfl
  low:=by
   have:2 ^ (zjQ d - 0)≤2 ^ 5:=qbj (by decide) (by omega);omega
  done:=fun k v hk hkv=>absurd hk (qam _)
  left:=fun k v hk hkv=>⟨_,h0 v (hp.lt v (qaE hkv)),rfl⟩ } (qav _) (by omega)
 have hcards:∀ x∈ns1,2≤x.c∧x.c≤3:=by
  intro x hx;obtain⟨v,hv⟩:=qbx hx;have hvl:v<zjQ d:=by rw[← h1.len]; exact(qac.1 hv).1
  obtain⟨k,hk⟩:=qbx (hp.all v hvl);obtain⟨y,g1,g2⟩:=h1.done k v (by rw[← hpl]; exact(qac.1 hk).1) hk;rw[hv]at g1;have:=qab g1;subst this;exact g2
 have hcs:∀ x∈ns1.map (·.c),1≤x∧x≤3:=by
  intro x hx;obtain⟨y,hy,rfl⟩:=qay.1 hx;have:=hcards y hy;exact⟨by omega,this.2⟩
 obtain⟨ns2,h2,e3⟩:=zsl hd rfl hp hcs hN (zjQ d+2) 0 ns1 ⟨h1.len,rfl,fun k v x hk=>absurd hk (qam _),fun k v x hk hkv hx=>h1.bare x (qaE hx)⟩ (qav _) (by omega);have hl2:=h2.len;have hlow:=h1.low;refine⟨num,ns2,⟨by omega,by omega,by omega,by omega,?_,?_,by rw[h2.len]; exact hp,?_⟩,by omega,?_⟩
 ·intro x hx;have:=hcs x.c (by rw[← h2.cards]; exact qay.2 ⟨x,hx,rfl⟩);omega
 ·rw[h2.cards,← zmE fun x hx=>(hcs x hx).1,h1.prod];rw[qbP,Nat.pow_zero]at hlow;omega
 ·intro j v x hj hx;rw[h2.cards];exact h2.done j v x (by rw[← hpl]; exact(qac.1 hj).1) hj hx
 have hg:w64 (1+w64 ((zch d).grain.tmod 60))=((1+d.grain % 60:Nat):Int):=by
  rw[show((zch d).grain.tmod 60)=((d.grain % 60:Nat):Int)from rfl,zaT (by omega),show(1:Int)+((d.grain % 60:Nat):Int)=((1+d.grain % 60:Nat):Int) by omega,zaT (by omega)]
 have hz:List.replicate (zjQ d) (S_api_Node.mk 0 [] [])=(List.replicate (zjQ d) (⟨0,[],[]⟩:NN)).map nd:=by rw[qb3]; rfl
 have e2':=e2;have e3':=e3;rw[show((0:Nat):Int)=0 from rfl]at e2' e3';rw[show((1:Nat):Int)=1 from rfl]at e2';unfold zbz;rw[zlm,zhv (by omega),qaa,zhv (by omega),qaa,show(zch d).order=iL d.order from rfl,e1,qaa,zaF,hz,e2',qaa,e3',qaa,hg]
def za9(xs:List Nat):Nat:=xs.foldl (fun m p=>m ||| 2 ^ p) 0
theorem znc(xs:List Nat)(p:Nat):za9 (xs ++ [p])=za9 xs ||| 2 ^ p:=by simp[za9]
theorem zkX:∀(xs:List Nat) (m i:Nat),(xs.foldl (fun m p=>m ||| 2 ^ p) m).testBit i=(m.testBit i || decide (i∈xs))
 | [],m,i=>by simp
 | x :: xs,m,i=>by
  rw[qbT,zkX xs,qcu,Nat.testBit_two_pow,Bool.or_assoc];congr 1
  by_cases h:x=i
  ·simp[h]
  simp[h,show ¬ i=x from fun q=>h q.symm]
theorem zcG(xs:List Nat)(i:Nat):(za9 xs).testBit i=decide (i∈xs):=by
 unfold za9; rw[zkX]; simp
theorem zmY:∀(xs:List Nat) (m:Nat),m<18446744073709551616→(∀ x∈xs,x<64)→xs.foldl (fun m p=>m ||| 2 ^ p) m<18446744073709551616
 | [],m,h,_=>h
 | x :: xs,m,h,hx=>zmY xs _ (qbW (n:=64) h (qbG (by decide) (hx x qas))) fun y hy=>hx y (qar _ hy)
theorem ze2{xs:List Nat}(h:∀ x∈xs,x<64):za9 xs<18446744073709551616:=zmY xs 0 (by decide) h
def Sub(a b:Nat):Prop:=∀ i,a.testBit i=true→b.testBit i=true
theorem zp1{a b:Nat}(ha:a<18446744073709551616)(hb:b<18446744073709551616):diff a b=0↔Sub a b:=by
 constructor
 ·intro h i hi;have:=zmI (i:=i) ha hb;rw[h,hi]at this;simpa using this
 intro h;apply qcB;intro i;rw[zmI ha hb,Nat.zero_testBit];cases hi:a.testBit i with
 | false=>rfl
 | true=>rw[h i hi]; rfl
theorem zhP{cs ps:List Nat}{nodes:S_api_Net}{sets order:List Int}{x:S_api_Node}(hx:x.parents=iL ps)(hp:Pl cs.length ps)(hl:ps.length≤8)(hc:∀ p∈ps,1≤cs.getD p 0):∀(n i a:Nat),i≤ps.length →
  a * zaB ((ps.drop i).map fun p=>cs.getD p 0)≤65536→ps.length - i<n →
  zaR x ⟨nodes,iL cs,sets,order⟩ n (a:Int) (i:Int)=some ((a * zaB ((ps.drop i).map fun p=>cs.getD p 0):Nat):Int)
 | 0,_,_,_,_,h=>absurd h (qam _)
 | n+1,i,a,h1,h2,h3=>by
  unfold zaR;rw[hx,zaw];by_cases hi:i<ps.length
  ·have e2:a * zaB ((ps.drop i).map fun p=>cs.getD p 0)=a * cs.getD ps[i] 0 * zaB ((ps.drop (i+1)).map fun p=>cs.getD p 0):=by
    rw[qaq hi]; exact(qca _ _ _).symm
   rw[e2]at h2;have hb:ps[i]<cs.length:=hp _ (qao hi);have hq:1≤zaB ((ps.drop (i+1)).map fun p=>cs.getD p 0):=zhQ fun x hx=>by
    obtain⟨p,hp1,rfl⟩:=qay.1 hx;exact hc p (qcd hp1)
   have hle:a * cs.getD ps[i] 0≤65536:=qax (qa6 _ hq) h2;have he:cs[ps[i]]=cs.getD ps[i] 0:=by simp[hb]
   rw[zar,decide_eq_true hi,cond_true,zbS hi,qaa,zbS hb,qaa,he,← qbg,zaT (by omega),zaq (by omega),
    zhP hx hp hl hc n (i+1) _ hi h2 (by omega),e2]
  rw[zar,decide_eq_false hi,cond_false,qaF (by omega)];simp[zaB]
theorem zjY{y:Int×List Int}{zs:List Nat}(hy:y.2=iL zs)(hl:zs.length≤8):∀(n i r:Nat),i≤zs.length→(zs.drop i).sum≤r→r≤65536→zs.length - i<n →
  zav y n (r:Int) (i:Int)=some (.go ((r - (zs.drop i).sum:Nat):Int))
 | 0,_,_,_,_,_,h=>absurd h (qam _)
 | n+1,i,r,h1,h2,hr,h3=>by
  unfold zav;rw[hy,zaw];by_cases hi:i<zs.length
  ·have e:(zs.drop i).sum=zs[i]+(zs.drop (i+1)).sum:=by rw[qaq hi,qbA]
   rw[e]at h2
   rw[zar,decide_eq_true hi,cond_true,zbS hi,qaa,show decide (((zs[i]:Nat):Int)<0)=false from decide_eq_false (by omega),cond_false,qaa,
    show decide ((r:Int)<((zs[i]:Nat):Int))=false from decide_eq_false (by omega),cond_false,show((r:Int) - ((zs[i]:Nat):Int))=((r - zs[i]:Nat):Int) by omega,zaT (by omega),zaq (by omega),
    zjY hy hl n (i+1) _ hi (by omega) (by omega) (by omega),e,Nat.sub_sub]
  rw[zar,decide_eq_false hi,cond_false,qaF (by omega)];simp
theorem zkZ{g c:Nat}{nw:S_net_network}{x:S_api_Node}(hg:nw.net.grain=(g:Int))(hg2:g≤60)(hc:x.card=(c:Int))(hc8:c≤8):∀(L:List (Int×List Int)),(∀ y∈L,∃ zs:List Nat,y.2=iL zs∧zs.length=c∧zs.sum=g)→
  zau nw x L=some (.go ())
 | [],_=>rfl
 | y :: L,h=>by
  obtain⟨zs,h1,h2,h3⟩:=h y qas;unfold zau;have e:=zjY h1 (by omega) (zs.length+2) 0 g (qav _) (by rw[qa7]; omega) (by omega) (by omega);rw[qa7,h3,qbP,show((0:Nat):Int)=0 from rfl]at e;rw[hg,h1,zaw,zaF,e,qaa];simp only[];rw[hc,h2,show((c:Int)==(c:Int))=true by simp,cond_true,qaa,show(!((0:Int)== 0))=false from rfl,cond_false];exact zkZ hg hg2 hc hc8 L fun y hy=>h y (qar _ hy)
theorem zoF{g:Nat}{cs:List Nat}{nodes:List S_api_Node}{sets order:List Int}{x:NN}(hg2:g≤60)(hp:Pl cs.length x.ps)(hl:x.ps.length≤8)(hc:∀ p∈x.ps,1≤cs.getD p 0)(hc8:x.c≤8)
  (hm:zaB (x.ps.map fun p=>cs.getD p 0)≤65536) (hr:RowsOk g x.c (zaB (x.ps.map fun p=>cs.getD p 0)) x.rows):zaI ⟨⟨(g:Int),nodes⟩,iL cs,sets,order⟩ (nd x)=some true:=by
 unfold zaI;have e:=zhP (x:=nd x) (nodes:=⟨(g:Int),nodes⟩) (sets:=sets) (order:=order) rfl hp hl hc (x.ps.length+2) 0 1 (qav _) (by simpa using hm) (by omega);rw[show((0:Nat):Int)=0 from rfl,show((1:Nat):Int)=1 from rfl,qa7,qck]at e;have hrl:(nd x).rows.length=x.rows.length:=by simp[nd]
 rw[show(nd x).parents=iL x.ps from rfl,zaw,zaF,e,qaa,hrl,hr.len,show(((zaB (x.ps.map fun p=>cs.getD p 0):Nat):Int)==((zaB (x.ps.map fun p=>cs.getD p 0):Nat):Int))=true by simp,cond_true];unfold zfb;rw[qaa];have hs:zgC (nd x).rows=some ():=by
  unfold zgC;rw[if_pos (by rw[hrl,hr.len]; omega)]
 rw[hs,qaa,zkZ (g:=g) (c:=x.c) rfl hg2 rfl hc8,qaa];intro y hy;unfold zpY at hy;obtain⟨q,hq,rfl⟩:=qay.1 hy;have hq1:q.1∈(nd x).rows:=by
  have:=List.mem_zipIdx' hq;rw[this.2]; exact qao _
 obtain⟨zs,hz,hz2⟩:=qay.1 hq1;exact⟨zs,hz2.symm,hr.row zs hz⟩
def zdI(g:Nat)(ns:List NN):S_api_Net:=⟨(g:Int),ns.map nd⟩
theorem zpD{g P:Nat}{ns:List NN}(hn:ns.length≤8)(hc:∀ x∈ns,1≤x.c∧x.c≤4)(hP:P≤65536):∀(n:Nat) (xs ys:List NN) (a:Nat),xs ++ ys=ns→a * zaB (ys.map (·.c))=P→ys.length<n →
  zbg (zdI g ns) n (a:Int) (xs.length:Int) (iL (xs.map (·.c)++ List.replicate ys.length 0))=some (.go ((P:Int),iL (ns.map (·.c))))
 | 0,_,_,_,_,_,h=>absurd h (qam _)
 | n+1,xs,[],a,h1,h2,h3=>by
  unfold zbg;rw[qaP]at h1;subst h1;have:a=P:=by rw[← h2]; simp[zaB]
  subst this;rw[show(zdI g xs).nodes.length=xs.length by simp[zdI],zar,decide_eq_false (by omega),cond_false];simp
 | n+1,xs,y :: ys,a,h1,h2,h3=>by
  unfold zbg;have hl:(zdI g ns).nodes.length=ns.length:=by simp[zdI]
  have hxn:xs.length<ns.length:=by rw[← h1]; simp
  have hy:ns[xs.length]=y:=by subst h1; simp
  have hyc:=hc y (by rw[← h1]; simp);have e2:a * y.c * zaB (ys.map (·.c))=P:=by rw[← h2]; exact qca _ _ _
  have hq:1≤zaB (ys.map (·.c)):=zhQ fun c hcm=>by
   obtain⟨z,hz,rfl⟩:=qay.1 hcm;exact(hc z (by rw[← h1]; simp[hz])).1
  have hle:a * y.c≤P:=by rw[← e2]; exact qa6 _ hq
  have ih:=zpD hn hc hP (g:=g) n (xs ++ [y]) ys (a * y.c) (by rw[← h1]; simp) e2 (by simp at h3; omega)
  rw[hl,zar,decide_eq_true hxn,cond_true,show zaO (zdI g ns).nodes (xs.length:Int)=some (nd y) by rw[← hy]; exact zek hxn,qaa,
   show(nd y).card=(y.c:Int)from rfl,show decide ((y.c:Int)<1)=false from decide_eq_false (by omega),cond_false,qaa,show decide ((4:Int)<(y.c:Int))=false from decide_eq_false (by omega),cond_false]
  have hxl:((xs.length:Nat):Int)=(((xs.map (·.c)).length:Nat):Int):=by simp
  rw[qaL,qa3,hxl,zcW,qaa,zff,qaa,← qbg,zaT (by omega),zaq (by simp; omega),← ih];simp
theorem zoE{g v:Nat}{ns:List NN}{x:S_api_Node}{ps xs ys:List Nat}(hx:x.parents=iL ps)(hn:ns.length≤8)(hv:xs.length=v)(hp:∀ p∈ps,p<ns.length∧p≠v)(hinc:ps.Pairwise (· < ·)):∀(n i:Nat) (m:Nat) (lo:Int),i≤ps.length→m<18446744073709551616 →
  (∀ p∈ps.drop i,lo<(p:Int))→ps.length - i<n →
  zbF x (zdI g ns) (v:Int) n lo (i:Int) (iL (xs ++ m :: ys))=some (.go (iL (xs ++ ((ps.drop i).foldl (fun m p=>m ||| 2 ^ p) m):: ys)))
 | 0,_,_,_,_,_,_,h=>absurd h (qam _)
 | n+1,i,m,lo,h1,h2,h4,h3=>by
  have hps:ps.length≤9223372036854775806∨True:=.inr trivial;unfold zbF;have hl:(zdI g ns).nodes.length=ns.length:=by simp[zdI]
  rw[hx,zaw,hl];by_cases hi:i<ps.length
  ·have hd:ps.drop i=ps[i]:: ps.drop (i+1):=qaq hi;obtain⟨hp1,hp2⟩:=hp _ (qao hi);have hlo:=h4 ps[i] (by rw[hd]; exact qas);have hsm:i≤ps[i]:=by
    have:∀(j:Nat) (hj:j<ps.length),j≤ps[j]:=by
     intro j;induction j with
     | zero=>intro hj; exact qav _
     | succ j ih=>
      intro hj;have h6:=ih (by omega);have h7:=qaY.1 hinc j (j+1) (by omega) hj (by omega);omega
    exact this i hi
   have hgt:∀ p∈ps.drop (i+1),((ps[i]:Nat):Int)<(p:Int):=by
    intro p hp;obtain⟨k,hk,rfl⟩:=qbH.1 hp;rw[List.getElem_drop];have:=qaY.1 hinc i (i+1+k) hi (by simp at hk; omega) (by omega);omega
   have hpw:2 ^ ps[i]<18446744073709551616:=qbG (n:=64) (by decide) (by omega);have hm:m ||| 2 ^ ps[i]<18446744073709551616:=qbW (n:=64) h2 hpw;have ih:=zoE (g:=g) (ys:=ys) hx hn hv hp hinc n (i+1) (m ||| 2 ^ ps[i]) (ps[i]:Int) hi hm hgt (by omega)
   rw[zar,decide_eq_true hi,cond_true,zbS hi,qaa,show decide (((ps[i]:Nat):Int)≤lo)=false from decide_eq_false (by omega),cond_false,
    show decide (((ns.length:Nat):Int)≤((ps[i]:Nat):Int))=false from decide_eq_false (by omega),cond_false,qaa,show(((ps[i]:Nat):Int)==(v:Int))=false by simp; omega,cond_false,
    ← hv,zcW,qaa,zvZ (by omega),qaa,orU h2 hpw,zff,qaa,zaq (by omega),hv,ih,hd,qbT]
  rw[zar,decide_eq_false hi,cond_false,qaF (by omega)];rfl
structure RightN (g:Nat) (ns:List NN):Prop where
 g1:1≤g
 g2:g≤60
 n1:1≤ns.length
 n2:ns.length≤8
 card:∀ x∈ns,1≤x.c∧x.c≤4
 prod:zaB (ns.map (·.c))≤1024
 inc:∀ x∈ns,x.ps.Pairwise (· < ·)
 lt:∀ x∈ns,∀ p∈x.ps,p<ns.length
 rows:∀ x∈ns,RowsOk g x.c (zaB (x.ps.map fun p=>(ns.map (·.c)).getD p 0)) x.rows
 rk:∃ rk:Nat→Nat,(∀ v,rk v≤8)∧∀ v x,ns[v]? = some x→∀ p∈x.ps,rk p<rk v
theorem ziY{n:Nat}{ps:List Nat}(h:ps.Pairwise (· < ·))(hp:∀ p∈ps,p<n):ps.length≤n:=by
 have:∀(j:Nat) (hj:j<ps.length),j≤ps[j]:=by
  intro j;induction j with
  | zero=>intro hj; exact qav _
  | succ j ih=>
   intro hj;have h6:=ih (by omega);have h7:=qaY.1 h j (j+1) (by omega) hj (by omega);omega
 cases hl:ps.length with
 | zero=>exact qav _
 | succ m=>
  have h1:=this m (by omega);have h2:=hp _ (qao (show m<ps.length by omega));omega
theorem RightN.zwU{g:Nat}{ns:List NN}(h:RightN g ns){x:NN}(hx:x∈ns):x.ps.length≤8:=by
 have:=ziY (h.inc x hx) (h.lt x hx);have:=h.n2;omega
theorem RightN.ne{g:Nat}{ns:List NN}(h:RightN g ns){v:Nat}{x:NN}(hx:ns[v]? = some x):∀ p∈x.ps,p≠v:=by
 obtain⟨rk,_,h2⟩:=h.rk;intro p hp he;subst he;exact Nat.lt_irrefl _ (h2 p x hx p hp)
theorem RightN.zuq{g:Nat}{ns:List NN}(h:RightN g ns){x:NN}(hx:x∈ns):∀ p∈x.ps,1≤(ns.map (·.c)).getD p 0∧(ns.map (·.c)).getD p 0≤4:=by
 intro p hp;have hp1:=h.lt x hx p hp;have:=h.card ns[p] (qao hp1);simpa [hp1]using this
theorem RightN.zv5{g:Nat}{ns:List NN}(h:RightN g ns){x:NN}(hx:x∈ns):zaB (x.ps.map fun p=>(ns.map (·.c)).getD p 0)≤65536:=by
 refine qax (zf3 (m:=4) (by omega) fun y hy=>?_) ?_
 ·obtain⟨p,hp,rfl⟩:=qay.1 hy;exact(h.zuq hx p hp).2
 rw[qaB];exact qax (qbj (by decide) (h.zwU hx)) (by decide)
theorem zoB{g:Nat}{ns:List NN}(h:RightN g ns):∀(n:Nat) (xs ys:List NN),xs ++ ys=ns→ys.length<n →
  zbf (zdI g ns) (iL (ns.map (·.c))) n (xs.length:Int) (iL (xs.map (fun x=>za9 x.ps)++ List.replicate ys.length 0))=some (.go (iL (ns.map fun x=>za9 x.ps)))
 | 0,_,_,_,h=>absurd h (qam _)
 | n+1,xs,[],h1,h3=>by
  unfold zbf;rw[qaP]at h1;subst h1;rw[show(zdI g xs).nodes.length=xs.length by simp[zdI],zar,decide_eq_false (by omega),cond_false];simp
 | n+1,xs,y :: ys,h1,h3=>by
  unfold zbf;have hl:(zdI g ns).nodes.length=ns.length:=by simp[zdI]
  have hxn:xs.length<ns.length:=by rw[← h1]; simp
  have hn:=h.n2;have hy:ns[xs.length]=y:=by subst h1; simp
  have hyg:ns[xs.length]? = some y:=by rw[qae hxn,hy]
  have hym:y∈ns:=qaE hyg;have hcl:(ns.map (·.c)).length=ns.length:=by simp
  have hlt:∀ p∈y.ps,p<ns.length∧p≠xs.length:=fun p hp=>⟨h.lt y hym p hp,h.ne hyg p hp⟩
  have hcs:=h.zuq hym;have hpl:=h.zwU hym;have hprod:=h.zv5 hym;have hyc:=h.card y (by rw[← h1]; simp);have ih:=zoB h n (xs ++ [y]) ys (by rw[← h1]; simp) (by simp at h3; omega);have e3:=zoE (g:=g) (ns:=ns) (x:=nd y) (xs:=xs.map fun x=>za9 x.ps) (ys:=List.replicate ys.length 0) (v:=xs.length) rfl hn (by simp) hlt (h.inc y hym) (y.ps.length+2) 0 0 (-1) (qav _) (by decide) (fun p hp=>by omega) (by omega);rw[show((0:Nat):Int)=0 from rfl,qa7]at e3;have e4:=zoF (g:=g) (cs:=ns.map (·.c)) (nodes:=ns.map nd) (sets:=iL (xs.map (fun x=>za9 x.ps)++ za9 y.ps :: List.replicate ys.length 0)) (order:=[]) (x:=y) h.g2 (by rw[hcl]; exact fun p hp=>(hlt p hp).1) (by omega) (fun p hp=>(hcs p hp).1) (by omega) hprod (h.rows y hym)
  rw[hl,zar,decide_eq_true hxn,cond_true,show zaO (zdI g ns).nodes (xs.length:Int)=some (nd y) by rw[← hy]; exact zek hxn,qaa,qaL,qa3,
   show(nd y).parents.length=y.ps.length by simp[nd,zaw],zaF,e3,qaa]
  simp only[];rw[show(y.ps.foldl (fun m p=>m ||| 2 ^ p) 0)=za9 y.ps from rfl];rw[show zdI g ns=⟨(g:Int),ns.map nd⟩from rfl]at ih ⊢;rw[e4,qaa,cond_true,zaq (by omega),← ih];simp
def zgk(ms:List Nat)(mask v:Nat):Prop:=mask.testBit v=false∧Sub (ms.getD v 0) mask
structure First (ms:List Nat) (mask v:Nat):Prop where
 lt:v<ms.length
 ready:zgk ms mask v
 least:∀ u,u<v→¬ zgk ms mask u
def zcN(ms os:List Nat):Prop:=∀ k v,os[k]? = some v→First ms (za9 (os.take k)) v
theorem zcN.app{ms os:List Nat}{v:Nat}(h:zcN ms os)(hv:First ms (za9 os) v):zcN ms (os ++ [v]):=by
 intro k u hk;by_cases hl:k<os.length
 ·rw[qaj hl]at hk;rw[qbZ (by omega)];exact h k u hk
 have hk2:k=os.length:=by
  have:=(qac.1 hk).1;simp at this;omega
 subst hk2;have hu:u=v:=by simpa using hk.symm
 subst hu;simpa using hv
theorem zcN.nod{ms os:List Nat}(h:zcN ms os):os.Nodup:=by
 rw[List.Nodup,qaY];intro i j hi hj hij he;have h1:=(h j os[j] (qae hj)).ready.1;rw[zcG]at h1;have:os[j]∈os.take j:=by
  rw[← he];exact List.mem_take_iff_getElem.2 ⟨i,by omega,rfl⟩
 simp[this]at h1
theorem zcN.lt{ms os:List Nat}(h:zcN ms os):∀ x∈os,x<ms.length:=by
 intro x hx;obtain⟨k,hk⟩:=qbx hx;exact(h k x hk).lt
theorem zk8:∀ {xs ys:List Nat},xs.Nodup→(∀ x∈xs,x∈ys)→xs.length≤ys.length
 | [],_,_,_=>qav _
 | x :: xs,ys,h,hs=>by
  obtain⟨h1,h2⟩:=qb7.1 h;have hx:=hs x qas;have ih:=zk8 (xs:=xs) (ys:=ys.erase x) h2 fun y hy=>(List.mem_erase_of_ne (fun q:y=x=>h1 (by rw[← q]; exact hy))).2 (hs y (qar _ hy))
  rw[List.length_erase_of_mem hx]at ih;have:=List.length_pos_of_mem hx;simp only[qaL];omega
theorem zmM{ms:List Nat}{mask:Nat}:∀ v,v<ms.length→zgk ms mask v→∃ u,First ms mask u:=by
 intro v;induction v using Nat.strongRecOn with
 | ind v ih=>
  intro hv hr;by_cases h:∃ u,u<v∧zgk ms mask u
  ·obtain⟨u,hu,hur⟩:=h;exact ih u hu (by omega) hur
  exact⟨v,hv,hr,fun u hu hur=>h ⟨u,hu,hur⟩⟩
def zax(ns:List NN):List Nat:=ns.map fun x=>za9 x.ps
theorem RightN.ze2{g:Nat}{ns:List NN}(h:RightN g ns):∀ m∈zax ns,m<18446744073709551616:=by
 intro m hm;obtain⟨x,hx,rfl⟩:=qay.1 hm;refine Go.Dc.ze2 fun p hp=>?_
 have:=h.lt x hx p hp;have:=h.n2;omega
theorem RightN.ready{g:Nat}{ns:List NN}(h:RightN g ns)(os:List Nat){rk:Nat→Nat}(hrk:∀ v x,ns[v]? = some x→∀ p∈x.ps,rk p<rk v):∀(j v:Nat),rk v=j→v<ns.length→v ∉ os→∃ u,u<ns.length∧zgk (zax ns) (za9 os) u:=by
 intro j;induction j using Nat.strongRecOn with
 | ind j ih=>
  intro v hj hvl hv;by_cases hp:∃ p,p∈ns[v].ps∧p ∉ os
  ·obtain⟨p,hp1,hp2⟩:=hp;have:=hrk v _ (qae hvl) p hp1;exact ih (rk p) (by omega) p rfl (h.lt _ (qao hvl) p hp1) hp2
  refine⟨v,hvl,by rw[zcG]; simp[hv],fun i hi=>?_⟩;rw[show(zax ns).getD v 0=za9 ns[v].ps by simp[zax,hvl],zcG]at hi;rw[zcG];have hi2:=of_decide_eq_true hi;refine decide_eq_true ?_;exact qaR fun hno=>hp ⟨i,hi2,hno⟩
theorem RightN.next{g:Nat}{ns:List NN}(h:RightN g ns){os:List Nat}(hl:os.length<ns.length):∃ v,First (zax ns) (za9 os) v:=by
 obtain⟨rk,_,hrk⟩:=h.rk;by_cases hs:∀ x∈List.range ns.length,x∈os
 ·have:=zk8 List.nodup_range hs;rw[qcb]at this;omega
 have:∃ x,x∈List.range ns.length∧x ∉ os:=qaR fun hno=>hs fun x hx=>qaR fun hx2=>hno ⟨x,hx,hx2⟩
 obtain⟨x,hx,hxo⟩:=this;obtain⟨u,hu,hr⟩:=h.ready os hrk _ x rfl (qbp.1 hx) hxo;exact zmM u (by simpa [zax]using hu) hr
theorem zkD{ms:List Nat}{mask i:Nat}{β:Type}(hm:∀ m∈ms,m<18446744073709551616)(hk:mask<18446744073709551616)(hi:i<ms.length)(h64:i<64)(l:β):
  ∃ b:Bool,(b=true↔zgk ms mask i)∧((zkr .u64 (mask:Int) (i:Int)).bind fun q7=>bif ((znD .u64 q7 1)== 0)then some (((ztW .u64 ((ms[i]:Nat):Int) (mask:Int))== 0),l)else some (false,l))=some (b,l)∧
   ((zkr .u64 (mask:Int) (i:Int)).bind fun q7=>bif ((znD .u64 q7 1)== 0)then some ((ztW .u64 ((ms[i]:Nat):Int) (mask:Int))== 0)else some false)=some b:=by
 obtain⟨q,h1,h2⟩:=zw7 (a:=mask) (v:=i) hk h64;have hmi:=hm _ (qao hi);have hg:ms.getD i 0=ms[i]:=by simp[hi]
 simp only[h1,qaa,h2,zxc];cases hb:mask.testBit i with
 | true=>exact⟨false,by simp[zgk,hb],rfl,rfl⟩
 | false=>
  refine⟨(((diff ms[i] mask:Nat):Int)== 0),?_,rfl,rfl⟩;rw[zgk,hb,hg,← zp1 hmi hk];simp
theorem zhE{ms os:List Nat}{mask C v:Nat}(hn:ms.length≤8)(hm:∀ m∈ms,m<18446744073709551616)(hk:mask<18446744073709551616)(hC:os.length+1≤C)(hv:First ms mask v):∀(n i:Nat),i≤v→v - i<n →
  za1 (iL ms) (mask:Int) C n (i:Int) (iL os)=some (.brk (((mask ||| 2 ^ v:Nat):Int),iL (os ++ [v])))
 | 0,_,_,h=>absurd h (qam _)
 | n+1,i,h1,h3=>by
  unfold za1;have hvl:=hv.lt;have hi:i<ms.length:=by omega
  obtain⟨b,hb,e,_⟩:=zkD hm hk hi (by omega) (iL os);rw[zaw,zar,decide_eq_true hi,cond_true,zbS hi,qaa,e,qaa];simp only[];by_cases hiv:i=v
  ·subst hiv;have hpw:2 ^ i<18446744073709551616:=qbG (n:=64) (by decide) (by omega);rw[hb.2 hv.ready,cond_true];unfold zlY;rw[if_pos (by simp[zaw]; omega),qaa,zvZ (by omega),qaa,orU hk hpw];simp[iL]
  have:b=false:=by
   cases b with
   | false=>rfl
   | true=>exact absurd (hb.1 rfl) (hv.least i (by omega))
  rw[this,cond_false,zaq (by omega),zhE hn hm hk hC hv n (i+1) (by omega) (by omega)]
theorem zkO{g:Nat}{ns:List NN}(h:RightN g ns):∀(n:Nat) (os:List Nat),zcN (zax ns) os→os.length≤ns.length→ns.length - os.length<n →
  ∃ os',zcN (zax ns) os'∧os'.length=ns.length∧zbb (iL (zax ns)) ns.length n ((za9 os:Nat):Int) (iL os)=some (.go (iL os'))
 | 0,_,_,_,h=>absurd h (qam _)
 | n+1,os,h1,h2,h3=>by
  unfold zbb;have hml:(zax ns).length=ns.length:=by simp[zax]
  have hn:=h.n2;rw[zaw,zaw,hml,zar];by_cases hl:os.length<ns.length
  ·obtain⟨v,hv⟩:=h.next hl;have hvl:=hv.lt;have hk:za9 os<18446744073709551616:=Go.Dc.ze2 fun x hx=>by
    have:=h1.lt x hx;omega
   have e:=zhE (os:=os) (C:=ns.length) (by omega) h.ze2 hk (by omega) hv (ns.length+2) 0 (qav _) (by omega);rw[show((0:Nat):Int)=0 from rfl]at e;obtain⟨os',g1,g2,g3⟩:=zkO h n (os ++ [v]) (h1.app hv) (by simp; omega) (by simp; omega);refine⟨os',g1,g2,?_⟩;rw[decide_eq_true hl,cond_true,zaF,e,qaa];simp only[];rw[← znc,g3]
  exact⟨os,h1,by omega,by rw[decide_eq_false hl,cond_false]⟩
theorem zo8{g:Nat}{ns:List NN}(h:RightN g ns):
  ∃ os,zcN (zax ns) os∧os.length=ns.length∧zbE (iL (zax ns))=some (iL os,true):=by
 have hml:(zax ns).length=ns.length:=by simp[zax]
 have hn:=h.n2;obtain⟨os,g1,g2,g3⟩:=zkO h (ns.length+2) [] (fun k v hk=>by simp at hk) (qav _) (by simp);refine⟨os,g1,g2,?_⟩;unfold zbE;rw[zaw,hml];have hcap:zso 8 ((ns.length:Nat):Int)=some ns.length:=by
  unfold zso;rw[if_pos ⟨qbm _,by simp only[zad]; omega⟩,qaO]
 rw[hcap,qaa,show(((ns.length:Nat):Int) - ((([]:List Int).length:Nat):Int)+2).toNat=ns.length+2 by simp; omega];rw[show((za9 []:Nat):Int)=0 from rfl,show iL []=[]from rfl]at g3;rw[g3,qaa]
theorem zlD{g:Nat}{ns:List NN}(h:RightN g ns):
  ∃ os,zcN (zax ns) os∧os.length=ns.length∧zaN (zdI g ns)=some (⟨zdI g ns,iL (ns.map (·.c)),iL (zax ns),iL os⟩,0):=by
 obtain⟨os,g1,g2,g3⟩:=zo8 h;refine⟨os,g1,g2,?_⟩;have h1:=h.g1;have h2:=h.g2;have h3:=h.n1;have h4:=h.n2;have hl:(zdI g ns).nodes.length=ns.length:=by simp[zdI]
 have hp:=h.prod;have e1:=zpD (g:=g) (P:=zaB (ns.map (·.c))) h.n2 h.card (by omega) (ns.length+2) [] ns 1 rfl (qck _) (by omega);have e2:=zoB h (ns.length+2) [] ns rfl (by omega);simp only[qby,qbe,qaQ]at e1 e2;rw[show((0:Nat):Int)=0 from rfl]at e1 e2;rw[show((1:Nat):Int)=1 from rfl]at e1;have hz:List.replicate ns.length (0:Int)=iL (List.replicate ns.length 0):=by simp[iL]
 unfold zaN
 rw[hl,show(zdI g ns).grain=(g:Int)from rfl,show decide ((g:Int)<1)=false from decide_eq_false (by omega),cond_false,show decide ((60:Int)<(g:Int))=false from decide_eq_false (by omega),cond_false,
  show decide (((ns.length:Nat):Int)<1)=false from decide_eq_false (by omega),cond_false,qaa,show decide ((8:Int)<((ns.length:Nat):Int))=false from decide_eq_false (by omega),cond_false,
  zhv (by omega),qaa,qaa,zaF,hz,e1,qaa]
 simp only[];rw[show decide ((1024:Int)<((zaB (ns.map (·.c)):Nat):Int))=false from decide_eq_false (by omega),cond_false,e2,qaa];simp only[];rw[show(ns.map fun x=>za9 x.ps)=zax ns from rfl,g3,qaa];simp only[];rw[cond_true]
inductive Reach (ms:List Nat):Nat→Nat→Prop
 | refl (i:Nat):Reach ms i i
 | step {s p i:Nat}:(ms.getD s 0).testBit p=true→Reach ms p i→Reach ms s i
structure GOk (ms:List Nat) (rk:Nat→Nat):Prop where
 len:ms.length≤8
 lt:∀ m∈ms,m<18446744073709551616
 down:∀ v p,(ms.getD v 0).testBit p=true→p<ms.length∧rk p<rk v
theorem zrP{ms:List Nat}{c s i:Nat}(h:Reach ms s i)(hs:c.testBit s=true)(hc:∀ i,c.testBit i=true→Sub (ms.getD i 0) c):c.testBit i=true:=by
 induction h with
 | refl i=>exact hs
 | step h1 h2 ih=>exact ih (hc _ hs _ h1)
theorem RightN.gok{g:Nat}{ns:List NN}(h:RightN g ns):∃ rk:Nat→Nat,GOk (zax ns) rk∧∀ v,rk v≤8:=by
 have hml:(zax ns).length=ns.length:=by simp[zax]
 have hn:=h.n2;obtain⟨rk,h1,h2⟩:=h.rk;refine⟨rk,⟨by omega,h.ze2,fun v p hp=>?_⟩,h1⟩;by_cases hv:v<ns.length
 ·rw[show(zax ns).getD v 0=za9 ns[v].ps by simp[zax,hv],zcG]at hp;have hp:=of_decide_eq_true hp;exact⟨by rw[hml]; exact h.lt _ (qao hv) p hp,h2 v _ (qae hv) p hp⟩
 rw[show(zax ns).getD v 0=0 by simp[zax,hv]]at hp;simp at hp
theorem zlu{xs:List Nat}(h:∀ m∈xs,m<18446744073709551616)(i:Nat):xs.getD i 0<18446744073709551616:=by
 by_cases hi:i<xs.length
 ·rw[show xs.getD i 0=xs[i] by simp[hi]]; exact h _ (qao hi)
 rw[show xs.getD i 0=0 by simp[hi]]; decide
theorem zsq{xs:List Nat}{i:Nat}(h:i<xs.length):zaO (iL xs) (i:Int)=some ((xs.getD i 0:Nat):Int):=by
 rw[zbS h]; simp[h]
theorem Reach.tr{ms:List Nat}{a b c:Nat}(h1:Reach ms a b)(h2:Reach ms b c):Reach ms a c:=by
 induction h1 with
 | refl=>exact h2
 | step e _ ih=>exact .step e (ih h2)
theorem ztl{n:Nat}{os:List Nat}(hd:os.Nodup)(hl:os.length=n)(hlt:∀ x∈os,x<n):∀ v,v<n→v∈os:=by
 intro v hv;refine qaR fun hno=>?_
 have:=zk8 (xs:=v :: os) (ys:=List.range n) (qb7.2 ⟨hno,hd⟩) fun y hy=>by
  rcases qaH.1 hy with rfl | hy
  ·exact qbp.2 hv
  exact qbp.2 (hlt y hy)
 rw[qcb,qaL]at this;omega
theorem zcN.zwG{ms os:List Nat}(h:zcN ms os)(hl:os.length=ms.length):∀ v p,v<ms.length→(ms.getD v 0).testBit p=true→os.idxOf p<os.idxOf v:=by
 intro v p hv hp;have hmem:=ztl h.nod hl h.lt v hv;have hlt:=List.idxOf_lt_length_iff.2 hmem;have hget:os[os.idxOf v]? = some v:=by rw[qae hlt]; simp
 have h1:=(h _ v hget).ready.2 p hp;rw[zcG]at h1;obtain⟨j,hj,hjp⟩:=List.mem_take_iff_getElem.1 (of_decide_eq_true h1);have hjl:j<os.length:=by omega
 have hpm:p∈os:=by rw[← hjp]; exact qao _
 have hpl:=List.idxOf_lt_length_iff.2 hpm;have:os.idxOf p=j:=by
  have hd:=h.nod;refine qaR fun hne=>?_
  exact zoX hd (i:=os.idxOf p) (j:=j) (v:=p) (w:=p) (by rw[qae hpl]; simp) (by rw[qae hjl,hjp]) hne rfl
 omega
def iter(f:Nat→Nat)(v:Nat):Nat→Nat
 | 0=>v
 | k+1=>f (iter f v k)
theorem zuP{n:Nat}(s:Nat→Nat)(h:∀ k,s k<n):∃ i j,i<j∧s i=s j:=by
 refine qaR fun hno=>?_
 have hd:((List.range (n+1)).map s).Nodup:=by
  rw[List.Nodup,qaY];intro i j hi hj hij he;simp only[List.getElem_map,List.getElem_range]at he;exact hno ⟨i,j,hij,he⟩
 have:=zk8 hd (ys:=List.range n) fun x hx=>by
  obtain⟨k,_,rfl⟩:=qay.1 hx;exact qbp.2 (h k)
 simp at this;omega
theorem zlM{ms os:List Nat}(hb:∀ v p,(ms.getD v 0).testBit p=true→p<ms.length)(hl:os.length<ms.length)(hd:os.Nodup)(hno:∀ v,v<ms.length→¬ zgk ms (za9 os) v):
  ∃ v p,v<ms.length∧(ms.getD v 0).testBit p=true∧Reach ms p v:=by
 have hf:∀ v,∃ p,v<ms.length→v ∉ os→(ms.getD v 0).testBit p=true∧p<ms.length∧p ∉ os:=by
  intro v;by_cases hv:v<ms.length∧v ∉ os
  ·have h1:¬ Sub (ms.getD v 0) (za9 os):=fun hs=>hno v hv.1 ⟨by rw[zcG]; simp[hv.2],hs⟩
   have:∃ p,(ms.getD v 0).testBit p=true∧(za9 os).testBit p≠true:=qaR fun hn=>h1 fun i hi=>qaR fun hi2=>hn ⟨i,hi,hi2⟩
   obtain⟨p,h2,h3⟩:=this;rw[zcG]at h3;exact⟨p,fun _ _=>⟨h2,hb v p h2,by simpa using h3⟩⟩
  exact⟨0,fun h1 h2=>absurd ⟨h1,h2⟩ hv⟩
 have hx:∃ v,v<ms.length∧v ∉ os:=by
  refine qaR fun hn=>?_
  have:=zk8 List.nodup_range (xs:=List.range ms.length) (ys:=os) fun x hx=>qaR fun hx2=>hn ⟨x,qbp.1 hx,hx2⟩
  rw[qcb]at this;omega
 obtain⟨v0,hv0,hv1⟩:=hx
 let f:Nat→Nat:=fun v=>Classical.choose (hf v)
 have hfs:∀ v,v<ms.length→v ∉ os→(ms.getD v 0).testBit (f v)=true∧f v<ms.length∧f v ∉ os:=fun v=>Classical.choose_spec (hf v)
 have hin:∀ k,iter f v0 k<ms.length∧iter f v0 k ∉ os:=by
  intro k;induction k with
  | zero=>exact⟨hv0,hv1⟩
  | succ k ih=>exact(hfs _ ih.1 ih.2).2
 obtain⟨i,j,hij,he⟩:=zuP (iter f v0) fun k=>(hin k).1
 have hr:∀ d k,Reach ms (iter f v0 k) (iter f v0 (k+d)):=by
  intro d;induction d with
  | zero=>intro k; exact .refl _
  | succ d ih=>
   intro k;have:=ih (k+1);rw[show k+1+d=k+(d+1) by omega]at this;exact .step (hfs _ (hin k).1 (hin k).2).1 this
 refine⟨iter f v0 i,iter f v0 (i+1),(hin i).1,(hfs _ (hin i).1 (hin i).2).1,?_⟩;have:=hr (j - (i+1)) (i+1);rw[show i+1+(j - (i+1))=j by omega,← he]at this;exact this
theorem znP{ms:List Nat}{rk:Nat→Nat}(h:∀ v p,(ms.getD v 0).testBit p=true→rk p<rk v){a b:Nat}(hr:Reach ms a b):rk b≤rk a:=by
 induction hr with
 | refl=>exact qak _
 | step e _ ih=>exact qax ih (Nat.le_of_lt (h _ _ e))
def cnt(n s:Nat):Nat:=(List.range n).countP (s.testBit ·)
theorem zuJ(n s:Nat):cnt n s≤n:=by
 have:=List.countP_le_length (p:=(s.testBit ·)) (l:=List.range n);rw[qcb]at this;exact this
theorem zkJ{p q:Nat→Bool}:∀ {xs:List Nat},(∀ x∈xs,p x=true→q x=true)→(∃ x∈xs,p x=false∧q x=true)→xs.countP p<xs.countP q
 | [],_,h=>by obtain⟨x,hx,_⟩:=h; cases hx
 | y :: ys,h1,h2=>by
  have hle:ys.countP p≤ys.countP q:=List.countP_mono_left fun x hx=>h1 x (qar _ hx)
  rw[List.countP_cons,List.countP_cons];obtain⟨x,hx,h3,h4⟩:=h2;rcases qaH.1 hx with rfl | hx
  ·simp only[h3,h4]; simp; omega
  have ih:=zkJ (xs:=ys) (fun x hx=>h1 x (qar _ hx)) ⟨x,hx,h3,h4⟩;cases hp:p y with
  | false=>simp only[qaJ,if_false]; split<;>omega
  | true=>simp only[h1 y qas hp,if_true]; omega
theorem zvN{n s t:Nat}(h1:Sub s t)(h2:∃ x,x<n∧s.testBit x=false∧t.testBit x=true):cnt n s<cnt n t:=by
 obtain⟨x,h3,h4,h5⟩:=h2;exact zkJ (fun x _ hx=>h1 x hx) ⟨x,qbp.2 h3,h4,h5⟩
theorem ztF{n s:Nat}(h:n≤cnt n s):∀ x,x<n→s.testBit x=true:=by
 intro x hx;have h1:cnt n s=(List.range n).length:=by rw[qcb]; exact Nat.le_antisymm (zuJ n s) h
 exact List.countP_eq_length.1 h1 x (qbp.2 hx)
theorem zgA{n:Nat}(F:Nat→Nat)(h1:∀ s,Sub s (F s))(h2:∀ s,(∀ x,s.testBit x=true→x<n)→∀ x,(F s).testBit x=true→x<n):∀(k s:Nat),(∀ x,s.testBit x=true→x<n)→
  F (iter F s k)=iter F s k∨k≤cnt n (iter F s k)
 | 0,s,_=>.inr (qav _)
 | k+1,s,h=>by
  have hin:∀ j,∀ x,(iter F s j).testBit x=true→x<n:=by
   intro j;induction j with
   | zero=>exact h
   | succ j ih=>exact h2 _ ih
  rcases zgA F h1 h2 k s h with h3 | h3
  ·exact .inl (by show F (F (iter F s k))=F (iter F s k); rw[h3,h3])
  by_cases he:F (iter F s k)=iter F s k
  ·exact .inl (by show F (F (iter F s k))=F (iter F s k); rw[he,he])
  refine .inr (qb4 h3 (zvN (h1 _) ?_));refine qaR fun hno=>he ?_
  apply qcB;intro i;cases hi:(iter F s k).testBit i with
  | true=>exact h1 _ i hi
  | false=>
   cases hf:(F (iter F s k)).testBit i with
   | false=>rfl
   | true=>exact absurd ⟨i,hin (k+1) i hf,hi,hf⟩ hno
end Go.Dc
