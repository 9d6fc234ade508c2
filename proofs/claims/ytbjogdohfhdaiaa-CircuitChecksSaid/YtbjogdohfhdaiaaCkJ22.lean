/-
 Plain laws: sets of inputs ar rows of words. Conditions: none.
-/
import Derived.Test.YtbjogdohfhdaiaaCkJ4
import Derived.Test.YtbjogdohfhdaiaaCkJ3
import Derived.Test.YtbjogdohfhdaiaaCkSa
import Derived.Test.YtbjogdohfhdaiaaCkFrC
set_option linter.unusedSimpArgs false
set_option linter.unusedVariables false
set_option maxRecDepth 100000
namespace Go.Dc
open Go Go.Mx Go.Lx
abbrev U64:Nat:=18446744073709551616
def WB(s:List Nat):Prop:=s.length=16/\∀ w∈s,w<U64
def zdh(s:List Nat)(j:Nat):Bool:=(s.getD (j / 64) 0).testBit (j % 64)
def orW(s o:List Nat):List Nat:=List.zipWith (· ||| ·) s o
def zj8(s o:List Nat):List Nat:=List.zipWith (· &&& ·) s o
def zrm(s o:List Nat):Bool:=(zj8 s o).all (· == 0)
abbrev SS(ss:List (List Nat)):List (List Int):=ss.map iL
variable{s o:List Nat}
theorem zme(f:Nat->Nat->Nat)(hf:f 0 0=0)(h:s.length=o.length)(k:Nat):(List.zipWith f s o).getD k 0=f (s.getD k 0) (o.getD k 0):=by
 rw[qak,qak,qak,List.getElem?_zipWith];by_cases hk:k<s.length
 .rw[qae hk,qae (h ▸ hk)]; rfl
 rw[qaJ (by omega),qaJ (by omega)]; exact hf.symm
theorem zjj(h:s.length=o.length)(j:Nat):zdh (orW s o) j=(zdh s j || zdh o j):=by
 unfold zdh orW;rw[zme _ rfl h,Nat.testBit_or]
theorem ziP(h:s.length=o.length)(j:Nat):zdh (zj8 s o) j=(zdh s j && zdh o j):=by
 unfold zdh zj8;rw[zme _ rfl h,Nat.testBit_and]
theorem WB.or(hs:WB s)(ho:WB o):WB (orW s o):=by
 refine⟨by simp[orW,hs.1,ho.1],λw hw=>?_⟩;obtain⟨i,hi,rfl⟩:=qbX.1 hw;simp only[orW,List.getElem_zipWith];exact qbx (n:=64) (hs.2 _ (qax _)) (ho.2 _ (qax _))
theorem WB.and(hs:WB s)(ho:WB o):WB (zj8 s o):=by
 refine⟨by simp[zj8,hs.1,ho.1],λw hw=>?_⟩;obtain⟨i,hi,rfl⟩:=qbX.1 hw;simp only[zj8,List.getElem_zipWith];exact Nat.lt_of_le_of_lt Nat.and_le_left (hs.2 _ (qax _))
def zW:List Nat:=List.replicate 16 0
theorem ziC:WB zW:=⟨by simp[zW],λw hw=>by rw[List.eq_of_mem_replicate hw]; decide⟩
theorem zhT(j:Nat):zdh zW j=false:=by
 unfold zdh zW;rw[qak,qcq];split<;>simp
theorem zrj(hs:WB s)(ho:WB o):zrm s o=true↔∀ j,j<1024->¬(zdh s j=true/\zdh o j=true):=by
 have hl:s.length=o.length:=hs.1.trans ho.1.symm;have hw:=hs.and ho;unfold zrm;rw[qa1];constructor
 .intro h j hj ⟨h1,h2⟩;have h3:zdh (zj8 s o) j=true:=by rw[ziP hl,h1,h2]; rfl
  have h4:(zj8 s o).getD (j / 64) 0=0:=by
   have hk:j / 64<(zj8 s o).length:=by rw[hw.1]; omega
   rw[qak,qae hk];exact beq_iff_eq.1 (h _ (qax hk))
  unfold zdh at h3;rw[h4,Nat.zero_testBit]at h3;cases h3
 intro h w hm;obtain⟨i,hi,rfl⟩:=qbX.1 hm;have h16:i<16:=by rw[<- hw.1]; exact hi
 rw[qcI];refine Nat.eq_of_testBit_eq λb=>?_
 rw[Nat.zero_testBit];by_cases hb:b<64
 .have h1:=h (64 * i+b) (by omega);have h2:zdh (zj8 s o) (64 * i+b)=(zj8 s o)[i].testBit b:=by
   unfold zdh;rw[show(64 * i+b) / 64=i by omega,show(64 * i+b) % 64=b by omega,qak,qae hi];rfl
  rw[<- h2,ziP hl];cases h3:zdh s (64 * i+b)with
  | false=>rfl
  | true=>
   cases h4:zdh o (64 * i+b)with
   | false=>rfl
   | true=>exact absurd ⟨h3,h4⟩ h1
 exact Nat.testBit_lt_two_pow (qbq (hw.2 _ hm) (Nat.pow_le_pow_right (n:=2) (by decide) (show 64<=b by omega)))
variable{ss:List (List Nat)}{i:Nat}
theorem znk(h:i<ss.length):zaH (SS ss) (i:Int)=some (iL ss[i]):=by
 rw[zaq (by simpa using h)]; simp
variable{x:List Nat}
theorem getSet(h:i<ss.length):zaH (SS (ss.set i x)) (i:Int)=some (iL x):=by
 rw[znk (by simpa using h)]; simp
theorem ztX{y:List Nat}(h:i<ss.length):zfU (SS (ss.set i x)) (i:Int) (iL y)=some (SS (ss.set i y)):=by
 rw[zfK (by simpa using h)]; simp[SS,qcf]
theorem zp5{f:Int->Int}{w w':Nat}{pre suf:List Nat}(hi:i<ss.length)(hf:f (w:Int)=(w':Int)):
  zqi f (SS (ss.set i (pre ++ w :: suf))) (i:Int) (pre.length:Int)=some (SS (ss.set i (pre ++ w' :: suf))):=by
 unfold zqi;rw[getSet hi,qab,zcg rfl,qab,hf,zdN rfl,qab,ztX hi]
theorem zt0{ss:List (List Nat)}{i:Nat}(hi:i<ss.length):∀(suf sufo pre preo:List Nat) (n:Nat),suf.length=sufo.length->pre.length=preo.length->pre.length+suf.length=16->(∀ w∈suf,w<U64)->(∀ w∈sufo,w<U64)->suf.length<n ->
  nz1 (iL (preo ++ sufo)) (i:Int) n (pre.length:Int) (SS (ss.set i (pre ++ suf)))=some (SS (ss.set i (pre ++ orW suf sufo)))
 | _,_,_,_,0,_,_,_,_,_,h=>absurd h (qaq _)
 | [],[],pre,preo,n+1,_,_,h3,_,_,_=>by
  unfold nz1;rw[qcH (by simp at h3; omega),qcF]; rfl
 | w :: suf,o :: sufo,pre,preo,n+1,h1,h2,h3,h4,h5,h6=>by
  have h3':pre.length+(suf.length+1)=16:=h3;unfold nz1;rw[qcG (by omega),qcE,zcg h2.symm,qab,zp5 (f:=λx=>orI .u64 x (o:Int)) hi (orU (h4 w qaB) (h5 o qaB)),qab,zak (by omega)];have e:=zt0 hi suf sufo (pre ++ [w ||| o]) (preo ++ [o]) n (by simpa using h1) (by simp[h2]) (by simp; omega) (λx hx=>h4 x (qav _ hx)) (λx hx=>h5 x (qav _ hx)) (by simpa using h6);simpa [orW]using e
theorem zv5(hi:i<ss.length)(hs:WB s)(ho:WB o):nz1 (iL o) (i:Int) 18 0 (SS (ss.set i s))=some (SS (ss.set i (orW s o))):=
 zt0 hi s o [] [] 18 (hs.1.trans ho.1.symm) rfl (by simp[hs.1]) hs.2 ho.2 (by rw[hs.1]; decide)
theorem zpO{ss:List (List Nat)}{i:Nat}(hi:i<ss.length)(ap:Bool):∀(suf sufo pre preo:List Nat) (n:Nat),suf.length=sufo.length->pre.length=preo.length->pre.length+suf.length=16->(∀ w∈suf,w<U64)->(∀ w∈sufo,w<U64)->suf.length<n ->
  nz3 4 (iL (preo ++ sufo)) (i:Int) n (pre.length:Int) (SS (ss.set i (pre ++ suf))) ap=some (SS (ss.set i (pre ++ zj8 suf sufo)),ap)
 | _,_,_,_,0,_,_,_,_,_,h=>absurd h (qaq _)
 | [],[],pre,preo,n+1,_,_,h3,_,_,_=>by
  unfold nz3;rw[qcH (by simp at h3; omega),qcF]; rfl
 | w :: suf,o :: sufo,pre,preo,n+1,h1,h2,h3,h4,h5,h6=>by
  have h3':pre.length+(suf.length+1)=16:=h3;unfold nz3;rw[qcG (by omega),qcE,zcg h2.symm,qab,show((4:Int)== 4)=true from rfl,qcE,zp5 (f:=λx=>zmJ .u64 x (o:Int)) hi (zvs (h4 w qaB) (h5 o qaB)),qab,zak (by omega)];have e:=zpO hi ap suf sufo (pre ++ [w &&& o]) (preo ++ [o]) n (by simpa using h1) (by simp[h2]) (by simp; omega) (λx hx=>h4 x (qav _ hx)) (λx hx=>h5 x (qav _ hx)) (by simpa using h6);simpa [zj8]using e
theorem zgt(a:Nat):(((a:Nat):Int)== 0)=(a == 0):=by
 rw[qbD]; simp
theorem zrR{ss:List (List Nat)}{i:Nat}(hi:i<ss.length){kind:Int}(hk:(kind == 4)=false):∀(suf sufo pre preo:List Nat) (n:Nat) (ap:Bool),suf.length=sufo.length->pre.length=preo.length->pre.length+suf.length=16->(∀ w∈suf,w<U64)->(∀ w∈sufo,w<U64)->suf.length<n ->
  nz3 kind (iL (preo ++ sufo)) (i:Int) n (pre.length:Int) (SS (ss.set i (pre ++ suf))) ap=some (SS (ss.set i (pre ++ orW suf sufo)),ap && zrm suf sufo)
 | _,_,_,_,0,_,_,_,_,_,_,h=>absurd h (qaq _)
 | [],[],pre,preo,n+1,ap,_,_,h3,_,_,_=>by
  unfold nz3;rw[qcH (by simp at h3; omega),qcF];cases ap<;>rfl
 | w :: suf,o :: sufo,pre,preo,n+1,ap,h1,h2,h3,h4,h5,h6=>by
  have h3':pre.length+(suf.length+1)=16:=h3;unfold nz3
  rw[qcG (by omega),qcE,zcg h2.symm,qab,hk,qcF,getSet hi,qab,zcg rfl,qab,zp5 (f:=λx=>orI .u64 x (o:Int)) hi (orU (h4 w qaB) (h5 o qaB)),qab,zak (by omega),
   zvs (h4 w qaB) (h5 o qaB),zgt]
  have e:=zrR hi hk suf sufo (pre ++ [w ||| o]) (preo ++ [o]) n (bif ap then(w &&& o)== 0 else false) (by simpa using h1) (by simp[h2]) (by simp; omega) (λx hx=>h4 x (qav _ hx)) (λx hx=>h5 x (qav _ hx)) (by simpa using h6);have e2:((bif ap then(w &&& o)== 0 else false) && zrm suf sufo)=(ap && zrm (w :: suf) (o :: sufo)):=by
   unfold zrm zj8;cases ap<;>simp
  rw[e2]at e;simpa [orW]using e
def zdZ(kind:Int)(r:List Nat×Bool)(o:List Nat):List Nat×Bool:=bif kind == 4 then(zj8 r.1 o,r.2)else(orW r.1 o,r.2 && zrm r.1 o)
theorem zvP(hi:i<ss.length)(kind:Int)(hs:WB s)(ho:WB o)(ap:Bool):
  nz3 kind (iL o) (i:Int) 18 0 (SS (ss.set i s)) ap=some (SS (ss.set i (zdZ kind (s,ap) o).1),(zdZ kind (s,ap) o).2):=by
 unfold zdZ;have hl:s.length<18:=by rw[hs.1]; decide
 cases hk:(kind == 4)with
 | true=>
  have h4:=beq_iff_eq.1 hk;subst h4;exact zpO hi ap s o [] [] 18 (hs.1.trans ho.1.symm) rfl (by simp[hs.1]) hs.2 ho.2 hl
 | false=>exact zrR hi hk s o [] [] 18 ap (hs.1.trans ho.1.symm) rfl (by simp[hs.1]) hs.2 ho.2 hl
theorem zra{kind:Int}{r:List Nat×Bool}(h:WB r.1)(ho:WB o):WB (zdZ kind r o).1:=by
 unfold zdZ;cases hk:(kind == 4)
 .exact h.or ho
 exact h.and ho
theorem zu3{ss:List (List Nat)}{i:Nat}(hi:i<ss.length){os:List (List Nat)}(ho:∀ o∈os,WB o)(hn:os.length<4000000):∀(n j:Nat) (s:List Nat),WB s->j<=os.length->os.length - j<n ->
  nz2 (SS os) (i:Int) n (j:Int) (SS (ss.set i s))=some (SS (ss.set i ((os.drop j).foldl orW s)))
 | 0,_,_,_,_,h=>absurd h (qaq _)
 | n+1,j,s,hs,h1,h2=>by
  unfold nz2;rw[show(SS os).length=os.length by simp,za3];by_cases hj:j<os.length
  .have hw:=ho _ (qax hj);rw[qcG hj,qcE,znk hj,qab,zv5 hi hs hw,qab,zak (by omega),zu3 hi ho hn n (j+1) _ (hs.or hw) hj (by omega),qan hj];rfl
  rw[qcH hj,qcF,qas (by omega)]; rfl
theorem zs6{ss:List (List Nat)}{i:Nat}(hi:i<ss.length)(hw:∀ s∈ss,WB s){g:S_api_Gate}{ar:List Nat}(hg:g.args=iL ar)(ha:∀ a∈ar,a<i)(hn:ar.length<4000000):∀(n j:Nat) (s:List Nat) (ap:Bool),WB s->j<=ar.length->ar.length - j<n ->
  nz4 g (i:Int) n (j:Int) (SS (ss.set i s)) ap=some (SS (ss.set i (((ar.drop j).map λa=>ss.getD a []).foldl (zdZ g.kind) (s,ap)).1),(((ar.drop j).map λa=>ss.getD a []).foldl (zdZ g.kind) (s,ap)).2)
 | 0,_,_,_,_,_,h=>absurd h (qaq _)
 | n+1,j,s,ap,hs,h1,h2=>by
  unfold nz4;rw[hg,zaV,za3];by_cases hj:j<ar.length
  .have h3:=ha _ (qax hj);have h4:ar[j]<ss.length:=by omega
   have h5:=hw _ (qax h4);have h6:zaH (SS (ss.set i s)) ((ar[j]:Nat):Int)=some (iL ss[ar[j]]):=by
    rw[znk (by simpa using h4),List.getElem_set_ne (by omega)]
   have h7:ss.getD ar[j] []=ss[ar[j]]:=by rw[qak,qae h4]; rfl
   rw[qcG hj,qcE,zbI hj,qab,h6,qab,zvP hi _ hs h5,qab,zak (by omega)];simp only;rw[zs6 hi hw hg ha hn n (j+1) _ _ (zra hs h5) hj (by omega),qan hj,qaI,qbL,h7]
  rw[qcH hj,qcF,qas (by omega)]; rfl
theorem bb1(a b:Bool)(n:Nat):¬(a=true/\b=true)->(a || b).toNat+n<=1->a.toNat+(n+if b=true then 1 else 0)<=1:=by
 cases a<;>cases b<;>simp<;>omega
theorem bb2(a b:Bool)(n:Nat):a.toNat+(n+if b=true then 1 else 0)<=1->¬(a=true/\b=true)/\(a || b).toNat+n<=1:=by
 cases a<;>cases b<;>simp<;>omega
theorem zu1{kind:Int}(hk:(kind == 4)=false):∀(os:List (List Nat)) (s:List Nat) (ap:Bool),WB s->(∀ o∈os,WB o)->
  (∀ j,zdh (os.foldl (zdZ kind) (s,ap)).1 j=(zdh s j || os.any λo=>zdh o j))/\WB (os.foldl (zdZ kind) (s,ap)).1 /\
  ((os.foldl (zdZ kind) (s,ap)).2=true↔ap=true/\∀ j,j<1024->(zdh s j).toNat+os.countP (λo=>zdh o j)<=1)
 | [],s,ap,hs,_=>by
  refine⟨λj=>by simp,hs,?_⟩;have:∀ j,(zdh s j).toNat+0<=1:=λj=>by cases zdh s j<;>decide
  simp only[List.foldl_nil,List.countP_nil];exact⟨λh=>⟨h,λj _=>this j⟩,λh=>h.1⟩
 | o :: os,s,ap,hs,ho=>by
  have h1:=ho o qaB;have e:zdZ kind (s,ap) o=(orW s o,ap && zrm s o):=by unfold zdZ; rw[hk,qcF]
  rw[qbL,e];obtain⟨a1,a2,a3⟩:=zu1 hk os (orW s o) (ap && zrm s o) (hs.or h1) λx hx=>ho x (qav _ hx)
  refine⟨λj=>by rw[a1,zjj (hs.1.trans h1.1.symm),List.any_cons,Bool.or_assoc],a2,a3.trans ?_⟩;rw[qaf,zrj hs h1];constructor
  .rintro⟨⟨b1,b2⟩,b3⟩;refine⟨b1,λj hj=>?_⟩;have c2:=b3 j hj;rw[zjj (hs.1.trans h1.1.symm)]at c2;rw[List.countP_cons];exact bb1 _ _ _ (b2 j hj) c2
  rintro⟨b1,b2⟩;have c:∀ j,j<1024->_:=λj hj=>bb2 _ _ _ (by have:=b2 j hj; rwa [List.countP_cons]at this)
  exact⟨⟨b1,λj hj=>(c j hj).1⟩,λj hj=>by rw[zjj (hs.1.trans h1.1.symm)]; exact(c j hj).2⟩
theorem ztH:∀(os:List (List Nat)) (s:List Nat) (ap:Bool),WB s->(∀ o∈os,WB o)->
  (∀ j,zdh (os.foldl (zdZ 4) (s,ap)).1 j=(zdh s j && os.all λo=>zdh o j))/\WB (os.foldl (zdZ 4) (s,ap)).1/\(os.foldl (zdZ 4) (s,ap)).2=ap
 | [],s,ap,hs,_=>⟨λj=>by simp,hs,rfl⟩
 | o :: os,s,ap,hs,ho=>by
  have h1:=ho o qaB;have e:zdZ 4 (s,ap) o=(zj8 s o,ap):=rfl;rw[qbL,e];obtain⟨a1,a2,a3⟩:=ztH os (zj8 s o) ap (hs.and h1) λx hx=>ho x (qav _ hx)
  exact⟨λj=>by rw[a1,ziP (hs.1.trans h1.1.symm),qa7,Bool.and_assoc],a2,a3⟩
theorem zuy:∀(os:List (List Nat)) (s:List Nat),WB s->(∀ o∈os,WB o)->(∀ j,zdh (os.foldl orW s) j=(zdh s j || os.any λo=>zdh o j))/\WB (os.foldl orW s)
 | [],s,hs,_=>⟨λj=>by simp,hs⟩
 | o :: os,s,hs,ho=>by
  have h1:=ho o qaB;rw[qbL];obtain⟨a1,a2⟩:=zuy os (orW s o) (hs.or h1) λx hx=>ho x (qav _ hx)
  exact⟨λj=>by rw[a1,zjj (hs.1.trans h1.1.symm),List.any_cons,Bool.or_assoc],a2⟩
theorem zlL:∀(k:Nat) (xs cx cy zs:List Nat),xs.length=k->cx.length=k->zds cx xs->k<=12 ->
  match nxt cx xs with
  | none=>zgR (iL (cx ++ cy)) k (iL (xs ++ zs))=some (iL (List.replicate k 0 ++ zs),-1)
  | some xs'=>∃(r:List Int) (q:Nat) (v:Int),zgR (iL (cx ++ cy)) k (iL (xs ++ zs))=some (r,(q:Int))/\zaH r (q:Int)=some v/\zfU r (q:Int) (w64 (v+1))=some (iL (xs' ++ zs))
 | 0,xs,cx,cy,zs,hx,hc,_,_=>by
  obtain rfl:xs=[]:=qa5.1 hx;obtain rfl:cx=[]:=qa5.1 hc;rfl
 | k+1,xs,cx,cy,zs,hx,hc,hb,hk=>by
  obtain⟨xs,x,rfl,lx⟩:=zii hx;obtain⟨cx,c,rfl,lc⟩:=zii hc;obtain⟨hb1,hb2,hb3⟩:=hb.snoc (lx.trans lc.symm);simp only[qbe,qbC];unfold zgR;rw[zcg lx,qab,zcg lc,qab,zfk (by omega) (by omega)];by_cases h1:x+1<c
  .rw[show(((x:Nat):Int)==((c:Nat):Int) - 1)=false from beq_eq_false_iff_ne.2 (by omega),qcF,ze6 (lx.trans lc.symm) h1];refine⟨_,k,_,rfl,zcg lx,?_⟩;rw[zak (by omega),zdN lx];simp
  rw[show(((x:Nat):Int)==((c:Nat):Int) - 1)=true from beq_iff_eq.2 (by omega),qcE,show(0:Int)=((0:Nat):Int)from rfl,zdN lx,qab,zeg (lx.trans lc.symm) h1];have ih:=zlL k xs cx (c :: cy) (0 :: zs) lx lc hb1 (by omega);cases hn:nxt cx xs with
  | none=>
   rw[hn]at ih;simp only[qcj]at ih ⊢;rw[ih];simp[qcC]
  | some xs'=>
   rw[hn]at ih;simp only[qaD]at ih ⊢;obtain⟨r,q,v,e1,e2,e3⟩:=ih;exact⟨r,q,v,e1,e2,by rw[e3]; simp⟩
theorem zt8{cs:List Nat}(hc:∀ c∈cs,1<=c/\c<=8)(hl:cs.length<=12)(hp:zan cs<=4096):∀(m i n:Nat),i+(m+1)=zan cs->m<n ->
  ztx (iL cs) n (iL (dig cs i)) (i:Int)=some ((List.range' i (m+1)).map λj:Nat=>((j:Int),iL (dig cs j)))
 | m,i,0,_,h=>absurd h (qaq _)
 | m,i,n+1,hi,hn=>by
  have h:=zlL cs.length (dig cs i) cs [] [] (zd7 _ _) rfl (zey hc (by omega)) hl;simp only[qbb]at h;rw[zlo hc (by omega)]at h;unfold ztx;rw[zaV];cases m with
  | zero=>
   rw[if_neg (by omega)]at h;simp only at h;rw[h,qab];rfl
  | succ m=>
   rw[if_pos (by omega)]at h;simp only at h;obtain⟨r,q,v,e1,e2,e3⟩:=h;rw[e1,qab];simp only;rw[qcH (by omega),qcF,e2,qab,e3,qab,zak (by omega),zt8 hc hl hp m (i+1) n (by omega) (by omega)];rfl
theorem zwc{cs:List Nat}(hc:∀ c∈cs,1<=c/\c<=8)(hl:cs.length<=12)(hp:zan cs<=4096):zvk (iL cs)=some ((List.range' 0 (zan cs)).map λj:Nat=>((j:Int),iL (dig cs j))):=by
 have hpos:=zeJ hc;obtain⟨m,hm⟩:∃ m,zan cs=m+1:=⟨zan cs - 1,by omega⟩;unfold zvk zh6;rw[if_pos (by rw[zaV]; omega),qab,zaV,zfW (by omega),qab];have h:=znR cs 1;rw[qcr]at h;rw[show((1:Nat):Int)=1 from rfl]at h;rw[h,qaH,<- znX,<- zgo];have e:=zt8 hc hl hp m 0 (zan cs) (by omega) (by omega);rw[hm]at e ⊢;exact e
theorem zds.get:∀ {cs xs:List Nat},zds cs xs->∀(v:Nat) (h1:v<xs.length) (h2:v<cs.length),xs[v]<cs[v]
 | [],[],_,v,h1,_=>absurd h1 (qaq _)
 | c :: cs,x :: xs,h,0,_,_=>h.1
 | c :: cs,x :: xs,h,v+1,h1,h2=>h.2.2.get v (by simpa using h1) (by simpa using h2)
def zqe(s:List Nat)(j:Nat):List Nat:=s.set (j / 64) (s.getD (j / 64) 0 ||| 2 ^ (j % 64))
theorem zsV(hs:WB s)(j:Nat):WB (zqe s j):=by
 refine⟨by simp[zqe,hs.1],λw hw=>?_⟩;rcases qbn hw with hw | rfl
 .exact hs.2 w hw
 refine qbx (n:=64) ?_ (qbF (by decide) (qbw _ (by decide)));rw[qak];by_cases hk:j / 64<s.length
 .rw[qae hk]; exact hs.2 _ (qax hk)
 rw[qaJ (by omega)]; decide
variable{j:Nat}
theorem zom(hs:s.length=16)(hj:j<1024)(t:Nat):zdh (zqe s j) t=(zdh s t || t == j):=by
 have hk:j / 64<s.length:=by rw[hs]; omega
 unfold zdh zqe;by_cases h:t / 64=j / 64
 .rw[h,qak,qaz hk,qba,Nat.testBit_or,Nat.testBit_two_pow];congr 1
  rw[qbD,qcK,qcI];omega
 rw[qak,qal (by omega),<- qak,show(t == j)=false from beq_eq_false_iff_ne.2 (by omega),Bool.or_false]
theorem zq0(hs:WB s)(hj:j<1024):zhY (iL s) (j:Int)=some (iL (zqe s j)):=by
 have hk:j / 64<s.length:=by rw[hs.1]; omega
 have e1:((j:Int).tmod 64)=((j % 64:Nat):Int):=rfl;have e2:((j:Int).tdiv 64)=((j / 64:Nat):Int):=rfl;have e3:s.getD (j / 64) 0=s[j / 64]:=by rw[qak,qae hk]; rfl
 unfold zhY zqe
 rw[e1,e2,zwp (qbw _ (by decide)),qab,zoC (by omega),zbI hk,qab,orU (hs.2 _ (qax hk)) (qbF (by decide) (qbw _ (by decide)):2 ^ (j % 64)<2 ^ 64),
  zfK (by rw[zaV]; exact hk),e3]
 simp[iL,qcf]
abbrev RR(rr:List (List (List Nat))):List (List (List Int)):=rr.map SS
def lit(rr:List (List (List Nat)))(v x:Nat):List Nat:=(rr.getD v []).getD x []
structure LI (cs:List Nat) (f:Nat->Nat) (rr:List (List (List Nat))):Prop where
 len:rr.length=cs.length
 row:∀ v,v<cs.length->(rr.getD v []).length=cs.getD v 0
 wb:∀ v x,v<cs.length->x<cs.getD v 0->WB (lit rr v x)
 bit:∀ v x t,v<cs.length->x<cs.getD v 0->zdh (lit rr v x) t=(decide (t<f v) && (dig cs t).getD v 0 == x)
variable{f:Nat->Nat}{rr:List (List (List Nat))}
theorem LI.congr{cs:List Nat}{g:Nat->Nat}(h:LI cs f rr)(e:∀ v,v<cs.length->f v=g v):LI cs g rr:=
 ⟨h.len,h.row,h.wb,λv x t hv hx=>by rw[h.bit v x t hv hx,e v hv]⟩
variable{α:Type}{xs:List α}
theorem zax{d:α}(h:i<xs.length):xs.getD i d=xs[i]:=by rw[qak,qae h]; rfl
theorem zi5(xs:List α)(i j:Nat)(x d:α)(h:i<xs.length):(xs.set i x).getD j d=if j=i then x else xs.getD j d:=by
 rw[qak];split
 .next e=>subst e; rw[qaz h]; rfl
 next e=>rw[qal (by omega),<- qak]
theorem zqJ{cs:List Nat}{v x:Nat}(h:LI cs f rr)(hv:v<cs.length)(hx:x<cs.getD v 0)(hj:j<1024)(hf:f v=j)(hd:(dig cs j).getD v 0=x):
  ∃ rr',zhv (RR rr) (v:Int) (x:Int) (j:Int)=some (RR rr')/\LI cs (λu=>if u=v then j+1 else f u) rr':=by
 have hv':v<rr.length:=by rw[h.len]; exact hv
 have e1:rr.getD v []=rr[v]:=zax hv';have hr:=h.row v hv;have hx':x<rr[v].length:=by rw[<- e1,hr]; exact hx
 have hw:=h.wb v x hv hx;have e2:lit rr v x=rr[v][x]:=by unfold lit; rw[e1,zax hx']
 refine⟨rr.set v (rr[v].set x (zqe (lit rr v x) j)),?_,?_⟩
 .unfold zhv;have g1:zaH (RR rr) (v:Int)=some (SS rr[v]):=by rw[zaq (by simpa using hv')]; simp
  rw[g1,qab,znk hx',qab,<- e2,zq0 hw hj,qab,zfK (by simpa using hx'),qab,zfK (by simpa using hv')];simp[RR,SS,qcf]
 have el:∀ u y,lit (rr.set v (rr[v].set x (zqe (lit rr v x) j))) u y=if u=v/\y=x then zqe (lit rr v x) j else lit rr u y:=by
  intro u y;show((rr.set v (rr[v].set x (zqe (lit rr v x) j))).getD u []).getD y []=_;rw[zi5 _ _ _ _ _ hv'];by_cases hu:u=v
  .subst hu;rw[if_pos rfl,zi5 _ _ _ _ _ hx'];by_cases hy:y=x
   .rw[if_pos hy,if_pos ⟨rfl,hy⟩]
   rw[if_neg hy,if_neg (λa=>hy a.2)]; unfold lit; rw[e1]
  rw[if_neg hu,if_neg (λa=>hu a.1)]; rfl
 refine⟨by simp[h.len],λu hu=>?_,λu y hu hy=>?_,λu y t hu hy=>?_⟩
 .rw[zi5 _ _ _ _ _ hv'];split
  .next e=>subst e; rw[qaG,<- e1,hr]
  exact h.row u hu
 .rw[el];split
  .exact zsV hw j
  exact h.wb u y hu hy
 rw[el];by_cases hu':u=v
 .subst hu';rw[if_pos rfl];by_cases hy':y=x
  .subst hy';rw[if_pos ⟨rfl,rfl⟩,zom hw.1 hj,h.bit u y t hu hy,hf];by_cases ht:t=j
   .subst ht;rw[show(t == t)=true from qcL t,Bool.or_true,qcG (qbt t),hd,qcL]; rfl
   rw[show(t == j)=false from beq_eq_false_iff_ne.2 ht,Bool.or_false,show decide (t<j+1)=decide (t<j)from decide_eq_decide.2 (by omega)]
  rw[if_neg (λa=>hy' a.2),h.bit u y t hu hy,hf];by_cases ht:t=j
  .subst ht;rw[show((dig cs t).getD u 0 == y)=false from beq_eq_false_iff_ne.2 (by rw[hd]; omega),qby,qby]
  rw[show decide (t<j+1)=decide (t<j)from decide_eq_decide.2 (by omega)]
 rw[if_neg (λa=>hu' a.1),if_neg hu',h.bit u y t hu hy]
theorem zrF{cs:List Nat}(hc:∀ c∈cs,1<=c/\c<=8)(hl:cs.length<=12){j:Nat}(hj:j<zan cs)(hp:zan cs<=1024):∀(n v:Nat) (rr:List (List (List Nat))),LI cs (λu=>if u<v then j+1 else j) rr->v<=cs.length->cs.length - v<n ->
  ∃ rr',zrH (j:Int) (iL (dig cs j)) n (v:Int) (RR rr)=some (RR rr')/\LI cs (λ_=>j+1) rr'
 | 0,_,_,_,_,h=>absurd h (qaq _)
 | n+1,v,rr,h,h1,h2=>by
  unfold zrH;rw[zaV,zd7,za3];by_cases hv:v<cs.length
  .have hd:v<(dig cs j).length:=by rw[zd7]; exact hv
   have e:(dig cs j).getD v 0=(dig cs j)[v]:=zax hd;have hb:(dig cs j)[v]<cs.getD v 0:=by
    rw[zax hv];exact zds.get (zey hc hj) v hd hv
   obtain⟨rr1,q1,q2⟩:=zqJ h hv hb (by omega) (if_neg (Nat.lt_irrefl v)) e;rw[qcG hv,qcE,zbI hd,qab,q1,qab,zak (by omega)]
   exact zrF hc hl hj hp n (v+1) rr1 (q2.congr λu _=>by
    show(if u=v then j+1 else if u<v then j+1 else j)=(if u<v+1 then j+1 else j)
    (repeat' split)<;> omega) hv (by omega)
  rw[qcH hv,qcF];exact⟨rr,rfl,h.congr λu hu=>if_pos (by omega)⟩
theorem zrP{cs:List Nat}(hc:∀ c∈cs,1<=c/\c<=8)(hl:cs.length<=12)(hp:zan cs<=1024):∀(m i:Nat) (rr:List (List (List Nat))),i+m=zan cs->LI cs (λ_=>i) rr ->
  ∃ rr',zrC ((List.range' i m).map λj:Nat=>((j:Int),iL (dig cs j))) (RR rr)=some (RR rr')/\LI cs (λ_=>zan cs) rr'
 | 0,i,rr,hi,h=>⟨rr,rfl,by rw[<- hi]; exact h⟩
 | m+1,i,rr,hi,h=>by
  obtain⟨rr1,q1,q2⟩:=zrF hc hl (j:=i) (by omega) hp (cs.length+2) 0 rr (h.congr λu _=>(if_neg (qaq u)).symm) (qaA _) (by omega);obtain⟨rr2,q3,q4⟩:=zrP hc hl hp m (i+1) rr1 (by omega) q2;refine⟨rr2,?_,q4⟩;rw[qcx,qaI];unfold zrC;rw[zaV,zd7];rw[show((0:Nat):Int)=0 from rfl]at q1;rw[q1,qab,q3]
theorem zj7:∀ {cs:List Nat},(∀ c∈cs,c<=8)->zdI (iL cs)=some (RR (cs.map λc=>List.replicate c zW))
 | [],_=>rfl
 | c :: cs,h=>by
  have h8:=h c qaB;show(zfN 128 (c:Int) z16).bind (λr=>(zdI (iL cs)).map λl=>r :: l)=_;rw[zfW (by omega),qab,zj7 λd hd=>h d (qav _ hd)];have e:z16=iL zW:=rfl;simp[RR,SS,e]
theorem znp{cs:List Nat}(hc:∀ c∈cs,1<=c/\c<=8)(hl:cs.length<=12)(hp:zan cs<=1024):∃ rr,zaL (iL cs)=some (RR rr)/\LI cs (λ_=>zan cs) rr:=by
 have h0:LI cs (λ_=>0) (cs.map λc=>List.replicate c zW):=by
  have e:∀ v,v<cs.length->(cs.map λc=>List.replicate c zW).getD v []=List.replicate (cs.getD v 0) zW:=by
   intro v hv;rw[zax (by simpa using hv),zax hv]; simp
  have e2:∀ v x,v<cs.length->x<cs.getD v 0->lit (cs.map λc=>List.replicate c zW) v x=zW:=by
   intro v x hv hx;unfold lit;rw[e v hv,zax (by simpa using hx)]; simp
  refine⟨by simp,λv hv=>by rw[e v hv]; simp,λv x hv hx=>by rw[e2 v x hv hx]; exact ziC,λv x t hv hx=>?_⟩;rw[e2 v x hv hx,zhT,qcH (qaq t)]; rfl
 obtain⟨rr,q1,q2⟩:=zrP hc hl hp (zan cs) 0 _ (by omega) h0;refine⟨rr,?_,q2⟩;unfold zaL zh6;rw[if_pos (by rw[zaV]; omega),qab,zaV,zfW (by omega),qab,zj7 λc h=>(hc c h).2,qab,zwc hc hl (by omega),qab,q1]
inductive GOk (cs:List Nat) (i:Nat):S_api_Gate->Prop
 | num (n:Nat) (h:n<=4611686018427387903):GOk cs i ⟨1,0,0,(n:Int),[]⟩
 | is (v x:Nat) (hv:v<cs.length) (hx:x<cs.getD v 0):GOk cs i ⟨2,(v:Int),(x:Int),0,[]⟩
 | op (k:Int) (hk:k=3\/k=4) (ar:List Nat) (ne:ar≠[]) (inc:ar.Pairwise (· < ·)) (lt:∀ a∈ar,a<i):GOk cs i ⟨k,0,0,0,iL ar⟩
theorem ziA:∀ {ar:List Nat} {b i:Nat},ar.Pairwise (· < ·)->(∀ a∈ar,b<=a/\a<i)->ar.length+b<=max b i
 | [],b,i,_,_=>by simp; omega
 | a :: ar,b,i,h,hl=>by
  have h1:=hl a qaB;have h2:=ziA (b:=a+1) (i:=i) (qbR.1 h).2 λx hx=>⟨(qbR.1 h).1 x hx,(hl x (qav _ hx)).2⟩
  simp only[qaS];omega
def vg(d:List Nat)(acc:List Bool)(g:S_api_Gate):Bool:=
 bif g.kind == 1 then decide (0<g.n)else bif g.kind == 2 then((d.getD g.var.toNat 0:Nat):Int)== g.val
 else bif g.kind == 4 then g.args.all (λa=>acc.getD a.toNat false)else g.args.any (λa=>acc.getD a.toNat false)
def pg(acc:List Bool)(g:S_api_Gate):Bool:=bif g.kind == 3 then decide (g.args.countP (λa=>acc.getD a.toNat false)<=1)else true
def okD(d:List Nat):List S_api_Gate->List Bool->Bool
 | [],_=>true
 | g :: gs,acc=>pg acc g && okD d gs (acc ++ [vg d acc g])
theorem LI.all{cs:List Nat}(hc:∀ c∈cs,1<=c/\c<=8)(h1:1<=cs.length){rr:List (List (List Nat))}(h:LI cs (λ_=>zan cs) rr):
  (∀ o∈rr.getD 0 [],WB o)/\(rr.getD 0 []).length<=8/\∀ j,((rr.getD 0 []).any λo=>zdh o j)=decide (j<zan cs):=by
 have hr:=h.row 0 h1;have h8:cs.getD 0 0<=8:=by rw[zax h1]; exact(hc _ (qax h1)).2
 have e:∀ x,x<(rr.getD 0 []).length->lit rr 0 x=(rr.getD 0 []).getD x []:=λx _=>rfl
 refine⟨λo ho=>?_,by omega,λj=>?_⟩
 .obtain⟨x,hx,rfl⟩:=qbX.1 ho;have:=h.wb 0 x h1 (by omega);rw[e x hx,zax hx]at this;exact this
 rw[qbD,qcA,qcK];constructor
 .rintro⟨o,ho,hj⟩;obtain⟨x,hx,rfl⟩:=qbX.1 ho;have:=h.bit 0 x j h1 (by omega);rw[e x hx,zax hx,hj]at this;have h3:=(qaf _ _ ▸ this.symm:_/\_).1;exact qcM h3
 intro hj;have hb:=zey hc hj;have hd:0<(dig cs j).length:=by rw[zd7]; exact h1
 have hx:(dig cs j).getD 0 0<cs.getD 0 0:=by rw[zax hd,zax h1]; exact hb.get 0 hd h1
 have hx':(dig cs j).getD 0 0<(rr.getD 0 []).length:=by omega
 refine⟨_,qax hx',?_⟩;have:=h.bit 0 ((dig cs j).getD 0 0) j h1 hx;rw[e _ hx',zax hx',qcG hj,qcL]at this;exact this
theorem zv1(a b:Nat):(((a:Nat):Int)==((b:Nat):Int))=(a == b):=by
 rw[qbD,qcI,qcI]; omega
theorem zrN(ar:List Nat)(f:Nat->Bool):((iL ar).any λa=>f a.toNat)=ar.any f:=by simp[iL,List.any_map,qct]
theorem zrZ(ar:List Nat)(f:Nat->Bool):((iL ar).all λa=>f a.toNat)=ar.all f:=by simp[iL,List.all_map,qct]
theorem zhg(ar:List Nat)(f:Nat->Bool):((iL ar).countP λa=>f a.toNat)=ar.countP f:=by simp[iL,List.countP_map,qct]
variable{g:S_api_Gate}
theorem ztM{cs:List Nat}(hc:∀ c∈cs,1<=c/\c<=8)(h1:1<=cs.length)(hp:zan cs<=1024)(h:LI cs (λ_=>zan cs) rr){ss:List (List Nat)}(hi:i<ss.length)(hw:∀ s∈ss,WB s)(hz:ss.getD i []=zW)(h4:ss.length<=4000)(hg:GOk cs i g)(acc:Nat->List Bool)(ha:∀ t j,t<i->zdh (ss.getD t []) j=(decide (j<zan cs) && (acc j).getD t false))(ap:Bool):
  ∃ s0 s1 ap1,nzF (RR rr) g (i:Int) (SS ss)=some (SS (ss.set i s0))/\nz4 g (i:Int) (g.args.length+2) 0 (SS (ss.set i s0)) ap=some (SS (ss.set i s1),ap1)/\WB s1 /\
   (∀ j,zdh s1 j=(decide (j<zan cs) && vg (dig cs j) (acc j) g))/\(ap1=true↔ap=true/\∀ j,j<zan cs->pg (acc j) g=true):=by
 have hset:ss=ss.set i zW:=by
  have e:ss[i]=zW:=by rw[<- hz,zax hi]
  rw[<- e]; simp
 have h0:0<rr.length:=by rw[h.len]; exact h1
 have hrow:zaH (RR rr) 0=some (SS (rr.getD 0 [])):=by
  rw[show(0:Int)=((0:Nat):Int)from rfl,zaq (by simpa using h0),zax h0]; simp
 obtain⟨u1,u2,u3⟩:=h.all hc h1;have hall:nz2 (SS (rr.getD 0 [])) (i:Int) ((SS (rr.getD 0 [])).length+2) 0 (SS ss)=some (SS (ss.set i ((rr.getD 0 []).foldl orW zW))):=by
  have:=zu3 hi u1 (by omega) ((rr.getD 0 []).length+2) 0 zW ziC (qaA _) (by omega);rw[<- hset]at this;simpa using this
 obtain⟨f1,f2⟩:=zuy (rr.getD 0 []) zW ziC u1;have f1':∀ j,zdh ((rr.getD 0 []).foldl orW zW) j=decide (j<zan cs):=λj=>by rw[f1,zhT,qbY,u3]
 have hnil:∀(g:S_api_Gate) (s:List Nat) (ap:Bool),WB s->g.args=[]->nz4 g (i:Int) (g.args.length+2) 0 (SS (ss.set i s)) ap=some (SS (ss.set i s),ap):=λg s ap hs e=>by
  have:=zs6 hi hw (g:=g) (ar:=[]) e (λa h=>nomatch h) (by decide) (g.args.length+2) 0 s ap hs (qaA _) (by simp);simpa using this
 cases hg with
 | num n hn=>
  cases hd:decide ((0:Int)<(n:Int))with
  | true=>
   refine⟨_,_,ap,?_,hnil _ _ _ f2 rfl,f2,λj=>?_,?_⟩
   .unfold nzF;show(bif decide ((0:Int)<(n:Int))then _ else _)=_;rw[hd,qcE,hrow,qab,hall]
   .rw[f1'];show _=(decide (j<zan cs) && decide ((0:Int)<(n:Int)));rw[hd,qbG]
   .exact⟨λe=>⟨e,λ_ _=>rfl⟩,λe=>e.1⟩
  | false=>
   refine⟨zW,zW,ap,?_,hnil _ _ _ ziC rfl,ziC,λj=>?_,?_⟩
   .unfold nzF;show(bif decide ((0:Int)<(n:Int))then _ else _)=_;rw[hd,qcF,<- hset]
   .rw[zhT];show _=(decide (j<zan cs) && decide ((0:Int)<(n:Int)));rw[hd,qby]
   .exact⟨λe=>⟨e,λ_ _=>rfl⟩,λe=>e.1⟩
 | is v x hv hx=>
  have hwb:=h.wb v x hv hx;refine⟨lit rr v x,lit rr v x,ap,?_,hnil _ _ _ hwb rfl,hwb,λj=>?_,?_⟩
  .have hv':v<rr.length:=by rw[h.len]; exact hv
   have hr:=h.row v hv;have hx':x<(rr.getD v []).length:=by omega
   have g1:zaH (RR rr) (v:Int)=some (SS (rr.getD v [])):=by rw[zaq (by simpa using hv'),zax hv']; simp
   unfold nzF;show(zaH (RR rr) (v:Int)).bind _=_;rw[g1,qab];show(zaH (SS (rr.getD v [])) (x:Int)).bind _=_;rw[znk hx',qab,hset,ztX hi,<- hset];unfold lit;rw[zax hx']
  .rw[h.bit v x j hv hx];show _=(decide (j<zan cs) && ((((dig cs j).getD v 0:Nat):Int)==(x:Int)));rw[zv1]
  .exact⟨λe=>⟨e,λ_ _=>rfl⟩,λe=>e.1⟩
 | op k hk ar ne inc lt=>
  have hl:ar.length<4000000:=by
   have:=ziA (b:=0) (i:=i) inc λa h=>⟨qaA _,lt a h⟩
   omega
  have hn4:∀(s:List Nat),WB s->nz4 ⟨k,0,0,0,iL ar⟩ (i:Int) ((iL ar).length+2) 0 (SS (ss.set i s)) ap=some (SS (ss.set i ((ar.map λa=>ss.getD a []).foldl (zdZ k) (s,ap)).1),((ar.map λa=>ss.getD a []).foldl (zdZ k) (s,ap)).2):=λs hs=>by
   have:=zs6 hi hw (g:=⟨k,0,0,0,iL ar⟩) (ar:=ar) rfl lt hl ((iL ar).length+2) 0 s ap hs (qaA _) (by rw[zaV]; omega);simpa using this
  have hos:∀ o∈ar.map (λa=>ss.getD a []),WB o:=λo ho=>by
   obtain⟨a,ha,rfl⟩:=qbf.1 ho;have:a<ss.length:=Nat.lt_trans (lt a ha) hi;rw[zax this];exact hw _ (qax this)
  have hany:∀ j,((ar.map λa=>ss.getD a []).any λo=>zdh o j)=(decide (j<zan cs) && ar.any λa=>(acc j).getD a false):=λj=>by
   rw[List.any_map,qbD,qaf,qcA,qcA,qcK];constructor
   .rintro⟨a,ha',hb⟩;have:=ha a j (lt a ha');rw[qbO,this,qaf,qcK]at hb;exact⟨hb.1,a,ha',hb.2⟩
   rintro⟨hj,a,ha',hb⟩;refine⟨a,ha',?_⟩;rw[qbO,ha a j (lt a ha'),hb,qcG hj]; rfl
  have hmem:∀ j,j<zan cs->∀ a∈ar,zdh (ss.getD a []) j=(acc j).getD a false:=λj hj a ha'=>by
   rw[ha a j (lt a ha'),qcG hj,qa0]
  rcases hk with rfl | rfl
  .obtain⟨o1,o2,o3⟩:=zu1 (kind:=3) rfl (ar.map λa=>ss.getD a []) zW ap ziC hos;refine⟨zW,_,_,?_,hn4 zW ziC,o2,λj=>?_,o3.trans ⟨λ⟨e1,e2⟩=>⟨e1,λj hj=>?_⟩,λ⟨e1,e2⟩=>⟨e1,λj hj=>?_⟩⟩⟩
   .show some (SS ss)=_;rw[<- hset]
   .rw[o1,zhT,qbY,hany];show _=(_ && (iL ar).any λa=>(acc j).getD a.toNat false);rw[zrN ar λa=>(acc j).getD a false]
   .have e3:=e2 j (by omega);rw[zhT,List.countP_map]at e3;show decide ((iL ar).countP (λa=>(acc j).getD a.toNat false)<=1)=true;rw[zhg ar λa=>(acc j).getD a false,qcK];have e4:ar.countP ((λo=>zdh o j) ∘ λa=>ss.getD a [])=ar.countP λa=>(acc j).getD a false:=
     List.countP_congr λa ha'=>by rw[qbO,hmem j hj a ha']
    rw[e4]at e3;simpa using e3
   rw[zhT,List.countP_map];by_cases hj':j<zan cs
   .have e3:decide ((iL ar).countP (λa=>(acc j).getD a.toNat false)<=1)=true:=e2 j hj';rw[zhg ar λa=>(acc j).getD a false,qcK]at e3;have e4:ar.countP ((λo=>zdh o j) ∘ λa=>ss.getD a [])=ar.countP λa=>(acc j).getD a false:=
     List.countP_congr λa ha'=>by rw[qbO,hmem j hj' a ha']
    rw[e4];simpa using e3
   have e4:ar.countP ((λo=>zdh o j) ∘ λa=>ss.getD a [])=0:=
    List.countP_eq_zero.2 λa ha'=>by rw[qbO,ha a j (lt a ha'),qcH hj']; simp
   rw[e4]; decide
  obtain⟨o1,o2,o3⟩:=ztH (ar.map λa=>ss.getD a []) ((rr.getD 0 []).foldl orW zW) ap f2 hos;refine⟨_,_,_,?_,hn4 _ f2,o2,λj=>?_,?_⟩
  .unfold nzF;show(zaH (RR rr) 0).bind _=_;rw[hrow,qab,hall]
  .rw[o1,f1'];show _=(_ && (iL ar).all λa=>(acc j).getD a.toNat false);rw[zrZ ar λa=>(acc j).getD a false];cases hj:decide (j<zan cs)with
   | false=>rfl
   | true=>
    rw[qa0,qa0,List.all_map,qbD,qa1,qa1];have hj:=qcM hj;exact⟨λe a ha'=>by rw[<- hmem j hj a ha']; exact e a ha',λe a ha'=>by rw[qbO,hmem j hj a ha']; exact e a ha'⟩
  rw[o3];exact⟨λe=>⟨e,λ_ _=>rfl⟩,λe=>e.1⟩
theorem ztV{cs:List Nat}(hc:∀ c∈cs,1<=c/\c<=8)(h1:1<=cs.length)(hp:zan cs<=1024){rr:List (List (List Nat))}(h:LI cs (λ_=>zan cs) rr)
  {gs:List S_api_Gate} (hg:∀ i (h:i<gs.length),GOk cs i gs[i]) (h4:gs.length<=4000):∀(n i:Nat) (fs:List (List Nat)) (acc:Nat->List Bool) (ap:Bool),fs.length=i->i<=gs.length->gs.length - i<n->(∀ s∈fs,WB s)->(∀ j,(acc j).length=i)->
   (∀ t j,t<i->zdh (fs.getD t []) j=(decide (j<zan cs) && (acc j).getD t false))->
   ∃ sets b,nz5 (RR rr) gs n (i:Int) (SS (fs ++ List.replicate (gs.length - i) zW)) ap=some (sets,b)/\(b=true↔ap=true/\∀ j,j<zan cs->okD (dig cs j) (gs.drop i) (acc j)=true)
 | 0,_,_,_,_,_,_,h,_,_,_=>absurd h (qaq _)
 | n+1,i,fs,acc,ap,hf,hi,hn,hwf,hacc,hb=>by
  unfold nz5;rw[za3];by_cases hlt:i<gs.length
  .obtain⟨k,hk⟩:∃ k,gs.length - i=k+1:=⟨gs.length - i - 1,by omega⟩;have hss:fs ++ List.replicate (gs.length - i) zW=fs ++ zW :: List.replicate k zW:=by rw[hk,qbc]
   have hlen:(fs ++ zW :: List.replicate k zW).length=gs.length:=by simp[hf]; omega
   have hi':i<(fs ++ zW :: List.replicate k zW).length:=by rw[hlen]; exact hlt
   have hw:∀ s∈fs ++ zW :: List.replicate k zW,WB s:=λs hs=>by
    rcases qbr.1 hs with hs | hs
    .exact hwf s hs
    rcases qbg.1 hs with rfl | hs
    .exact ziC
    rw[List.eq_of_mem_replicate hs]; exact ziC
   have hz:(fs ++ zW :: List.replicate k zW).getD i []=zW:=by
    rw[zax hi'];simp[<- hf]
   have hat:∀ t,t<i->(fs ++ zW :: List.replicate k zW).getD t []=fs.getD t []:=λt ht=>by
    rw[qak,qaj (by omega),<- qak]
   obtain⟨s0,s1,ap1,q1,q2,q3,q4,q5⟩:=ztM hc h1 hp h hi' hw hz (by omega) (hg i hlt) acc (λt j ht=>by rw[hat t ht]; exact hb t j ht) ap;rw[qcG hlt,qcE,zaq hlt,qab,hss,znk hi',qab,q1,qab,q2,qab,zak (by omega)];simp only;have e:(fs ++ zW :: List.replicate k zW).set i s1=(fs ++ [s1])++ List.replicate (gs.length - (i+1)) zW:=by
    rw[qb6 i s1 (by omega),hf,qcg,show gs.length - (i+1)=k by omega];simp
   rw[e];obtain⟨sets,b,r1,r2⟩:=ztV hc h1 hp h hg h4 n (i+1) (fs ++ [s1]) (λj=>acc j ++ [vg (dig cs j) (acc j) gs[i]]) ap1 (by simp[hf]) hlt (by omega)
    (λs hs=>by
     rcases qbr.1 hs with hs | hs
     .exact hwf s hs
     rw[qbE.1 hs]; exact q3)
    (λj=>by simp[hacc j]) (λt j ht=>by
     by_cases ht':t<i
     .rw[qak,qaj (by omega),<- qak,hb t j ht'];congr 1
      rw[qak,qak,qaj (by rw[hacc]; exact ht')]
     obtain rfl:t=i:=by omega
     rw[qak,qap (by omega),hf,qcg];show zdh s1 j=_;rw[q4 j];congr 1
     rw[qak,qap (by rw[hacc]; exact qam _),hacc,qcg]
     rfl)
   refine⟨sets,b,r1,r2.trans ?_⟩;rw[q5,qan hlt];simp only[okD];constructor
   .rintro⟨⟨a1,a2⟩,a3⟩;exact⟨a1,λj hj=>by rw[a2 j hj,a3 j hj]; rfl⟩
   rintro⟨a1,a2⟩;exact⟨⟨a1,λj hj=>(qaf _ _ ▸ a2 j hj:_/\_).1⟩,λj hj=>(qaf _ _ ▸ a2 j hj:_/\_).2⟩
  rw[qcH hlt,qcF,qas (by omega)];exact⟨_,ap,rfl,λe=>⟨e,λ_ _=>rfl⟩,λe=>e.1⟩
theorem zov{c:S_api_Circuit}{cs:List Nat}(e:c.cards=iL cs)(hc:∀ c∈cs,1<=c/\c<=8)(h1:1<=cs.length)(hl:cs.length<=8)(hp:zan cs<=1024)(hg:∀ i (h:i<c.gates.length),GOk cs i c.gates[i])(h4:c.gates.length<=4000):
  ∃ sets b,zbz c=some (sets,b)/\(b=true↔∀ j,j<zan cs->okD (dig cs j) c.gates []=true):=by
 obtain⟨rr,q1,q2⟩:=znp hc (by omega) hp;obtain⟨sets,b,r1,r2⟩:=ztV hc h1 hp q2 hg h4 (c.gates.length+2) 0 [] (λ_=>[]) true rfl (qaA _) (by omega) (λs hs=>nomatch hs) (λ_=>rfl) (λt j ht=>absurd ht (qaq _));refine⟨sets,b,?_,r2.trans ⟨λe=>e.2,λe=>⟨rfl,e⟩⟩⟩;unfold zbz;rw[e,q1,qab,zfW (by omega),qab];rw[show List.replicate c.gates.length z16=SS (List.replicate (c.gates.length - 0) zW) by rw[qce,SS,List.map_replicate]; rfl];exact r1
def zqc(i:Int):Int->List Int->Bool
 | _,[]=>true
 | b,a :: ar=>decide (b<a) && decide (a<i) && zqc i a ar
theorem zp6(g:S_api_Gate)(i:Int)(hl:g.args.length<4611686018427387904):∀(n k:Nat) (b:Int),k<=g.args.length->g.args.length - k<n ->
  zaQ g i n b (k:Int)=some (bif zqc i b (g.args.drop k)then .go ()else .ret false)
 | 0,_,_,_,h=>absurd h (qaq _)
 | n+1,k,b,h1,h2=>by
  unfold zaQ;rw[za3];by_cases hk:k<g.args.length
  .rw[qcG hk,qcE,zaq hk,qab,qan hk];simp only[zqc];by_cases h3:g.args[k]<=b
   .rw[qcG h3,qcE,qab,qcE,qcH (show ¬ b<g.args[k] by omega)]; rfl
   rw[qcH h3,qcF,qab,qcG (show b<g.args[k] by omega)];by_cases h4:i<=g.args[k]
   .rw[qcG h4,qcE,qcH (show ¬ g.args[k]<i by omega)]; rfl
   rw[qcH h4,qcF,qcG (show g.args[k]<i by omega),zak (by omega),zp6 g i hl n (k+1) _ hk (by omega)]; rfl
  rw[qcH hk,qcF,qas (by omega)]; rfl
theorem zrS(g:S_api_Gate)(i:Int)(hl:g.args.length<4611686018427387904):∀(n k:Nat) (b:Int),((k=0/\b = -1)\/(0<k/\0<=b/\zaH g.args ((k:Int) - 1)=some b))->k<=g.args.length->g.args.length - k<n ->
  zcD g i n (k:Int)=some (bif zqc i b (g.args.drop k)then .go ()else .ret false)
 | 0,_,_,_,_,h=>absurd h (qaq _)
 | n+1,k,b,hb,h1,h2=>by
  unfold zcD;rw[za3];by_cases hk:k<g.args.length
  .rw[qcG hk,qcE,zaq hk,qab,qan hk];simp only[zqc];have hb0:-1<=b:=by rcases hb with⟨_,h⟩| ⟨_,h,_⟩<;> omega
   by_cases h3:g.args[k]<0
   .rw[qcG h3,qcE,qab,qcE,qcH (show ¬ b<g.args[k] by omega)]; rfl
   rw[qcH h3,qcF];by_cases h4:i<=g.args[k]
   .rw[qcG h4,qcE,qab,qcE,qcH (show ¬ g.args[k]<i by omega),qby]; rfl
   rw[qcH h4,qcF,qcG (show g.args[k]<i by omega),qbG];have hr:=zrS g i hl n (k+1) g.args[k] (Or.inr ⟨by omega,by omega,by rw[show((k+1:Nat):Int) - 1=(k:Int) by omega,zaq hk]⟩) hk (by omega);rcases hb with⟨rfl,rfl⟩| ⟨hk0,hb1,hb2⟩
   .rw[qcH (show ¬ ((0:Int)<((0:Nat):Int)) by omega),qcF,qab,qcF,zak (by omega),hr,qcG (show(-1:Int)<g.args[0] by omega)]; rfl
   rw[qcG (show((0:Int)<(k:Int)) by omega),qcE,zfk (by omega) (by omega),hb2,qab,qab];by_cases h5:g.args[k]<=b
   .rw[qcG h5,qcE,qcH (show ¬ b<g.args[k] by omega)]; rfl
   rw[qcH h5,qcF,zak (by omega),hr,qcG (show b<g.args[k] by omega)]; rfl
  rw[qcH hk,qcF,qas (by omega)]; rfl
def zin(cards:List Int)(i:Int)(g:S_api_Gate):Bool:=
 bif g.kind == 1 then decide (0<=g.n) && (decide (g.n<=4611686018427387903) && ((g.var == 0) && ((g.val == 0) && ((g.args.length:Int)== 0))))
 else bif g.kind == 2 then decide (0<=g.var) && (decide (g.var<(cards.length:Int)) && (decide (0<=g.val) && (decide (g.val<cards.getD g.var.toNat 0) && ((g.n == 0) && ((g.args.length:Int)== 0)))))
 else bif (g.kind == 3 || g.kind == 4)then(g.var == 0) && ((g.val == 0) && ((g.n == 0) && (!((g.args.length:Int)== 0) && zqc i (-1) g.args)))
 else false
theorem zjS{cards:List Int}{v:Int}(h1:0<=v)(h2:v<(cards.length:Int)):zaH cards v=some (cards.getD v.toNat 0):=by
 unfold zaH;rw[if_pos h1,qak,qae (by omega)]; rfl
theorem zlz(c:S_api_Circuit)(i:Int)(g:S_api_Gate)(hl:g.args.length<4611686018427387904):zba c i g=some (zin c.cards i g):=by
 have hr:=zp6 g i hl (g.args.length+2) 0 (-1) (qaA _) (by omega);unfold zba zin;rw[zaB];rw[show((0:Nat):Int)=0 from rfl,qaP]at hr;rw[hr];cases h1:(g.kind == 1)with
 | true=>
  simp only[qcE];cases decide (0<=g.n)<;> cases decide (g.n<=4611686018427387903)<;> cases(g.var == 0)<;> cases(g.val == 0)<;> rfl
 | false=>
  simp only[qcF];cases h2:(g.kind == 2)with
  | true=>
   simp only[qcE];by_cases h3:0<=g.var
   .by_cases h4:g.var<(c.cards.length:Int)
    .rw[zjS h3 h4];simp only[qab];cases decide (0<=g.var)<;> cases decide (g.var<(c.cards.length:Int))<;> cases decide (0<=g.val)<;> cases decide (g.val<c.cards.getD g.var.toNat 0)<;> cases(g.n == 0)<;> rfl
    rw[qcH h4];cases decide (0<=g.var)<;> rfl
   .rw[qcH h3]; rfl
  | false=>
   simp only[qcF];cases(g.kind == 3)<;> cases(g.kind == 4)<;> cases(g.var == 0)<;> cases(g.val == 0)<;> cases(g.n == 0)<;> cases((g.args.length:Int)== 0)<;> cases zqc i (-1) g.args<;>rfl
theorem ztR(cards:List Int)(i:Int)(g:S_api_Gate)(hl:g.args.length<4611686018427387904):zdu g i cards=some (zin cards i g):=by
 have hr:=zrS g i hl (g.args.length+2) 0 (-1) (Or.inl ⟨rfl,rfl⟩) (qaA _) (by omega);unfold zdu zin;rw[zaB];rw[show((0:Nat):Int)=0 from rfl,qaP]at hr;rw[hr];cases h1:(g.kind == 1)with
 | true=>
  have h2:(g.kind == 2)=false:=by rw[beq_iff_eq.1 h1]; rfl
  simp only[qcE,h2,qcF];cases decide (0<=g.n)<;> cases decide (g.n<=4611686018427387903)<;> cases(g.var == 0)<;> cases(g.val == 0)<;> cases((g.args.length:Int)== 0)<;> rfl
 | false=>
  simp only[qcF];cases h2:(g.kind == 2)with
  | true=>
   simp only[qcE];by_cases h3:0<=g.var
   .by_cases h4:g.var<(cards.length:Int)
    .rw[zjS h3 h4];simp only[qab];cases decide (0<=g.var)<;> cases decide (g.var<(cards.length:Int))<;> cases decide (0<=g.val)<;> cases decide (g.val<cards.getD g.var.toNat 0)<;> cases(g.n == 0)<;> cases((g.args.length:Int)== 0)<;> rfl
    rw[qcH h4];cases decide (0<=g.var)<;> cases(g.n == 0)<;> rfl
   .rw[qcH h3];cases(g.n == 0)<;> rfl
  | false=>
   simp only[qcF];cases h3:(g.kind == 3)<;> cases(g.kind == 4)<;> cases(g.var == 0)<;> cases(g.val == 0)<;> cases(g.n == 0)<;> cases((g.args.length:Int)== 0)<;> cases zqc i (-1) g.args<;>rfl
def zqF(cs:List Int):Bool:=cs.all λc=>decide (1<=c) && decide (c<=4)
def prZ(cs:List Int):Int:=cs.foldr (· * ·) 1
theorem zr5{a b:Int}{k:Nat}(h1:1<=a)(h2:a<=(4:Int) ^ k)(h3:1<=b)(h4:b<=4)(hk:k<8):1<=a * b/\a * b<=(4:Int) ^ (k+1)/\a * b<=65536:=by
 have e1:a * b<=(4:Int) ^ k * 4:=Int.mul_le_mul h2 h4 (by omega) (Int.le_trans (by omega) h2);have e2:(4:Int) ^ k * 4=(4:Int) ^ (k+1):=(Int.pow_succ 4 k).symm;have e3:(1:Int)* 1<=a * b:=Int.mul_le_mul h1 h3 (by omega) (by omega);have e4:(4:Int) ^ (k+1)<=65536:=by
  have:k=0\/k=1\/k=2\/k=3\/k=4\/k=5\/k=6\/k=7:=by omega
  rcases this with rfl | rfl | rfl | rfl | rfl | rfl | rfl | rfl<;>decide
 rw[e2]at e1;exact⟨by omega,e1,by omega⟩
theorem zlK(c:S_api_Circuit)(hl:c.cards.length<=8):∀(n k:Nat) (a:Int),1<=a->a<=(4:Int) ^ k->k<=c.cards.length->c.cards.length - k<n ->
  zbl c n a (k:Int)=some (bif zqF (c.cards.drop k)then .go (a * prZ (c.cards.drop k))else .ret 150)
 | 0,_,_,_,_,_,h=>absurd h (qaq _)
 | n+1,k,a,ha,hb,h1,h2=>by
  unfold zbl;rw[za3];by_cases hk:k<c.cards.length
  .rw[qcG hk,qcE,zaq hk,qab,qan hk];unfold zqF prZ;rw[qa7,List.foldr_cons];by_cases h3:c.cards[k]<1
   .rw[qcG h3,qcE,qab,qcE,qcH (show ¬ 1<=c.cards[k] by omega)]; rfl
   rw[qcH h3,qcF,qab,qcG (show 1<=c.cards[k] by omega)];by_cases h4:4<c.cards[k]
   .rw[qcG h4,qcE,qcH (show ¬ c.cards[k]<=4 by omega)]; rfl
   obtain⟨p1,p2,p3⟩:=zr5 ha hb (show 1<=c.cards[k] by omega) (show c.cards[k]<=4 by omega) (by omega);rw[qcH h4,qcF,qcG (show c.cards[k]<=4 by omega),zak (by omega),zfk (by omega) (by omega),zlK c hl n (k+1) _ p1 p2 hk (by omega)];rw[Int.mul_assoc]; rfl
  rw[qcH hk,qcF,qas (by omega)];show some (Out.go a)=some (Out.go (a * 1));rw[Int.mul_one]
theorem zlW(cs:List Int)(hl:cs.length<=8):∀(n k:Nat) (a:Int),1<=a->a<=(4:Int) ^ k->k<=cs.length->cs.length - k<n ->
  zch cs n a (k:Int)=some (bif zqF (cs.drop k)then .go (a * prZ (cs.drop k))else .ret false)
 | 0,_,_,_,_,_,h=>absurd h (qaq _)
 | n+1,k,a,ha,hb,h1,h2=>by
  unfold zch;rw[za3];by_cases hk:k<cs.length
  .rw[qcG hk,qcE,zaq hk,qab,qab,qan hk];unfold zqF prZ;rw[qa7,List.foldr_cons];by_cases h3:cs[k]<1
   .rw[qcG h3,qcE,qab,qcE,qcH (show ¬ 1<=cs[k] by omega)]; rfl
   rw[qcH h3,qcF,qab,qcG (show 1<=cs[k] by omega)];by_cases h4:4<cs[k]
   .rw[qcG h4,qcE,qcH (show ¬ cs[k]<=4 by omega)]; rfl
   obtain⟨p1,p2,p3⟩:=zr5 ha hb (show 1<=cs[k] by omega) (show cs[k]<=4 by omega) (by omega);rw[qcH h4,qcF,qcG (show cs[k]<=4 by omega),zak (by omega),zfk (by omega) (by omega),zlW cs hl n (k+1) _ p1 p2 hk (by omega)];rw[Int.mul_assoc]; rfl
  rw[qcH hk,qcF,qas (by omega)];show some (Out.go a)=some (Out.go (a * 1));rw[Int.mul_one]
def zej(cards:List Int):Int->List S_api_Gate->Bool
 | _,[]=>true
 | i,g :: gs=>zin cards i g && zej cards (i+1) gs
theorem zmc(c:S_api_Circuit)(hl:c.gates.length<=4000)(ha:∀ g∈c.gates,g.args.length<4611686018427387904):∀(n k:Nat),k<=c.gates.length->c.gates.length - k<n ->
  zbj c n (k:Int)=some (bif zej c.cards (k:Int) (c.gates.drop k)then .go ()else .ret 150)
 | 0,_,_,h=>absurd h (qaq _)
 | n+1,k,h1,h2=>by
  unfold zbj;rw[za3];by_cases hk:k<c.gates.length
  .rw[qcG hk,qcE,zaq hk,qab,zlz _ _ _ (ha _ (qax hk)),qab,qan hk];simp only[zej];cases zin c.cards (k:Int) c.gates[k]with
   | false=>rfl
   | true=>rw[qcE,zak (by omega),zmc c hl ha n (k+1) hk (by omega)]; rfl
  rw[qcH hk,qcF,qas (by omega)]; rfl
theorem zlY(c:S_api_Circuit)(hl:c.gates.length<=4000)(ha:∀ g∈c.gates,g.args.length<4611686018427387904):∀(n k:Nat),k<=c.gates.length->c.gates.length - k<n ->
  zcm c n (k:Int)=some (bif zej c.cards (k:Int) (c.gates.drop k)then .go ()else .ret false)
 | 0,_,_,h=>absurd h (qaq _)
 | n+1,k,h1,h2=>by
  unfold zcm;rw[za3];by_cases hk:k<c.gates.length
  .rw[qcG hk,qcE,zaq hk,qab,ztR _ _ _ (ha _ (qax hk)),qab,qan hk];simp only[zej];cases zin c.cards (k:Int) c.gates[k]with
   | false=>rfl
   | true=>rw[qcE,zak (by omega),zlY c hl ha n (k+1) hk (by omega)]; rfl
  rw[qcH hk,qcF,qas (by omega)]; rfl
def zmC(cs:List Int):Bool:=decide (1<=cs.length) && decide (cs.length<=8) && zqF cs && decide (prZ cs<=1024)
def zkR(c:S_api_Circuit):Bool:=zmC c.cards && (decide (1<=c.gates.length) && decide (c.gates.length<=4000)) && zej c.cards 0 c.gates
theorem zqn(cs:List Int):zc6 cs=some (zmC cs):=by
 unfold zc6 zmC;by_cases h1:1<=cs.length
 .by_cases h2:cs.length<=8
  .have hr:=zlW cs h2 (cs.length+2) 0 1 (qbN _) (by decide) (qaA _) (by omega);rw[show((0:Nat):Int)=0 from rfl,qaP,Int.one_mul]at hr;rw[qcH (show ¬ (cs.length:Int)<1 by omega),qcF,qab,qcH (show ¬ 8<(cs.length:Int) by omega),qcF,zaB,hr,qcG h1,qcG h2];cases zqF cs<;>rfl
  rw[qcH (show ¬ (cs.length:Int)<1 by omega),qcF,qab,qcG (show 8<(cs.length:Int) by omega),qcE,qcH h2,qby]; rfl
 rw[qcG (show(cs.length:Int)<1 by omega),qcE,qab,qcE,qcH h1]; rfl
theorem ztp(c:S_api_Circuit)(ha:∀ g∈c.gates,g.args.length<4611686018427387904):zc2 c=some (zkR c):=by
 unfold zc2 zkR;rw[zqn,qab];cases zmC c.cards with
 | false=>rfl
 | true=>
  rw[qcE];by_cases h1:1<=c.gates.length
  .rw[qcH (show ¬ (c.gates.length:Int)<1 by omega),qcF,qab,qcG h1];by_cases h2:c.gates.length<=4000
   .have hr:=zlY c h2 ha (c.gates.length+2) 0 (qaA _) (by omega);rw[show((0:Nat):Int)=0 from rfl,qaP]at hr;rw[qcH (show ¬ 4000<(c.gates.length:Int) by omega),qcF,zaB,hr,qcG h2];cases zej c.cards 0 c.gates<;>rfl
   rw[qcG (show 4000<(c.gates.length:Int) by omega),qcE,qcH h2]; rfl
  rw[qcG (show(c.gates.length:Int)<1 by omega),qcE,qab,qcE,qcH h1]; rfl
theorem zs1(c:S_api_Circuit)(ha:∀ g∈c.gates,g.args.length<4611686018427387904):za9 c=some (bif zkR c then 0 else 150):=by
 unfold za9 zkR zmC;by_cases h1:1<=c.cards.length
 .rw[qcH (show ¬ (c.cards.length:Int)<1 by omega),qcF,qcG h1];by_cases h2:c.cards.length<=8
  .rw[qcH (show ¬ 8<(c.cards.length:Int) by omega),qcF,qcG h2];have hr:=zlK c h2 (c.cards.length+2) 0 1 (qbN _) (by decide) (qaA _) (by omega);rw[show((0:Nat):Int)=0 from rfl,qaP,Int.one_mul]at hr;by_cases h3:1<=c.gates.length
   .rw[qcH (show ¬ (c.gates.length:Int)<1 by omega),qcF,qab,qcG h3];by_cases h4:c.gates.length<=4000
    .rw[qcH (show ¬ 4000<(c.gates.length:Int) by omega),qcF,zaB,hr,qcG h4];cases zqF c.cards with
     | false=>rfl
     | true=>
      rw[qcE,qab];simp only;by_cases h5:prZ c.cards<=1024
      .have hq:=zmc c h4 ha (c.gates.length+2) 0 (qaA _) (by omega);rw[show((0:Nat):Int)=0 from rfl,qaP]at hq;rw[qcH (show ¬ 1024<prZ c.cards by omega),qcF,zaB,hq,qcG h5];cases zej c.cards 0 c.gates<;>rfl
      rw[qcG (show 1024<prZ c.cards by omega),qcE,qcH h5]; rfl
    rw[qcG (show 4000<(c.gates.length:Int) by omega),qcE,qcH h4,qby,qby]; rfl
   rw[qcG (show(c.gates.length:Int)<1 by omega),qcE,qab,qcE,qcH h3,Bool.false_and,qby]; rfl
  rw[qcG (show 8<(c.cards.length:Int) by omega),qcE,qab,qcE,qcH h2]; rfl
 rw[qcG (show(c.cards.length:Int)<1 by omega),qcE,qab,qcE,qcH h1]; rfl
structure COk (cs:List Nat) (c:S_api_Circuit):Prop where
 cards:c.cards=iL cs
 one:1<=cs.length
 len:cs.length<=8
 card:∀ k∈cs,1<=k/\k<=8
 prod:zan cs<=1024
 gone:1<=c.gates.length
 glen:c.gates.length<=4000
 gate:∀ i (h:i<c.gates.length),GOk cs i c.gates[i]
theorem zmd:∀ {cs:List Int},zqF cs=true->∃ ns:List Nat,cs=iL ns/\(∀ k∈ns,1<=k/\k<=8)/\prZ cs=(zan ns:Nat)
 | [],_=>⟨[],rfl,(λk h=>nomatch h),rfl⟩
 | c :: cs,h=>by
  unfold zqF at h;rw[qa7,qaf,qaf,qcK,qcK]at h;obtain⟨ns,rfl,h1,h2⟩:=zmd (cs:=cs) h.2;refine⟨c.toNat :: ns,?_,λk hk=>?_,?_⟩
  .simp only[iL,qaI,List.cons.injEq,and_true]; omega
  .rcases qbg.1 hk with rfl | hk
   .omega
   exact h1 k hk
  show c * prZ (iL ns)=((c.toNat * zan ns:Nat):Int);rw[h2,qcm,show((c.toNat:Nat):Int)=c by omega]
theorem zmw:∀ {ar:List Int} {i:Nat} {b:Int},-1<=b->zqc (i:Int) b ar=true->∃ ns:List Nat,ar=iL ns/\ns.Pairwise (· < ·)/\∀ a∈ns,a<i/\b<(a:Int)
 | [],i,b,_,_=>⟨[],rfl,List.Pairwise.nil,λa h=>nomatch h⟩
 | a :: ar,i,b,hb,h=>by
  simp only[zqc,qaf,qcK]at h;obtain⟨ns,rfl,h1,h2⟩:=zmw (ar:=ar) (b:=a) (by omega) h.2;refine⟨a.toNat :: ns,?_,qbR.2 ⟨λx hx=>?_,h1⟩,λx hx=>?_⟩
  .simp only[iL,qaI,List.cons.injEq,and_true]; omega
  .have:=(h2 x hx).2; omega
  rcases qbg.1 hx with rfl | hx
  .omega
  have:=h2 x hx; omega
theorem zq2{cs:List Nat}(h:zin (iL cs) (i:Int) g=true):GOk cs i g:=by
 obtain⟨kind,var,val,n,args⟩:=g;unfold zin at h;simp only at h;cases h1:(kind == 1)with
 | true=>
  rw[h1,qcE]at h;simp only[qaf,qcK,qcI]at h h1;obtain⟨g1,g2,rfl,rfl,g3⟩:=h;obtain rfl:args=[]:=qa5.1 (by omega);have:=GOk.num (cs:=cs) (i:=i) n.toNat (by omega);rw[show((n.toNat:Nat):Int)=n by omega]at this;rw[h1]; exact this
 | false=>
  rw[h1,qcF]at h;cases h2:(kind == 2)with
  | true=>
   rw[h2,qcE]at h;simp only[qaf,qcK,qcI]at h h2;obtain⟨g1,g2,g3,g4,rfl,g5⟩:=h;obtain rfl:args=[]:=qa5.1 (by omega);rw[zaV]at g2;have hv:var.toNat<cs.length:=by omega
   have e:(iL cs).getD var.toNat 0=((cs.getD var.toNat 0:Nat):Int):=by
    rw[zax (by rw[zaV]; exact hv),zry hv,zax hv]
   have:=GOk.is (cs:=cs) (i:=i) var.toNat val.toNat hv (by rw[e]at g4; omega);rw[show((var.toNat:Nat):Int)=var by omega,show((val.toNat:Nat):Int)=val by omega]at this;rw[h2]; exact this
  | false=>
   rw[h2,qcF]at h;cases h3:(kind == 3 || kind == 4)with
   | true=>
    rw[h3,qcE]at h;simp only[qaf,qcI,qbh]at h h3;obtain⟨rfl,rfl,rfl,g1,g2⟩:=h;obtain⟨ns,rfl,g3,g4⟩:=zmw (by omega) g2;refine GOk.op kind h3 ns ?_ g3 λa ha=>(g4 a ha).1
    rintro rfl;exact absurd g1 (by decide)
   | false=>rw[h3,qcF]at h; exact absurd h (by decide)
theorem zkE{cs:List Nat}:∀ {gs:List S_api_Gate} {i:Nat},zej (iL cs) (i:Int) gs=true->∀ k (h:k<gs.length),GOk cs (i+k) gs[k]
 | [],_,_,k,h=>absurd h (qaq _)
 | g :: gs,i,h,0,_=>by
  simp only[zej,qaf]at h;exact zq2 h.1
 | g :: gs,i,h,k+1,hk=>by
  simp only[zej,qaf]at h;have:=zkE (gs:=gs) (i:=i+1) h.2 k (by simpa using hk);rw[show i+(k+1)=i+1+k by omega];exact this
variable{c:S_api_Circuit}
theorem zrf(h:zkR c=true):∃ cs,COk cs c:=by
 unfold zkR zmC at h;simp only[qaf,qcK]at h;obtain⟨⟨⟨⟨⟨h1,h2⟩,h3⟩,h4⟩,h5,h6⟩,h7⟩:=h;obtain⟨ns,e,g1,g2⟩:=zmd h3;refine⟨ns,e,?_,?_,g1,?_,h5,h6,λi hi=>?_⟩
 .rw[e,zaV]at h1; exact h1
 .rw[e,zaV]at h2; exact h2
 .omega
 rw[e]at h7;have:=zkE (i:=0) h7 i hi;rw[qaT]at this;exact this
theorem GOk.ar{cs:List Nat}{i:Nat}{g:S_api_Gate}(h:GOk cs i g):∃ ar:List Nat,g.args=iL ar/\(∀ a∈ar,a<i)/\ar.length<=i:=by
 cases h with
 | num n h=>exact⟨[],rfl,(λa h=>nomatch h),qaA _⟩
 | is v x hv hx=>exact⟨[],rfl,(λa h=>nomatch h),qaA _⟩
 | op k hk ar ne inc lt=>exact⟨ar,rfl,lt,by have:=ziA (b:=0) inc λa h=>⟨qaA _,lt a h⟩; omega⟩
def vw(acc:List Nat)(g:S_api_Gate):Nat:=g.args.foldl (λs a=>s ||| acc.getD a.toNat 0) (bif g.kind == 2 then 2 ^ g.var.toNat else 0)
def zpT:List S_api_Gate->List Nat->List Nat
 | [],acc=>acc
 | g :: gs,acc=>zpT gs (acc ++ [vw acc g])
theorem fold_congr{acc acc':List Nat}:∀(ar:List Nat) (s:Nat),(∀ a∈ar,acc.getD a 0=acc'.getD a 0)->(iL ar).foldl (λs a=>s ||| acc.getD a.toNat 0) s=(iL ar).foldl (λs a=>s ||| acc'.getD a.toNat 0) s
 | [],_,_=>rfl
 | a :: ar,s,h=>by
  show(iL ar).foldl _ (s ||| acc.getD a 0)=(iL ar).foldl _ (s ||| acc'.getD a 0);rw[h a qaB];exact fold_congr ar _ λx hx=>h x (qav _ hx)
theorem zqC{acc acc':List Nat}{ar:List Nat}(e:g.args=iL ar)(h:∀ a∈ar,acc.getD a 0=acc'.getD a 0):vw acc g=vw acc' g:=by
 unfold vw;rw[e];exact fold_congr ar _ h
theorem zk6{acc:List Nat}(h:∀ w∈acc,w<U64):∀(ar:List Nat) (s:Nat),s<U64->(iL ar).foldl (λs a=>s ||| acc.getD a.toNat 0) s<U64
 | [],_,hs=>hs
 | a :: ar,s,hs=>by
  show(iL ar).foldl _ (s ||| acc.getD a 0)<U64;refine zk6 h ar _ (qbx (n:=64) hs ?_);rw[qak];by_cases ha:a<acc.length
  .rw[qae ha]; exact h _ (qax ha)
  rw[qaJ (by omega)]; decide
theorem zwo{cs:List Nat}(hc:cs.length<=8){acc:List Nat}(h:∀ w∈acc,w<U64)(hg:GOk cs i g):vw acc g<U64:=by
 unfold vw;cases hg with
 | num n h=>exact(by decide:(0:Nat)<U64)
 | is v x hv hx=>
  show 2 ^ ((v:Nat):Int).toNat<U64;rw[qaH];exact qbF (n:=64) (by decide) (by omega)
 | op k hk ar ne inc lt=>
  rcases hk with rfl | rfl
  .exact zk6 h ar 0 (by decide)
  exact zk6 h ar 0 (by decide)
theorem zrX{ys:List α}{d:α}(h:i<xs.length):(xs ++ ys).getD i d=xs.getD i d:=by
 rw[qak,qaj h,<- qak]
theorem zoK{cs:List Nat}(hc:cs.length<=8):∀(gs:List S_api_Gate) (acc:List Nat),(∀ w∈acc,w<U64)->(∀ k (h:k<gs.length),GOk cs (acc.length+k) gs[k])->
  (zpT gs acc).length=acc.length+gs.length/\(∀ t,t<acc.length->(zpT gs acc).getD t 0=acc.getD t 0)/\(∀ w∈zpT gs acc,w<U64)/\∀ k (h:k<gs.length),(zpT gs acc).getD (acc.length+k) 0=vw (zpT gs acc) gs[k]
 | [],acc,hw,_=>⟨rfl,λ_ _=>rfl,hw,λk h=>absurd h (qaq _)⟩
 | g :: gs,acc,hw,hg=>by
  have h0:GOk cs acc.length g:=hg 0 (Nat.succ_pos _);have hw':∀ w∈acc ++ [vw acc g],w<U64:=λw hm=>by
   rcases qbr.1 hm with hm | hm
   .exact hw w hm
   rw[qbE.1 hm]; exact zwo hc hw h0
  have hl:(acc ++ [vw acc g]).length=acc.length+1:=by simp
  obtain⟨a1,a2,a3,a4⟩:=zoK hc gs (acc ++ [vw acc g]) hw' λk h=>by
   have:=hg (k+1) (by simpa using h);rw[hl,show acc.length+1+k=acc.length+(k+1) by omega];exact this
  refine⟨?_,λt ht=>?_,a3,λk hk=>?_⟩
  .show(zpT gs (acc ++ [vw acc g])).length=_;rw[a1,hl,qaS]; omega
  .show(zpT gs (acc ++ [vw acc g])).getD t 0=_;rw[a2 t (by omega),zrX ht]
  show(zpT gs (acc ++ [vw acc g])).getD _ 0=vw (zpT gs (acc ++ [vw acc g])) _;cases k with
  | zero=>
   rw[qbo,a2 acc.length (by omega),qak,qap (qam _),qcg];show vw acc g=vw _ g;obtain⟨ar,e,q,_⟩:=GOk.ar h0;refine zqC e λa ha=>?_
   have:=q a ha;rw[a2 a (by omega),zrX (by omega)]
  | succ k=>
   have:=a4 k (by simpa using hk);rw[hl,show acc.length+1+k=acc.length+(k+1) by omega]at this;exact this
structure VOk (gs:List S_api_Gate) (V:List Nat):Prop where
 len:V.length=gs.length
 lt:∀ w∈V,w<U64
 get:∀ k (h:k<gs.length),V.getD k 0=vw V gs[k]
theorem COk.vars{cs:List Nat}(h:COk cs c):∃ V,VOk c.gates V:=by
 obtain⟨a1,_,a3,a4⟩:=zoK h.len c.gates [] (λw h=>nomatch h) λk hk=>by
  rw[qaV,qaT]; exact h.gate k hk
 refine⟨zpT c.gates [],by rw[a1,qaV,qaT],a3,λk hk=>?_⟩;have:=a4 k hk;rw[qaV,qaT]at this;exact this
theorem VOk.lt'{gs:List S_api_Gate}{V:List Nat}(h:VOk gs V)(a:Nat):V.getD a 0<U64:=by
 rw[qak];by_cases ha:a<V.length
 .rw[qae ha]; exact h.lt _ (qax ha)
 rw[qaJ (by omega)]; decide
variable{a:Nat}
theorem VOk.zsW{gs:List S_api_Gate}{V:List Nat}(h:VOk gs V)(ha:a<gs.length):zaH (iL V) (a:Int)=some ((V.getD a 0:Nat):Int):=by
 have ha':a<V.length:=by rw[h.len]; exact ha
 rw[zbI ha',zax ha']
theorem zmz{gs:List S_api_Gate}{V:List Nat}(hV:VOk gs V){i:Nat}(hi:i<=gs.length)(h4:gs.length<=4000){g:S_api_Gate}{ar:List Nat}(e:g.args=iL ar)(hl:ar.length<=i)(ha:∀ a∈ar,a<i):∀(n k:Nat) (s:Nat),s<U64->k<=ar.length->ar.length - k<n ->
  zbk g (iL (V.take i)) n (s:Int) (k:Int)=some (((iL (ar.drop k)).foldl (λs a=>s ||| V.getD a.toNat 0) s:Nat):Int)
 | 0,_,_,_,_,h=>absurd h (qaq _)
 | n+1,k,s,hs,h1,h2=>by
  unfold zbk;rw[e,zaV,za3];by_cases hk:k<ar.length
  .have h3:=ha _ (qax hk);have h5:ar[k]<(V.take i).length:=by rw[qaQ,hV.len]; omega
   have h6:zaH (iL (V.take i)) ((ar[k]:Nat):Int)=some ((V.getD ar[k] 0:Nat):Int):=by
    rw[zbI h5,List.getElem_take,zax (by rw[hV.len]; omega)]
   rw[qcG hk,qcE,zbI hk,qab,h6,qab,orU hs (hV.lt' _),zak (by omega),
    zmz hV hi h4 e hl ha n (k+1) _ (qbx (n:=64) hs (hV.lt' _)) hk (by omega),qan hk]
   rfl
  rw[qcH hk,qcF,qas (by omega)]; rfl
theorem zkd{V:List Nat}(h:i<V.length):V.take (i+1)=V.take i ++ [V.getD i 0]:=by
 rw[List.take_add_one,qae h,zax h]; rfl
theorem zpb{v:Nat}(hv:v<8):zny .u64 1 (v:Int)=some ((2 ^ v:Nat):Int)/\IntKind.u64.wrap (v:Int)=(v:Int):=⟨zwp (by omega),zgs (by omega)⟩
theorem zmh{cs:List Nat}{c:S_api_Circuit}(hc:COk cs c){V:List Nat}(hV:VOk c.gates V):∀(n i:Nat),i<=c.gates.length->c.gates.length - i<n ->
  zbi c n (i:Int) (iL (V.take i))=some (iL V)
 | 0,_,_,h=>absurd h (qaq _)
 | n+1,i,h1,h2=>by
  have h4:=hc.glen;unfold zbi;rw[za3];by_cases hi:i<c.gates.length
  .have hg:=hc.gate i hi;obtain⟨ar,e,ha,hl⟩:=hg.ar;have hv:=hV.get i hi;rw[qcG hi,qcE,zaq hi,qab];have hs:∃ s:Nat,s<U64/\((bif (c.gates[i].kind == 2)then(zny .u64 1 (IntKind.u64.wrap c.gates[i].var)).bind λq5=>some q5 else some 0):Option Int)=some (s:Int)/\s=(bif c.gates[i].kind == 2 then 2 ^ c.gates[i].var.toNat else 0):=by
    generalize c.gates[i]=g at hg;have hh:=hc.len;cases hg with
    | num n h=>exact⟨0,by decide,rfl,rfl⟩
    | is v x hv hx=>
     obtain⟨s1,s2⟩:=zpb (v:=v) (by omega);refine⟨2 ^ v,qbF (n:=64) (by decide) (by omega),?_,?_⟩
     .show(zny .u64 1 (IntKind.u64.wrap (v:Int))).bind _=_;rw[s2,s1]; rfl
     .show 2 ^ v=2 ^ ((v:Nat):Int).toNat;rw[qaH]
    | op k hk ar ne inc lt=>
     rcases hk with rfl | rfl
     .exact⟨0,by decide,rfl,rfl⟩
     exact⟨0,by decide,rfl,rfl⟩
   obtain⟨s,hs1,hs2,hs3⟩:=hs;have hr:=zmz hV h1 h4 e hl ha (ar.length+2) 0 s hs1 (qaA _) (by omega);rw[show((0:Nat):Int)=0 from rfl,qaP]at hr;rw[hs2,qab,show c.gates[i].args.length=ar.length by rw[e,zaV],zaB,hr,qab];unfold vw at hv;rw[e,<- hs3]at hv;have hlt:i<V.length:=by rw[hV.len]; exact hi
   rw[<- hv,zdq (by rw[zaV,qaQ,qaW]; omega),qab,zak (by omega)];have:=zmh hc hV n (i+1) hi (by omega);rw[zkd hlt]at this;simpa [iL]using this
  rw[qcH hi,qcF,qaM (by rw[hV.len]; omega)]
theorem zph{cs:List Nat}(hc:COk cs c){V:List Nat}(hV:VOk c.gates V):zbu c=some (iL V):=by
 have:=zmh hc hV (c.gates.length+2) 0 (qaA _) (by omega);unfold zbu;rw[zaB];rw[show((0:Nat):Int)=0 from rfl,qbU]at this;rw[show([]:List Int)=iL []from rfl,this]; rfl
theorem zkg{b:Nat}(ha:a<U64)(hb:b<U64):zbM [(a:Int),(b:Int)]=some ((a ||| b:Nat):Int):=by
 unfold zbM;show(zbd [(a:Int),(b:Int)] 4 0 0).bind _=_;have e1:zbd [(a:Int),(b:Int)] 4 0 0=some (orI .u64 (orI .u64 0 (a:Int)) (b:Int)):=by
  simp only[zbd];rfl
 rw[e1,qab,show(0:Int)=((0:Nat):Int)from rfl,orU (by decide) ha,Nat.zero_or,orU ha hb]
theorem zmu{gs:List S_api_Gate}{V:List Nat}(hV:VOk gs V){i:Nat}(hi:i<gs.length)(h4:gs.length<=4000){c:S_api_Circuit}{g:S_api_Gate}{ar:List Nat}(e:g.args=iL ar)(hl:ar.length<=i)(ha:∀ a∈ar,a<i)(zs:List Nat):∀(n k:Nat) (s:Nat),s<U64->k<=ar.length->ar.length - k<n ->
  zaM g (i:Int) c n (k:Int) (iL (V.take i ++ s :: zs))=some (iL (V.take i ++ ((iL (ar.drop k)).foldl (λs a=>s ||| V.getD a.toNat 0) s):: zs))
 | 0,_,_,_,_,h=>absurd h (qaq _)
 | n+1,k,s,hs,h1,h2=>by
  have hti:(V.take i).length=i:=by rw[qaQ,hV.len]; omega
  unfold zaM;rw[e,zaV,za3];by_cases hk:k<ar.length
  .have h3:=ha _ (qax hk);have h6:zaH (iL (V.take i ++ s :: zs)) ((ar[k]:Nat):Int)=some ((V.getD ar[k] 0:Nat):Int):=by
    rw[zbI (by simp[hti]; omega),List.getElem_append_left (by omega),List.getElem_take,zax (by rw[hV.len]; omega)]
   rw[qcG hk,qcE,zbI hk,qab,zcg hti,qab,h6,qab,zkg hs (hV.lt' _),qab,zdN hti,qab,zak (by omega),
    zmu hV hi h4 e hl ha zs n (k+1) _ (qbx (n:=64) hs (hV.lt' _)) hk (by omega),qan hk]
   rfl
  rw[qcH hk,qcF,qas (by omega)]; rfl
theorem zmi{cs:List Nat}{c:S_api_Circuit}(hc:COk cs c){V:List Nat}(hV:VOk c.gates V):∀(n i:Nat),i<=c.gates.length->c.gates.length - i<n ->
  zaR c n (i:Int) (iL (V.take i ++ List.replicate (c.gates.length - i) 0))=some (iL V)
 | 0,_,_,h=>absurd h (qaq _)
 | n+1,i,h1,h2=>by
  have h4:=hc.glen;unfold zaR;rw[za3];by_cases hi:i<c.gates.length
  .have hti:(V.take i).length=i:=by rw[qaQ,hV.len]; omega
   obtain⟨m,hm⟩:∃ m,c.gates.length - i=m+1:=⟨c.gates.length - i - 1,by omega⟩;have hg:=hc.gate i hi;obtain⟨ar,e,ha,hl⟩:=hg.ar;have hv:=hV.get i hi;rw[qcG hi,qcE,zaq hi,qab,hm,qbc];have hs:∃ s:Nat,s<U64/\((bif (c.gates[i].kind == 2)then(zny .u64 1 c.gates[i].var).bind λq7=>(zaH (iL (V.take i ++ 0 :: List.replicate m 0)) (i:Int)).bind λx9=>(zfU (iL (V.take i ++ 0 :: List.replicate m 0)) (i:Int) q7).bind λy11=>some y11 else some (iL (V.take i ++ 0 :: List.replicate m 0))):Option (List Int))=some (iL (V.take i ++ s :: List.replicate m 0))/\s=(bif c.gates[i].kind == 2 then 2 ^ c.gates[i].var.toNat else 0):=by
    generalize c.gates[i]=g at hg;have hh:=hc.len;cases hg with
    | num n h=>exact⟨0,by decide,rfl,rfl⟩
    | is v x hv hx=>
     obtain⟨s1,s2⟩:=zpb (v:=v) (by omega);refine⟨2 ^ v,qbF (n:=64) (by decide) (by omega),?_,?_⟩
     .show(zny .u64 1 (v:Int)).bind (λq7=>(zaH (iL (V.take i ++ 0 :: List.replicate m 0)) (i:Int)).bind λx9=>(zfU (iL (V.take i ++ 0 :: List.replicate m 0)) (i:Int) q7).bind λy11=>some y11)=_;rw[s1,qab,zcg hti,qab,zdN hti]; rfl
     .show 2 ^ v=2 ^ ((v:Nat):Int).toNat;rw[qaH]
    | op k hk ar ne inc lt=>
     rcases hk with rfl | rfl
     .exact⟨0,by decide,rfl,rfl⟩
     exact⟨0,by decide,rfl,rfl⟩
   obtain⟨s,hs1,hs2,hs3⟩:=hs;have hr:=zmu (c:=c) hV hi h4 e hl ha (List.replicate m 0) (ar.length+2) 0 s hs1 (qaA _) (by omega);rw[show((0:Nat):Int)=0 from rfl,qaP]at hr;rw[hs2,qab,show c.gates[i].args.length=ar.length by rw[e,zaV],zaB,hr,qab];unfold vw at hv;rw[e,<- hs3]at hv;have hlt:i<V.length:=by rw[hV.len]; exact hi
   rw[<- hv,zak (by omega)];have:=zmi hc hV n (i+1) hi (by omega);rw[zkd hlt,show c.gates.length - (i+1)=m by omega,qbe]at this;exact this
  rw[qcH hi,qcF,qaM (by rw[hV.len]; omega),show c.gates.length - i=0 by omega];simp
theorem ztn{cs:List Nat}(hc:COk cs c){V:List Nat}(hV:VOk c.gates V):za8 c=some (iL V):=by
 have h4:=hc.glen;have:=zmi hc hV (c.gates.length+2) 0 (qaA _) (by omega);unfold za8;rw[zfW (by omega),qab,zaB,<- znX];rw[show((0:Nat):Int)=0 from rfl,qbU,qce]at this;rw[show(iL (List.replicate c.gates.length 0))=iL ([]++ List.replicate c.gates.length 0)from rfl,this]; rfl
def ga(g:S_api_Gate):List Nat:=g.args.map Int.toNat
theorem zsG{ar:List Nat}(e:g.args=iL ar):ga g=ar:=by
 unfold ga;rw[e];simp[iL,qct]
def zgS:Nat->List Nat->Bool
 | _,[]=>true
 | m,w :: l=>(w &&& m == 0) && zgS (m ||| w) l
def smG(V:List Nat)(g:S_api_Gate):Bool:=bif g.kind == 3 then(ga g).all (λa=>V.getD a 0 == V.getD ((ga g).headD 0) 0)else true
def dcG(V:List Nat)(g:S_api_Gate):Bool:=bif g.kind == 3 then true else zgS 0 ((ga g).map λa=>V.getD a 0)
theorem zjE{gs:List S_api_Gate}{V:List Nat}(hV:VOk gs V)(h4:gs.length<=4000){g:S_api_Gate}(hk:(g.kind == 3)=true){ar:List Nat}(e:g.args=iL ar)(ne:ar≠[])(ha:∀ a∈ar,a<gs.length)(hl:ar.length<=4000)(dc:Bool):∀(n k:Nat) (sm:Bool) (met:Nat),met<U64->k<=ar.length->ar.length - k<n ->
  zaG g (iL V) n sm dc (met:Int) (k:Int)=some (sm && (ar.drop k).all (λa=>V.getD a 0 == V.getD (ar.headD 0) 0),dc)
 | 0,_,_,_,_,_,h=>absurd h (qaq _)
 | n+1,k,sm,met,hm,h1,h2=>by
  unfold zaG;rw[e,zaV,za3];by_cases hlt:k<ar.length
  .have h0:0<ar.length:=by omega
   have e0:ar.headD 0=ar[0]:=by
    cases ar with
    | nil=>exact absurd rfl ne
    | cons a l=>rfl
   have h3:=ha _ (qax hlt);have h5:=ha _ (qax h0);rw[qcG hlt,qcE,zbI hlt,qab,hk,qcE,hV.zsW h3,qab,qan hlt,qa7,e0];have hr:=λb:Bool=>zjE hV h4 hk e ne ha hl dc n (k+1) b (met ||| V.getD ar[k] 0) (qbx (n:=64) hm (hV.lt' _)) hlt (by omega)
   rw[e0]at hr;cases sm with
   | true=>
    rw[qcE,show(0:Int)=((0:Nat):Int)from rfl,zbI h0,qab,hV.zsW h5,qab,qab];simp only;rw[qab,zkg hm (hV.lt' _),qab,zak (by omega),hr,zv1,qa0]
   | false=>
    rw[qcF,qab];simp only;rw[qab,zkg hm (hV.lt' _),qab,zak (by omega),hr];rfl
  rw[qcH hlt,qcF,qas (by omega)];cases sm<;>rfl
theorem zkv{gs:List S_api_Gate}{V:List Nat}(hV:VOk gs V)(h4:gs.length<=4000){g:S_api_Gate}(hk:(g.kind == 3)=false){ar:List Nat}(e:g.args=iL ar)(ha:∀ a∈ar,a<gs.length)(hl:ar.length<=4000)(sm:Bool):∀(n k:Nat) (dc:Bool) (met:Nat),met<U64->k<=ar.length->ar.length - k<n ->
  zaG g (iL V) n sm dc (met:Int) (k:Int)=some (sm,dc && zgS met ((ar.drop k).map λa=>V.getD a 0))
 | 0,_,_,_,_,_,h=>absurd h (qaq _)
 | n+1,k,dc,met,hm,h1,h2=>by
  unfold zaG;rw[e,zaV,za3];by_cases hlt:k<ar.length
  .have h3:=ha _ (qax hlt);rw[qcG hlt,qcE,zbI hlt,qab,hk,qcF,hV.zsW h3,qab,qan hlt,qaI];have hr:=λb:Bool=>zkv hV h4 hk e ha hl sm n (k+1) b (met ||| V.getD ar[k] 0) (qbx (n:=64) hm (hV.lt' _)) hlt (by omega)
   simp only[zgS];cases dc with
   | true=>
    rw[qcE,qab];simp only;rw[qab,zkg hm (hV.lt' _),qab,zak (by omega),hr,zvs (hV.lt' _) hm,zgt,qa0]
   | false=>
    rw[qcF,qab];simp only;rw[qab,zkg hm (hV.lt' _),qab,zak (by omega),hr];rfl
  rw[qcH hlt,qcF,qas (by omega)];cases dc<;>rfl
theorem GOk.ne{cs:List Nat}{i:Nat}{g:S_api_Gate}(hg:GOk cs i g){ar:List Nat}(e:g.args=iL ar)(hk:(g.kind == 3)=true):ar≠[]:=by
 rintro rfl;cases hg with
 | num n h=>exact absurd hk (by decide:¬ ((1:Int)== 3)=true)
 | is v x hv hx=>exact absurd hk (by decide:¬ ((2:Int)== 3)=true)
 | op k hk ar ne inc lt=>exact ne (List.map_eq_nil_iff.1 e)
theorem zma{cs:List Nat}{c:S_api_Circuit}(hc:COk cs c){V:List Nat}(hV:VOk c.gates V):∀(n i:Nat) (sm dc:Bool),i<=c.gates.length->c.gates.length - i<n ->
  zbm c (iL V) n sm dc (i:Int)=some (sm && (c.gates.drop i).all (smG V),dc && (c.gates.drop i).all (dcG V))
 | 0,_,_,_,_,h=>absurd h (qaq _)
 | n+1,i,sm,dc,h1,h2=>by
  have h4:=hc.glen;unfold zbm;rw[za3];by_cases hi:i<c.gates.length
  .have hg:=hc.gate i hi;obtain⟨ar,e,ha,hl⟩:=hg.ar;have ha':∀ a∈ar,a<c.gates.length:=λa h=>Nat.lt_trans (ha a h) hi
   have hq:zaG c.gates[i] (iL V) (((c.gates[i].args.length:Int) - 0+2:Int).toNat) sm dc 0 0=some (sm && smG V c.gates[i],dc && dcG V c.gates[i]):=by
    rw[zaB,e,zaV];unfold smG dcG;rw[zsG e];cases hk:(c.gates[i].kind == 3)with
    | true=>
     have ne:=hg.ne e hk;have:=zjE hV h4 hk e ne ha' (by omega) dc (ar.length+2) 0 sm 0 (by decide) (qaA _) (by omega);rw[qaP]at this;rw[qcE,qcE,qbG];exact this
    | false=>
     have:=zkv hV h4 hk e ha' (by omega) sm (ar.length+2) 0 dc 0 (by decide) (qaA _) (by omega);rw[qaP]at this;rw[qcF,qcF,qbG];exact this
   rw[qcG hi,qcE,zaq hi,qab,hq,qab];simp only;rw[zak (by omega),zma hc hV n (i+1) _ _ hi (by omega),qan hi,qa7,qa7,Bool.and_assoc,Bool.and_assoc]
  rw[qcH hi,qcF,qas (by omega)];cases sm<;>cases dc<;>rfl
theorem zlG{V:List Nat}{w:Nat}:∀(ar:List Nat) (s:Nat),(∀ a∈ar,V.getD a 0=w)->ar≠[]->(iL ar).foldl (λs a=>s ||| V.getD a.toNat 0) s=s ||| w
 | [],_,_,h=>absurd rfl h
 | [a],s,h,_=>by
  show s ||| V.getD a 0=s ||| w;rw[h a qaB]
 | a :: b :: l,s,h,_=>by
  show(iL (b :: l)).foldl _ (s ||| V.getD a 0)=s ||| w;rw[zlG (b :: l) _ (λx hx=>h x (qav _ hx)) (List.cons_ne_nil _ _),h a qaB,Nat.or_assoc,Nat.or_self]
theorem zn7{gs:List S_api_Gate}{V:List Nat}{ar:List Nat}(hk:(g.kind == 3)=true)(e:g.args=iL ar)(ne:ar≠[])(hv:V.getD i 0=vw V g):
  ar.all (λa=>V.getD a 0 == V.getD i 0)=ar.all (λa=>V.getD a 0 == V.getD (ar.headD 0) 0):=by
 have hh:ar.headD 0∈ar:=by
  cases ar with
  | nil=>exact absurd rfl ne
  | cons a l=>exact qaB
 have h2:(g.kind == 2)=false:=by rw[beq_iff_eq.1 hk]; rfl
 unfold vw at hv;rw[h2,qcF,e]at hv;rw[qbD,qa1,qa1];constructor
 .intro h a ha;rw[beq_iff_eq.1 (h a ha),beq_iff_eq.1 (h _ hh)];exact qcL _
 intro h a ha;rw[hv,zlG (w:=V.getD (ar.headD 0) 0) ar 0 (λa ha=>beq_iff_eq.1 (h a ha)) ne,Nat.zero_or];exact h a ha
theorem zjv{c:S_api_Circuit}{V:List Nat}(hV:VOk c.gates V)(h4:c.gates.length<=4000){i:Nat}(hi:i<c.gates.length){ar:List Nat}(e:c.gates[i].args=iL ar)(ha:∀ a∈ar,a<c.gates.length)(hl:ar.length<=4000):∀(n k:Nat),k<=ar.length->ar.length - k<n ->
  zb2 c (i:Int) (iL V) n (k:Int)=some (bif (bif c.gates[i].kind == 3 then(ar.drop k).all (λa=>V.getD a 0 == V.getD i 0)else true)then .go ()else .ret false)
 | 0,_,_,h=>absurd h (qaq _)
 | n+1,k,h1,h2=>by
  unfold zb2;rw[zaq hi,qab,e,zaV,za3];by_cases hlt:k<ar.length
  .have h3:=ha _ (qax hlt);have hr:=zjv hV h4 hi e ha hl n (k+1) hlt (by omega);rw[qcG hlt,qcE];cases hk:(c.gates[i].kind == 3)with
   | true=>
    rw[hk,qcE]at hr;rw[qcE,qcE,zbI hlt,qab,hV.zsW h3,qab,hV.zsW hi,qab,qab,zv1,qan hlt,qa7];cases hb:(V.getD ar[k] 0 == V.getD i 0)with
    | false=>rfl
    | true=>rw[qaZ,qcF,zak (by omega),hr,qa0]
   | false=>
    rw[hk,qcF]at hr;rw[qcF,qcF,qab,qcF,zak (by omega),hr]
  rw[qcH hlt,qcF,qas (by omega)];cases(c.gates[i].kind == 3)<;> rfl
theorem zko{cs:List Nat}{c:S_api_Circuit}(hc:COk cs c){V:List Nat}(hV:VOk c.gates V):∀(n i:Nat),i<=c.gates.length->c.gates.length - i<n ->
  zb1 c (iL V) n (i:Int)=some (bif (c.gates.drop i).all (smG V)then .go ()else .ret false)
 | 0,_,_,h=>absurd h (qaq _)
 | n+1,i,h1,h2=>by
  have h4:=hc.glen;unfold zb1;rw[za3];by_cases hi:i<c.gates.length
  .have hg:=hc.gate i hi;obtain⟨ar,e,ha,hl⟩:=hg.ar;have ha':∀ a∈ar,a<c.gates.length:=λa h=>Nat.lt_trans (ha a h) hi
   have hr:=zjv hV h4 hi e ha' (by omega) (ar.length+2) 0 (qaA _) (by omega);have hs:(bif c.gates[i].kind == 3 then(ar.drop 0).all (λa=>V.getD a 0 == V.getD i 0)else true)=smG V c.gates[i]:=by
    unfold smG;rw[zsG e,qaP];cases hk:(c.gates[i].kind == 3)with
    | true=>rw[qcE,qcE,zn7 (gs:=c.gates) hk e (hg.ne e hk) (hV.get i hi)]
    | false=>rfl
   rw[hs,show((0:Nat):Int)=0 from rfl]at hr;rw[qcG hi,qcE,zaq hi,qba,zaB,e,zaV,hr,qan hi,qa7];cases smG V c.gates[i]with
   | false=>rfl
   | true=>
    rw[qcE,qab];simp only;rw[zak (by omega),zko hc hV n (i+1) hi (by omega),qa0]
  rw[qcH hi,qcF,qas (by omega)]; rfl
theorem zq8{cs:List Nat}(hc:COk cs c){V:List Nat}(hV:VOk c.gates V):zcN c=some (c.gates.all (smG V)):=by
 have:=zko hc hV (c.gates.length+2) 0 (qaA _) (by omega);unfold zcN;rw[zph hc hV,qab,zaB];rw[show((0:Nat):Int)=0 from rfl,qaP]at this;rw[this];cases c.gates.all (smG V)<;> rfl
def zk3(V:List Nat)(pre:List Nat):List Nat->Bool
 | []=>true
 | a :: l=>pre.all (λb=>V.getD a 0 &&& V.getD b 0 == 0) && zk3 V (pre ++ [a]) l
theorem zmo{V:List Nat}(w:Nat):∀(pre:List Nat) (s:Nat),(w &&& pre.foldl (λs b=>s ||| V.getD b 0) s == 0)=((w &&& s == 0) && pre.all λb=>w &&& V.getD b 0 == 0)
 | [],s=>by simp
 | b :: pre,s=>by
  rw[qbL,zmo w pre,qa7,<- Bool.and_assoc];congr 1
  rw[Nat.and_or_distrib_left,qbD,qaf,qcI,qcI,qcI,Nat.or_eq_zero_iff]
theorem zlC{V:List Nat}:∀(l pre:List Nat),zgS (pre.foldl (λs b=>s ||| V.getD b 0) 0) (l.map λa=>V.getD a 0)=zk3 V pre l
 | [],_=>rfl
 | a :: l,pre=>by
  have:=zlC (V:=V) l (pre ++ [a]);rw[List.foldl_append]at this;simp only[qaI,zgS,zk3];rw[<- this,zmo,Nat.and_zero];rfl
theorem zkm{gs:List S_api_Gate}{V:List Nat}(hV:VOk gs V){g:S_api_Gate}{ar:List Nat}(e:g.args=iL ar)(ha:∀ a∈ar,a<gs.length)(hl:ar.length<=4000){k:Nat}(hk:k<ar.length):∀(n j:Nat),j<=k->k - j<n ->
  zaY (k:Int) g (iL V) n (j:Int)=some (bif (bif g.kind == 4 then((ar.take k).drop j).all (λb=>V.getD ar[k] 0 &&& V.getD b 0 == 0)else true)then .go ()else .ret false)
 | 0,_,_,h=>absurd h (qaq _)
 | n+1,j,h1,h2=>by
  unfold zaY;rw[za3];have htl:(ar.take k).length=k:=by rw[qaQ]; omega
  by_cases hj:j<k
  .have hr:=zkm hV e ha hl hk n (j+1) hj (by omega);have hj':j<ar.length:=by omega
   have h3:=ha _ (qax hk);have h5:=ha _ (qax hj');rw[qcG hj,qcE];cases h4:(g.kind == 4)with
   | true=>
    rw[h4,qcE]at hr
    rw[qcE,qcE,e,zbI hk,qab,hV.zsW h3,qab,zbI hj',qab,hV.zsW h5,qab,qab,zvs (hV.lt' _) (hV.lt' _),zgt,
     qan (by rw[htl]; exact hj),qa7,List.getElem_take]
    cases hb:(V.getD ar[k] 0 &&& V.getD ar[j] 0 == 0)with
    | false=>rfl
    | true=>rw[qaZ,qcF,zak (by omega),hr,qa0]
   | false=>
    rw[h4,qcF]at hr;rw[qcF,qcF,qab,qcF,zak (by omega),hr]
  rw[qcH hj,qcF,qas (by rw[htl]; omega)];cases(g.kind == 4)<;> rfl
theorem zjY{gs:List S_api_Gate}{V:List Nat}(hV:VOk gs V){g:S_api_Gate}{ar:List Nat}(e:g.args=iL ar)(ha:∀ a∈ar,a<gs.length)(hl:ar.length<=4000):∀(n k:Nat),k<=ar.length->ar.length - k<n ->
  zaZ g (iL V) n (k:Int)=some (bif (bif g.kind == 4 then zk3 V (ar.take k) (ar.drop k)else true)then .go ()else .ret false)
 | 0,_,_,h=>absurd h (qaq _)
 | n+1,k,h1,h2=>by
  unfold zaZ;rw[e,zaV,za3];by_cases hk:k<ar.length
  .have hr:=zjY hV e ha hl n (k+1) hk (by omega);have hq:=zkm hV e ha hl hk (k+2) 0 (qaA _) (by omega);rw[show((0:Nat):Int)=0 from rfl,qaP]at hq;rw[qcG hk,qcE,zaB,hq];cases h4:(g.kind == 4)with
   | true=>
    rw[h4,qcE]at hr;rw[qcE,qcE,qan hk];simp only[zk3];cases(ar.take k).all (λb=>V.getD ar[k] 0 &&& V.getD b 0 == 0)with
    | false=>rfl
    | true=>
     rw[qcE,qab];simp only;rw[zak (by omega),hr,List.take_add_one,qae hk,qa0]; rfl
   | false=>
    rw[h4,qcF]at hr;rw[qcF,qcF,qcE,qab];simp only;rw[zak (by omega),hr];rfl
  rw[qcH hk,qcF,qas (by omega)];cases(g.kind == 4)<;> rfl
theorem zon{cs:List Nat}(hg:GOk cs i g)(V:List Nat){ar:List Nat}(e:g.args=iL ar):(bif g.kind == 4 then zk3 V [] ar else true)=dcG V g:=by
 unfold dcG;have q:zgS 0 (ar.map λa=>V.getD a 0)=zk3 V [] ar:=zlC ar [];rw[zsG e,q];cases hg with
 | num n h=>rw[show ar=[]from List.map_eq_nil_iff.1 e.symm]; rfl
 | is v x hv hx=>rw[show ar=[]from List.map_eq_nil_iff.1 e.symm]; rfl
 | op k hk ar ne inc lt=>rcases hk with rfl | rfl<;>rfl
theorem zjZ{cs:List Nat}{c:S_api_Circuit}(hc:COk cs c){V:List Nat}(hV:VOk c.gates V):∀(n i:Nat),i<=c.gates.length->c.gates.length - i<n ->
  zaX c (iL V) n (i:Int)=some (bif (c.gates.drop i).all (dcG V)then .go ()else .ret false)
 | 0,_,_,h=>absurd h (qaq _)
 | n+1,i,h1,h2=>by
  have h4:=hc.glen;unfold zaX;rw[za3];by_cases hi:i<c.gates.length
  .have hg:=hc.gate i hi;obtain⟨ar,e,ha,hl⟩:=hg.ar;have ha':∀ a∈ar,a<c.gates.length:=λa h=>Nat.lt_trans (ha a h) hi
   have hr:=zjY hV e ha' (by omega) (ar.length+2) 0 (qaA _) (by omega);rw[qbU,qaP,zon hg V e,show((0:Nat):Int)=0 from rfl]at hr;rw[qcG hi,qcE,zaq hi,qab,zaB,e,zaV,hr,qan hi,qa7];cases dcG V c.gates[i]with
   | false=>rfl
   | true=>
    rw[qcE,qab];simp only;rw[zak (by omega),zjZ hc hV n (i+1) hi (by omega),qa0]
  rw[qcH hi,qcF,qas (by omega)]; rfl
theorem zqy{cs:List Nat}(hc:COk cs c){V:List Nat}(hV:VOk c.gates V):za5 c=some (c.gates.all (dcG V)):=by
 have:=zjZ hc hV (c.gates.length+2) 0 (qaA _) (by omega);unfold za5;rw[zph hc hV,qab,zaB];rw[show((0:Nat):Int)=0 from rfl,qaP]at this;rw[this];cases c.gates.all (dcG V)<;> rfl
theorem zow{c:S_api_Circuit}(h4:c.gates.length<=4000):∀(n i:Nat) (a:Int),i<=c.gates.length->c.gates.length - i<n->∃ m,za4 c n a (i:Int)=some m
 | 0,_,_,_,h=>absurd h (qaq _)
 | n+1,i,a,h1,h2=>by
  unfold za4;rw[za3];by_cases hi:i<c.gates.length
  .rw[qcG hi,qcE,zaq hi,qab,zak (by omega)];exact zow h4 n (i+1) _ hi (by omega)
  rw[qcH hi,qcF];exact⟨a,rfl⟩
def onL(acc:List Bool):List Int:=iL (acc.map Bool.toNat)
theorem zgx(acc:List Bool):(onL acc).length=acc.length:=by simp[onL,zaV]
variable{acc:List Bool}
theorem ziJ(h:a<acc.length):zaH (onL acc) (a:Int)=some (((acc.getD a false).toNat:Nat):Int):=by
 unfold onL;rw[zbI (by simpa using h),zax h]; simp
theorem zrG{acc:List Bool}{g:S_api_Gate}{ar:List Nat}(e:g.args=iL ar)(ha:∀ a∈ar,a<acc.length)(hl:ar.length<=4000):∀(n k:Nat) (s:Nat),s<=k->k<=ar.length->ar.length - k<n ->
  zat g (onL acc) n (s:Int) (k:Int)=some ((s+(ar.drop k).countP (λa=>acc.getD a false):Nat):Int)
 | 0,_,_,_,_,h=>absurd h (qaq _)
 | n+1,k,s,hs,h1,h2=>by
  unfold zat;rw[e,zaV,za3];by_cases hk:k<ar.length
  .have hb:(acc.getD ar[k] false).toNat<=1:=Bool.toNat_le _;rw[qcG hk,qcE,zbI hk,qab,ziJ (ha _ (qax hk)),qab,zak (by omega),<- Int.natCast_add,zoC (by omega),zrG e ha hl n (k+1) _ (by omega) hk (by omega),qan hk,List.countP_cons];cases acc.getD ar[k] false
   .simp
   simp only[Bool.toNat_true,if_true]; congr 2; omega
  rw[qcH hk,qcF,qas (by omega)]; simp
theorem zu5{acc:List Bool}{ar:List Nat}(ha:∀ a∈ar,a<acc.length)(hl:ar.length<=4000):∀(n k:Nat) (bs:List Bool),bs.length=k->k<=ar.length->ar.length - k<n ->
  zdr (iL ar) (onL acc) n (k:Int) (onL bs)=some (onL (bs ++ (ar.drop k).map λa=>acc.getD a false))
 | 0,_,_,_,_,h=>absurd h (qaq _)
 | n+1,k,bs,hb,h1,h2=>by
  unfold zdr;rw[zaV,za3];by_cases hk:k<ar.length
  .rw[qcG hk,qcE,zbI hk,qab,ziJ (ha _ (qax hk)),qab,zdq (by rw[zgx,qaW]; omega),qab,zak (by omega)];have:=zu5 ha hl n (k+1) (bs ++ [acc.getD ar[k] false]) (by simp[hb]) hk (by omega);rw[qan hk,qaI];rw[qbe]at this;rw[show onL bs ++ [(((acc.getD ar[k] false).toNat:Nat):Int)]=onL (bs ++ [acc.getD ar[k] false]) by simp[onL,iL]];exact this
  rw[qcH hk,qcF,qas (by omega)]; simp
theorem zvW{ar:List Nat}(ha:∀ a∈ar,a<acc.length)(hl:ar.length<=4000):zdK (onL acc) (iL ar)=some (onL (ar.map λa=>acc.getD a false)):=by
 have:=zu5 ha hl (ar.length+2) 0 [] rfl (qaA _) (by omega);unfold zdK;rw[zaV,zaB,show([]:List Int)=onL []from rfl];rw[show((0:Nat):Int)=0 from rfl,qaP,qbm]at this;rw[this]; rfl
theorem zpn{bs:List Bool}(hl:bs.length<=4000):∀(n k:Nat),k<=bs.length->bs.length - k<n ->
  zbo (onL bs) n (k:Int)=some (bif (bs.drop k).all id then .go ()else .ret (0,true))
 | 0,_,_,h=>absurd h (qaq _)
 | n+1,k,h1,h2=>by
  unfold zbo;rw[zgx,za3];by_cases hk:k<bs.length
  .rw[qcG hk,qcE,ziJ hk,qab,zgt,qan hk,qa7,zax hk];cases hb:bs[k]with
   | false=>rfl
   | true=>
    show zbo (onL bs) n _=_;rw[zak (by omega),zpn hl n (k+1) hk (by omega)]; rfl
  rw[qcH hk,qcF,qas (by omega)]; rfl
theorem zuG:zcs 1 1=some (1,true):=by decide +kernel
theorem zpN{bs:List Bool}(hl:bs.length<=4000)(h:bs.all id=true):∀(n k:Nat),k<=bs.length->bs.length - k<n ->
  zbO (onL bs) n 1 true (k:Int)=some (1,true)
 | 0,_,_,h=>absurd h (qaq _)
 | n+1,k,h1,h2=>by
  unfold zbO;rw[zgx,za3];by_cases hk:k<bs.length
  .have hb:bs[k]=true:=qa1.1 h _ (qax hk);rw[qcG hk,qcE,qab,qcE,ziJ hk,zax hk,hb,qab];show(zcs 1 1).bind _=_;rw[zuG,qab,zak (by omega)];exact zpN hl h n (k+1) hk (by omega)
  rw[qcH hk,qcF,qab,qcF]
theorem zn6{N:Nat}(hN:5000<=N){bs:List Bool}(hl:bs.length<=4000):∃ b,zbF N (onL bs)=some ((((bs.all id).toNat:Nat):Int),b):=by
 have h1:=zpn hl (bs.length+2) 0 (qaA _) (by omega);unfold zbF;rw[zgx,zaB];rw[show((0:Nat):Int)=0 from rfl,qaP]at h1;rw[h1];cases h:bs.all id with
 | false=>exact⟨true,rfl⟩
 | true=>
  have h2:=zpN hl h N 0 (qaA _) (by omega);rw[qcE,qab];simp only;rw[show((0:Nat):Int)=0 from rfl]at h2;rw[h2];exact⟨true,rfl⟩
theorem zv2{N:Nat}(hN:5000<=N){cs:List Nat}(hg:GOk cs i g)(hi:i<=4000)(hacc:acc.length=i){d:List Nat}(hd:d.length=cs.length){r1:List (List Int)}{j:Int}(hr:zaH r1 j=some (iL d)):
  ((bif (g.kind == 1)then(some (.go (zgl g.n 1)))else(bif (g.kind == 2)then((zaH r1 j).bind λx21=>(zaH x21 g.var).bind λx23=>bif (x23 == g.val)then(some (.go 1))else(some (.go 0)))else(bif (g.kind == 3)then
   (((zat g (onL acc) ((g.args.length:Int) - 0+2:Int).toNat 0 0:Option Int)).bind λv8=>bif (decide (1<v8))then(some (.ret false))else(some (.go v8)))else
   (bif (g.kind == 4)then((zdK (onL acc) g.args).bind λr11=>(zbF N r11).bind λr13=>some (.go r13.1))else(some (.go 0))))):Option (Out Int Bool)))=some (bif pg acc g then .go (((vg d acc g).toNat:Nat):Int)else .ret false):=by
 cases hg with
 | num n hn=>
  show some (Out.go (zgl (n:Int) 1))=some (Out.go (((decide ((0:Int)<(n:Int))).toNat:Nat):Int));by_cases h:0<n
  .rw[qcG (by omega),show zgl (n:Int) 1=1 by unfold zgl; split<;>omega]; rfl
  .rw[qcH (by omega),show zgl (n:Int) 1=0 by unfold zgl; split<;>omega]; rfl
 | is v x hv hx=>
  have hv':v<d.length:=by omega
  show((zaH r1 j).bind λx21=>(zaH x21 (v:Int)).bind λx23=>bif (x23 ==(x:Int))then(some (Out.go 1))else(some (Out.go 0)))=some (Out.go (((((d.getD ((v:Nat):Int).toNat 0:Nat):Int)==(x:Int)).toNat:Nat):Int));rw[hr,qab,zbI hv',qab,qaH,zax hv'];cases(((d[v]:Nat):Int)==(x:Int))<;> rfl
 | op k hk ar ne inc lt=>
  have hl:=ziA (b:=0) inc λa h=>⟨qaA _,lt a h⟩
  have ha:∀ a∈ar,a<acc.length:=λa h=>by rw[hacc]; exact lt a h
  rcases hk with rfl | rfl
  .have h3:=zrG (g:=⟨3,0,0,0,iL ar⟩) rfl ha (by omega) (ar.length+2) 0 0 (qam _) (qaA _) (by omega);rw[show((0:Nat):Int)=0 from rfl,qaP,qaT]at h3;show((zat ⟨3,0,0,0,iL ar⟩ (onL acc) (((iL ar).length:Int) - 0+2:Int).toNat 0 0).bind λv8=>bif (decide (1<v8))then(some (Out.ret false))else(some (Out.go v8)))=some (bif decide ((iL ar).countP (λa=>acc.getD a.toNat false)<=1)then Out.go ((((iL ar).any λa=>acc.getD a.toNat false).toNat:Nat):Int)else .ret false);rw[zaV,zaB,h3,qab,zhg ar λa=>acc.getD a false,zrN ar λa=>acc.getD a false];by_cases h:ar.countP (λa=>acc.getD a false)<=1
   .rw[qcH (by omega),qcF,qcG h,qcE];congr 2
    rcases qci (ar.countP λa=>acc.getD a false)with h0 | h0
    .rw[h0,show(ar.any λa=>acc.getD a false)=false from List.any_eq_false.2 (List.countP_eq_zero.1 h0)]; rfl
    rw[show ar.countP (λa=>acc.getD a false)=1 by omega,show(ar.any λa=>acc.getD a false)=true from qcA.2 (List.countP_pos_iff.1 h0)]; rfl
   rw[qcG (by omega),qcE,qcH h]; rfl
  obtain⟨b,hb⟩:=zn6 hN (bs:=ar.map λa=>acc.getD a false) (by simp; omega);show((zdK (onL acc) (iL ar)).bind λr11=>(zbF N r11).bind λr13=>some (Out.go r13.1))=some (Out.go ((((iL ar).all λa=>acc.getD a.toNat false).toNat:Nat):Int));rw[zvW ha (by omega),qab,hb,qab,zrZ ar λa=>acc.getD a false,List.all_map];rfl
theorem zrY{N:Nat}(hN:5000<=N){cs:List Nat}{c:S_api_Circuit}(hc:COk cs c){d:List Nat}(hd:d.length=cs.length){r1:List (List Int)}{j:Int}(hr:zaH r1 j=some (iL d)):∀(n i:Nat) (acc:List Bool),acc.length=i->i<=c.gates.length->c.gates.length - i<n ->
  zaP N c r1 j n (i:Int) (onL acc)=some (bif okD d (c.gates.drop i) acc then .go ()else .ret false)
 | 0,_,_,_,_,h=>absurd h (qaq _)
 | n+1,i,acc,hacc,h1,h2=>by
  have h4:=hc.glen;unfold zaP;rw[za3];by_cases hi:i<c.gates.length
  .rw[qcG hi,qcE,zaq hi,qab,zv2 hN (hc.gate i hi) (by omega) hacc hd hr,qan hi];simp only[okD];cases pg acc c.gates[i]with
   | false=>rfl
   | true=>
    rw[qcE,qab];simp only
    rw[zdq (by rw[zgx,qaW]; omega),qab,zak (by omega),qa0,
     show onL acc ++ [(((vg d acc c.gates[i]).toNat:Nat):Int)]=onL (acc ++ [vg d acc c.gates[i]]) by simp[onL,iL]]
    exact zrY hN hc hd hr n (i+1) _ (by simp[hacc]) hi (by omega)
  rw[qcH hi,qcF,qas (by omega)]; rfl
theorem zrK{N:Nat}(hN:5000<=N){cs:List Nat}{c:S_api_Circuit}(hc:COk cs c):∀(n j:Nat),j<=zan cs->zan cs - j<n ->
  zaO N (zsR cs) c n (j:Int)=some (bif (List.range' j (zan cs - j)).all (λj=>okD (dig cs j) c.gates [])then .go ()else .ret false)
 | 0,_,_,h=>absurd h (qaq _)
 | n+1,j,h1,h2=>by
  have h4:=hc.glen;have hp:=hc.prod;unfold zaO;rw[zmt,za3];by_cases hj:j<zan cs
  .have hq:=zrY hN hc (zd7 cs j) (zqS hj) (c.gates.length+2) 0 [] rfl (qaA _) (by omega);rw[show((0:Nat):Int)=0 from rfl,qaP]at hq;rw[qcG hj,qcE,zaB,show([]:List Int)=onL []from rfl,hq,show zan cs - j=(zan cs - (j+1))+1 by omega,qcx,qa7];cases okD (dig cs j) c.gates []with
   | false=>rfl
   | true=>
    rw[qcE,qab];simp only;rw[zak (by omega),zrK hN hc n (j+1) hj (by omega),qa0]
  rw[qcH hj,qcF,show zan cs - j=0 by omega]; rfl
theorem zvK{cs:List Nat}(hc:COk cs c):∃ b,zaA 5000 c=some b/\(b=true↔∀ j,j<zan cs->okD (dig cs j) c.gates []=true):=by
 have hp:=hc.prod;have hl:=hc.len;have h1:=zrK (N:=5000) (qam _) hc (zan cs+2) 0 (qaA _) (by omega);unfold zaA;rw[hc.cards,zvL hc.card (by omega) (by omega),qab,zmt,zaB];rw[show((0:Nat):Int)=0 from rfl,qce]at h1;rw[h1];refine⟨(List.range' 0 (zan cs)).all λj=>okD (dig cs j) c.gates [],?_,?_⟩
 .cases(List.range' 0 (zan cs)).all λj=>okD (dig cs j) c.gates []<;>rfl
 rw[qa1];exact⟨λh j hj=>h j (List.mem_range'_1.2 ⟨qaA _,by omega⟩),λh j hj=>h j (by have:=List.mem_range'_1.1 hj; omega)⟩
structure Sz (c:S_api_Circuit):Prop where
 gl:c.gates.length<=100
 cl:c.cards.length<=20
 al:∀ x∈c.gates,x.args.length<=20
theorem Sz.args{c:S_api_Circuit}(h:Sz c):∀ g∈c.gates,g.args.length<4611686018427387904:=λg hg=>by have:=h.al g hg; omega
theorem zvc{d:S_haruspexref15_Draft}(hd:∀ x∈d.cards,0<=x):∀(n v:Nat) (acc:List Int),acc.length<=v->v<=4->4 - v<n->(∀ x∈acc,1<=x/\x<=3)->
  ∃ l,zaS d n (v:Int) acc=some l/\l.length<=4/\∀ x∈l,1<=x/\x<=3
 | 0,_,_,_,_,h,_=>absurd h (qaq _)
 | n+1,v,acc,h1,h2,h3,h4=>by
  unfold zaS;rw[za3];by_cases hv:v<d.cards.length
  .by_cases h5:v<4
   .have hx:=hd _ (qax hv);have hm:0<=(d.cards[v].tmod 3)/\(d.cards[v].tmod 3)<3:=by
     obtain⟨m,hm⟩:=Int.eq_ofNat_of_zero_le hx;rw[hm];exact⟨qbT (m % 3),by show((m % 3:Nat):Int)<3; have:=qbw m (show 0<3 by decide); omega⟩
    rw[qcG hv,qcE,qcG (show(v:Int)<4 by omega),qab,qcE,zaq hv,qab,zdq (by rw[qaW]; omega),qab,zak (by omega)];refine zvc hd n (v+1) _ (by simp; omega) h5 (by omega) λx hx=>?_
    rcases qbr.1 hx with hx | hx
    .exact h4 x hx
    rw[qbE.1 hx,zfk (n:=d.cards[v].tmod 3) (by omega) (by omega),zfk (by omega) (by omega)];omega
   rw[qcG hv,qcE,qcH (show ¬ (v:Int)<4 by omega),qab,qcF];exact⟨acc,rfl,by omega,h4⟩
  rw[qcH hv,qcF,qab,qcF];exact⟨acc,rfl,by omega,h4⟩
theorem zuY{b:List Int}{v:Nat}{k:Nat}(hb:zaH b (v:Int)=some (k:Int))(hk:k<=3):∀(n x:Nat) (acc:List S_api_Gate),acc.length+(k - x)<=50->x<=k->k - x<n->(∀ g∈acc,g.args.length<=2)->
  ∃ l,zaU b (v:Int) n (x:Int) acc=some l/\l.length=acc.length+(k - x)/\∀ g∈l,g.args.length<=2
 | 0,_,_,_,_,h,_=>absurd h (qaq _)
 | n+1,x,acc,h1,h2,h3,h4=>by
  unfold zaU;rw[hb,qab,za3];by_cases hx:x<k
  .rw[qcG hx,qcE,zdq (by rw[qaW]; omega),qab,zak (by omega)];obtain⟨l,q1,q2,q3⟩:=zuY hb hk n (x+1) (acc ++ [S_api_Gate.mk 2 (v:Int) (x:Int) 0 []]) (by rw[qaw,qaW]; omega) hx (by omega) λg hg=>by
    rcases qbr.1 hg with hg | hg
    .exact h4 g hg
    rw[qbE.1 hg]; exact qaA _
   exact⟨l,q1,by rw[q2,qaw,qaW]; omega,q3⟩
  rw[qcH hx,qcF];exact⟨acc,rfl,by omega,h4⟩
theorem zuw{b:List Int}(hl:b.length<=4)(hb:∀ x∈b,1<=x/\x<=3):∀(n v:Nat) (acc:List S_api_Gate),acc.length<=3 * v->v<=acc.length->v<=b.length->b.length - v<n->(∀ g∈acc,g.args.length<=2)->
  ∃ l,zaN b n (v:Int) acc=some l/\l.length<=12/\b.length<=l.length/\∀ g∈l,g.args.length<=2
 | 0,_,_,_,_,_,h,_=>absurd h (qaq _)
 | n+1,v,acc,h1,h0,h2,h3,h4=>by
  unfold zaN;rw[za3];by_cases hv:v<b.length
  .have hx:=hb _ (qax hv);obtain⟨k,hk⟩:=Int.eq_ofNat_of_zero_le (show 0<=b[v] by omega);have hk':b[v]=(k:Int):=hk;obtain⟨l,q1,q2,q3⟩:=zuY (b:=b) (v:=v) (k:=k) (by rw[zaq hv,hk']) (by omega) (k+2) 0 acc (by omega) (qaA _) (by omega) h4;rw[show((0:Nat):Int)=0 from rfl]at q1;rw[qcG hv,qcE,zaq hv,qba,hk',zaB,q1,qab,zak (by omega)];exact zuw hl hb n (v+1) l (by omega) (by omega) hv (by omega) q3
  rw[qcH hv,qcF];exact⟨acc,rfl,by omega,by omega,h4⟩
theorem zuQ(d:S_haruspexref15_Draft)(u:Int):∀(n k:Nat) (acc:List S_api_Gate),acc.length<=12+k->1<=acc.length->k<=30->30 - k<n->(∀ g∈acc,g.args.length<=2)->
  ∃ l,zaD d u n (k:Int) acc=some l/\l.length<=42/\∀ g∈l,g.args.length<=2
 | 0,_,_,_,_,_,h,_=>absurd h (qaq _)
 | n+1,k,acc,h1,h0,h2,h3,h4=>by
  unfold zaD;rw[za3];by_cases hk:k<d.gates.length
  .by_cases h5:k<30
   .rw[qcG hk,qcE,qcG (show(k:Int)<30 by omega),qab,qcE,zaq hk,qab];have hs:∀ g:S_api_Gate,g.args.length<=2->∃ l,zaD d u n ((k+1:Nat):Int) (acc ++ [g])=some l/\l.length<=42/\∀ g∈l,g.args.length<=2:=λg hg=>
     zuQ d u n (k+1) (acc ++ [g]) (by rw[qaw,qaW]; omega) (by rw[qaw]; omega) h5 (by omega) λx hx=>by
      rcases qbr.1 hx with hx | hx
      .exact h4 x hx
      rw[qbE.1 hx]; exact hg
    cases(d.gates[k].a0.tmod 5 == 0)with
    | true=>
     rw[qcE,zdq (by rw[qaW]; omega),qab,qab,zak (by omega)];exact hs _ (qaA _)
    | false=>
     have hne:(((acc.length:Nat):Int)== 0)=false:=beq_eq_false_iff_ne.2 (by omega);rw[qcF];unfold zsA;rw[hne,qcF,qcF,qab,qab];generalize (w64 d.gates[k].a1).tmod ((acc.length:Nat):Int)=p;generalize (w64 d.gates[k].a2).tmod ((acc.length:Nat):Int)=q;cases(p == q)with
     | true=>
      rw[qcE,qab,zdq (by rw[qaW]; omega),qab,qab,zak (by omega)];exact hs _ (by show 1<=2; decide)
     | false=>
      rw[qcF,qab,zdq (by rw[qaW]; omega),qab,qab,zak (by omega)];exact hs _ (qam 2)
   rw[qcG hk,qcE,qcH (show ¬ (k:Int)<30 by omega),qab,qcF];exact⟨acc,rfl,by omega,h4⟩
  rw[qcH hk,qcF,qab,qcF];exact⟨acc,rfl,by omega,h4⟩
theorem zsJ{d:S_haruspexref15_Draft}(hd:∀ x∈d.cards,0<=x):∃ c,zbb 5000 d=some c/\c.gates.length<=42/\c.cards.length<=4/\∀ g∈c.gates,g.args.length<=2:=by
 obtain⟨l,q1,q2,q3⟩:=zvc hd 5000 0 [] (qaA _) (qaA _) (by decide) (λx h=>nomatch h);rw[show((0:Nat):Int)=0 from rfl]at q1;unfold zbb;rw[q1,qab];have hb:∃ b:List Int,((bif (((l.length:Nat):Int)== 0)then some [2]else some l):Option (List Int))=some b/\1<=b.length/\b.length<=4/\∀ x∈b,1<=x/\x<=3:=by
  cases h:(((l.length:Nat):Int)== 0)with
  | true=>exact⟨[2],rfl,by decide,by decide,by decide⟩
  | false=>
   have:=beq_eq_false_iff_ne.1 h;exact⟨l,rfl,by omega,q2,q3⟩
 obtain⟨b,e,b1,b2,b3⟩:=hb;obtain⟨g,p1,p2,p3,p4⟩:=zuw b2 b3 (b.length+2) 0 [] (qaA _) (qaA _) (qaA _) (by omega) (λx h=>nomatch h);rw[show((0:Nat):Int)=0 from rfl]at p1;have h4:=λu=>zuQ d u 5000 0 g (by omega) (by omega) (qaA _) (by decide) p4
 rw[e,qab,zaB,p1,qab];cases d.big with
 | true=>
  obtain⟨r,r1,r2,r3⟩:=h4 100000000000;rw[show((0:Nat):Int)=0 from rfl]at r1;rw[qcE,qab];simp only;rw[r1];exact⟨_,rfl,r2,b2,r3⟩
 | false=>
  obtain⟨r,r1,r2,r3⟩:=h4 1;rw[show((0:Nat):Int)=0 from rfl]at r1;rw[qcF,qab];simp only;rw[r1];exact⟨_,rfl,r2,b2,r3⟩
theorem zpU(k n:Int)(x:S_api_Gate):(zs7 k n x).args.length<=x.args.length+1:=by
 unfold zs7;cases(k == 0)<;> cases(k == 1)<;> cases(k == 2)<;> cases(k == 3)<;> cases(k == 4)<;> cases(k == 5)<;> simp[qcE,qcF]<;>omega
theorem zrJ{b:S_haruspexref15_Bend}(h1:0<=b.what/\b.what<=255)(h2:0<=b.at_/\b.at_<=255){c:S_api_Circuit}{k:Nat}(hk:k<=10)(hg:c.gates.length<=42)(hc:c.cards.length<=4+k)(ha:∀ g∈c.gates,g.args.length<=2+k):
  ∃ r,zeX b c=some r/\r.gates.length<=42/\r.cards.length<=4+(k+1)/\∀ g∈r.gates,g.args.length<=2+(k+1):=by
 have ha':∀ g∈c.gates,g.args.length<=2+(k+1):=λg hg=>Nat.le_succ_of_le (ha g hg)
 unfold zeX;rw[if_pos ⟨h1.1,h1.2,h2.1,h2.2,by simp only[zag]; omega,by simp only[zag]; omega,λy hy=>by have:=ha y hy; simp only[zag]; omega⟩];cases hz:(c.gates.length == 0 || c.cards.length == 0)with
 | true=>exact⟨c,rfl,hg,by omega,ha'⟩
 | false=>
  rw[Bool.or_eq_false_iff,qcJ,qcJ]at hz;have hlt:b.at_.toNat % c.gates.length<c.gates.length:=qbw _ (by omega);rw[qcF,qae hlt];simp only;cases(b.what.tmod 9 == 6)with
  | true=>exact⟨_,rfl,hg,by show(c.cards.set _ _).length<=_; rw[qaG]; omega,ha'⟩
  | false=>
   cases(b.what.tmod 9 == 7)with
   | true=>exact⟨_,rfl,by show(c.gates.take _).length<=_; rw[qaQ]; omega,by show c.cards.length<=_; omega,λg hg=>ha' g (List.mem_of_mem_take hg)⟩
   | false=>
    cases(b.what.tmod 9 == 8)with
    | true=>exact⟨_,rfl,hg,by show(c.cards ++ [b.n]).length<=_; rw[qaw,qaW]; omega,ha'⟩
    | false=>
     refine⟨_,rfl,by show(c.gates.set _ _).length<=_; rw[qaG]; exact hg,by show c.cards.length<=_; omega,λg hg=>?_⟩;rcases qbn hg with hg | rfl
     .exact ha' g hg
     have:=zpU (b.what.tmod 9) b.n c.gates[b.at_.toNat % c.gates.length];have:=ha _ (qax hlt);omega
theorem zuI{y:List S_api_Gate}(hy:y.length<=40):∀(n k:Nat) (acc:List S_api_Gate),acc.length=k->k<=y.length->y.length - k<n->(∀ g∈acc,g.args.length<=10)->
  ∃ l,zcF y n (k:Int) acc=some l/\l.length<=40/\∀ g∈l,g.args.length<=10
 | 0,_,_,_,_,h,_=>absurd h (qaq _)
 | n+1,k,acc,h1,h2,h3,h4=>by
  unfold zcF;rw[za3];by_cases hk:k<y.length
  .have hm:0<=zgl (y[k].args.length:Int) 10/\zgl (y[k].args.length:Int) 10<=y[k].args.length/\zgl (y[k].args.length:Int) 10<=10:=by
    unfold zgl; split<;>omega
   rw[qcG hk,qcE,zaq hk,qab];unfold zfF;rw[if_pos ⟨qbN _,hm.1,hm.2.1⟩,qab,zdq (by rw[qaW]; omega),qab,zak (by omega)];refine zuI hy n (k+1) _ (by simp[h1]) hk (by omega) λg hg=>?_
   rcases qbr.1 hg with hg | hg
   .exact h4 g hg
   rw[qbE.1 hg];show(List.take _ _).length<=10;rw[qaQ];omega
  rw[qcH hk,qcF];exact⟨acc,rfl,by omega,h4⟩
theorem zvF(c:S_api_Circuit):∃ r,zeh c=some r/\Sz r:=by
 have h1:0<=zgl (c.cards.length:Int) 10/\zgl (c.cards.length:Int) 10<=c.cards.length/\zgl (c.cards.length:Int) 10<=10:=by unfold zgl; split<;>omega
 have h2:0<=zgl (c.gates.length:Int) 40/\zgl (c.gates.length:Int) 40<=c.gates.length/\zgl (c.gates.length:Int) 40<=40:=by unfold zgl; split<;>omega
 unfold zeh zfF;rw[if_pos ⟨qbN _,h1.1,h1.2.1⟩,qab,if_pos ⟨qbN _,h2.1,h2.2.1⟩,qab,zaB];have hl:(List.take ((zgl (c.gates.length:Int) 40).toNat - (0:Int).toNat) (c.gates.drop (0:Int).toNat)).length<=40:=by rw[qaQ]; omega
 have key:∀ y:List S_api_Gate,y.length<=40->∃ l,zcF y (y.length+2) ((0:Nat):Int) []=some l/\l.length<=40/\∀ g∈l,g.args.length<=10:=λy hy=>zuI hy (y.length+2) 0 [] rfl (qaA _) (by omega) (λx h=>nomatch h)
 obtain⟨l,q1,q2,q3⟩:=key _ hl;rw[show((0:Nat):Int)=0 from rfl]at q1;rw[q1];refine⟨_,rfl,qaE q2 (by decide),?_,λx hx=>qaE (q3 x hx) (by decide)⟩;show(List.take _ _).length<=20;rw[qaQ];omega
structure BndB (b:S_haruspexref15_Bend):Prop where
 w:0<=b.what/\b.what<=255
 a:0<=b.at_/\b.at_<=255
variable{b:A2_S_haruspexref15_Bend}
theorem zm2{d:S_haruspexref15_Draft}(hd:∀ x∈d.cards,0<=x)(h0:BndB b.a0)(h1:BndB b.a1)(raw:S_api_Circuit):
  ∃ r,zcb 5000 d b raw=some r/\Sz r.a0/\Sz r.a1/\Sz r.a2/\Sz r.a3:=by
 obtain⟨c,q1,q2,q3,q4⟩:=zsJ hd;obtain⟨c1,p1,p2,p3,p4⟩:=zrJ (k:=0) h0.w h0.a (by decide) q2 q3 q4;obtain⟨c2,r1,r2,r3,r4⟩:=zrJ (k:=1) h1.w h1.a (by decide) p2 p3 p4;obtain⟨c3,s1,s2⟩:=zvF raw
 refine⟨⟨c,c1,c2,c3⟩,?_,⟨by show c.gates.length<=100; omega,by show c.cards.length<=20; omega,λx hx=>qaE (q4 x hx) (by decide)⟩,⟨by show c1.gates.length<=100; omega,by show c1.cards.length<=20; omega,λx hx=>qaE (p4 x hx) (by decide)⟩,
  ⟨by show c2.gates.length<=100; omega,by show c2.cards.length<=20; omega,λx hx=>qaE (r4 x hx) (by decide)⟩,s2⟩
 unfold zcb;rw[q1,qab,p1,qab,qab,r1,qab,s1,qab]
theorem zlB(c:S_api_Circuit):∀(n:Nat) (a i:Int),zaT c n a i=za4 c n a i
 | 0,_,_=>rfl
 | n+1,a,i=>by
  unfold zaT za4;cases decide (i<(c.gates.length:Int))with
  | false=>rfl
  | true=>
   rw[qcE,qcE];congr 1
   funext x
   exact zlB c n _ _
theorem zqB(hs:Sz c){r4:A4_S_api_Circuit}{v:Int}(hv:v<4)(hg:zaH [r4.a0,r4.a1,r4.a2,r4.a3] v=some c)(n:Nat):
  zav 5000 r4 (n+1) v=zav 5000 r4 n (w64 (v+1)):=by
 have hck:=zs1 c hs.args;have hrt:=ztp c hs.args
 conv=>lhs; unfold zav
 rw[qcG hv,qcE,hg,qab,hrt,qab,hck,qab];cases h:zkR c with
 | false=>
  rw[h]at hck;have hk:zbe c=some (false,false,false,150):=by
   unfold zbe;rw[hck]; rfl
  have hz:zbn c=some (0,0,150):=by
   unfold zbn;rw[hck]; rfl
  rw[hk,hz];rfl
 | true=>
  rw[h]at hck;obtain⟨cs,hc⟩:=zrf h;obtain⟨V,hV⟩:=hc.vars;obtain⟨sets,b,b1,b2⟩:=zov hc.cards hc.card hc.one hc.len hc.prod hc.gate hc.glen;obtain⟨b',d1,d2⟩:=zvK hc;have hb:b=b':=by rw[qbD,b2,d2]
  subst hb;have hl:=zma hc hV (c.gates.length+2) 0 true true (qaA _) (by omega);rw[show((0:Nat):Int)=0 from rfl,qaP,qa0,qa0]at hl;have hk:zbe c=some (c.gates.all (smG V),c.gates.all (dcG V),b,0):=by
   unfold zbe;rw[hck,qcE,qab,show((0:Int)== 0)=true from rfl,qcE,ztn hc hV,qab,zaB,hl,qab];simp only;rw[b1]; rfl
  obtain⟨m,hm⟩:=zow hc.glen (c.gates.length+2) 0 0 (qaA _) (by omega);rw[show((0:Nat):Int)=0 from rfl]at hm;have hz:zbn c=some ((c.gates.length:Int),m,0):=by
   unfold zbn;rw[hck,qcE,qab,show((0:Int)== 0)=true from rfl,qcE,zaB,hm]; rfl
  rw[hk,hz,zaB,zlB,hm,zq8 hc hV,zqy hc hV,d1];have e1:(((c.gates.length:Nat):Int)==((c.gates.length:Nat):Int))=true:=qcL _;have e2:(m == m)=true:=qcL _;generalize c.gates.all (smG V)=x;generalize c.gates.all (dcG V)=y;simp only[qab,qcE,e1,e2,show((0:Int)== 0)=true from rfl];cases x<;>cases y<;>cases b<;>simp only[qcE,qcF,qab,qaZ,qbl]
theorem zj2{d:S_haruspexref15_Draft}(hd:∀ x∈d.cards,0<=x)(h0:BndB b.a0)(h1:BndB b.a1)(raw:S_api_Circuit)(hw:zld=some true):zbG 5000 d b raw=some true:=by
 obtain⟨r,q,s0,s1,s2,s3⟩:=zm2 hd h0 h1 raw;unfold zbG;rw[hw,qab,qcE,q,qab];have e:zav 5000 r 6 0=some (.go ()):=by
  rw[zqB s0 (by decide) rfl 5,show w64 (0+1)=1 from rfl,zqB s1 (by decide) rfl 4,show w64 (1+1)=2 from rfl,zqB s2 (by decide) rfl 3,show w64 (2+1)=3 from rfl,zqB s3 (by decide) rfl 2,show w64 (3+1)=4 from rfl];rfl
 rw[show(4 - 0+2:Int).toNat=6 from rfl,e]; rfl
end Go.Dc
namespace Go.Proofs.Ytbjogdohfhdaiaa.S
open Go Go.Mx Go.Lx Go.Dc Go.ChangeShapes Go.WideShapes Go.ChangeAt Go.RowKit
theorem zfm{H:Type}{enc:TypeId×Value->H}{W W':World}(hb:Below W.heap.size W W'):∀ {ts:List TypeId} {vs:List Value} {ds:List (DataW H)} {ps:List MemPlace},
  DataW.TrodAll enc Try.prog W 0 (λ_=>true) true ts vs ds ps->(∀ t∈ts,Try.prog.readableRec t=true/\t<Try.prog.types.size)->(∀ x∈ps,x.block<W.heap.size)->
  DataW.TrodAll enc Try.prog W' 0 (λb=>decide (b<W.heap.size)) true ts vs ds ps
 | [],vs,ds,ps,h,_,_=>by
  obtain⟨rfl,rfl,rfl⟩:=trodAll_nil h;exact trodAll_mk0
 | t :: ts,vs,ds,ps,h,ht,hlt=>by
  obtain⟨v,vs',d,ds',p,q,rfl,rfl,rfl,h1,h2⟩:=trodAll_cons h;obtain⟨r1,r2⟩:=ht t qaB;exact⟨p,q,Below.trod laidOut r1 r2 h1 hb (λx hx=>hlt x (List.mem_append_left _ hx)),zfm hb h2 (λt h=>ht t (qav _ h)) (λx hx=>hlt x (List.mem_append_right _ hx)),rfl⟩
theorem zui:Dec zaF [.int .u8,.int .u8,.int .u8,.int .u8] (λx=>okI .u8 x.a0/\okI .u8 x.a1/\okI .u8 x.a2/\okI .u8 x.a3):=
 Dec.iso (Dec.pair (Dec.int .u8) (Dec.pair (Dec.int .u8) (Dec.pair (Dec.int .u8) (Dec.int .u8)))) (λx:A4_Intu8=>(x.a0,x.a1,x.a2,x.a3)) (λa=>⟨a.1,a.2.1,a.2.2.1,a.2.2.2⟩) (λ_=>rfl)
theorem zuF:Dec zbP [.sl [.int .u8],.sl [.int .u8,.int .u8,.int .u8,.int .u8],.bool] (λx=>okL (okI .u8) x.cards/\okL (λx:A4_Intu8=>okI .u8 x.a0/\okI .u8 x.a1/\okI .u8 x.a2/\okI .u8 x.a3) x.gates/\True):=
 Dec.iso (Dec.pair (Dec.list (Dec.int .u8)) (Dec.pair (Dec.list zui) Dec.bool)) (λx:S_haruspexref15_Draft=>(x.cards,x.gates,x.big)) (λa=>⟨a.1,a.2.1,a.2.2⟩) (λ_=>rfl)
theorem zsb:Dec zbY [.int .u8,.int .u8,.int .i64] (λx=>okI .u8 x.what/\okI .u8 x.at_/\okI .i64 x.n):=
 Dec.iso (Dec.pair (Dec.int .u8) (Dec.pair (Dec.int .u8) (Dec.int .i64))) (λx:S_haruspexref15_Bend=>(x.what,x.at_,x.n)) (λa=>⟨a.1,a.2.1,a.2.2⟩) (λ_=>rfl)
theorem zte:Dec zbw [.int .u8,.int .u8,.int .i64,.int .u8,.int .u8,.int .i64] (λx=>(okI .u8 x.a0.what/\okI .u8 x.a0.at_/\okI .i64 x.a0.n)/\(okI .u8 x.a1.what/\okI .u8 x.a1.at_/\okI .i64 x.a1.n)):=
 Dec.iso (Dec.pair zsb zsb) (λx:A2_S_haruspexref15_Bend=>(x.a0,x.a1)) (λa=>⟨a.1,a.2⟩) (λ_=>rfl)
theorem zqw:Dec zaa [.int .i64,.int .i64,.int .i64,.int .i64,.sl [.int .i64]] (λx=>okI .i64 x.kind/\okI .i64 x.var/\okI .i64 x.val/\okI .i64 x.n/\okL (okI .i64) x.args):=
 Dec.iso (Dec.pair (Dec.int .i64) (Dec.pair (Dec.int .i64) (Dec.pair (Dec.int .i64) (Dec.pair (Dec.int .i64) (Dec.list (Dec.int .i64)))))) (λx:S_api_Gate=>(x.kind,x.var,x.val,x.n,x.args)) (λa=>⟨a.1,a.2.1,a.2.2.1,a.2.2.2.1,a.2.2.2.2⟩) (λ_=>rfl)
theorem zru:Dec za1 [.sl [.int .i64],.sl [.int .i64,.int .i64,.int .i64,.int .i64,.sl [.int .i64]]] (λx=>okL (okI .i64) x.cards/\okL (λx:S_api_Gate=>okI .i64 x.kind/\okI .i64 x.var/\okI .i64 x.val/\okI .i64 x.n/\okL (okI .i64) x.args) x.gates):=
 Dec.iso (Dec.pair (Dec.list (Dec.int .i64)) (Dec.list zqw)) (λx:S_api_Circuit=>(x.cards,x.gates)) (λa=>⟨a.1,a.2⟩) (λ_=>rfl)
theorem zrO:zc1 Try.prog 8 25=some [.sl [.int .u8],.sl [.int .u8,.int .u8,.int .u8,.int .u8],.bool]:=by kernel_rfl
theorem zvz:zp4 Try.prog 25=true:=by kernel_rfl
theorem zuj:Try.prog.readableRec 25=true:=by kernel_rfl
theorem zr6:zc1 Try.prog 8 28=some [.int .u8,.int .u8,.int .i64,.int .u8,.int .u8,.int .i64]:=by kernel_rfl
theorem zwm:zp4 Try.prog 28=true:=by kernel_rfl
theorem zuZ:Try.prog.readableRec 28=true:=by kernel_rfl
theorem zsc:zc1 Try.prog 8 32=some [.sl [.int .i64],.sl [.int .i64,.int .i64,.int .i64,.int .i64,.sl [.int .i64]]]:=by kernel_rfl
theorem zvJ:zp4 Try.prog 32=true:=by kernel_rfl
theorem zuK:Try.prog.readableRec 32=true:=by kernel_rfl
theorem zv4{d:D}(h:ShA Try.prog 8 25 d):∃ x:S_haruspexref15_Draft,(∀ y∈x.cards,0<=y)/\d=.agg (zbP.c false x):=by
 obtain⟨x,⟨h1,_⟩,h2⟩:=zuF.agg zvz zrO h;exact⟨x,λy hy=>(zjs (h1.2 y hy)).1,h2⟩
theorem zvy{d:D}(h:ShA Try.prog 8 28 d):∃ x:A2_S_haruspexref15_Bend,BndB x.a0/\BndB x.a1/\d=.agg (zbw.c false x):=by
 obtain⟨x,⟨⟨g1,g2,_⟩,⟨g3,g4,_⟩⟩,h2⟩:=zte.agg zwm zr6 h;exact⟨x,⟨zjs g1,zjs g2⟩,⟨zjs g3,zjs g4⟩,h2⟩
theorem zwb{d:D}(h:ShA Try.prog 8 32 d):∃ x:S_api_Circuit,d=.agg (za1.c false x):=by
 obtain⟨x,_,h2⟩:=zru.agg zvJ zsc h;exact⟨x,h2⟩
theorem zvv:(274:Nat)<Try.prog.types.size:=qcM (by kernel_rfl)
theorem zpE{t:Nat}(ht:t<=274):t<Try.prog.types.size:=Nat.lt_of_le_of_lt ht zvv
theorem zuJ:∀ t∈[25,28,32],(zc1 Try.prog 8 t).isSome=true:=by
 intro t ht;simp only[qbg,List.not_mem_nil,or_false]at ht;rcases ht with rfl | rfl | rfl
 .rw[zrO]; rfl
 .rw[zr6]; rfl
 rw[zsc]; rfl
theorem zu9:∀ t∈[25,28,32],Try.prog.readableRec t=true/\t<Try.prog.types.size:=by
 intro t ht;simp only[qbg,List.not_mem_nil,or_false]at ht;rcases ht with rfl | rfl | rfl
 .exact⟨zuj,zpE (by decide)⟩
 .exact⟨zuZ,zpE (by decide)⟩
 exact⟨zuK,zpE (by decide)⟩
theorem zjN{H:Type}{enc:TypeId×Value->H}{w:World}{b0:Nat}{args:Array Value}{ds:List (DataW H)}{ps:List MemPlace}
  (hv:∀(j:Nat) t v,[25,28,32][j]? = some t->args[j]? = some v->Value.okWide Try.prog w .any b0 t v) (hd:DataW.TrodAll enc Try.prog w 0 (λ_=>true) true [25,28,32] args.toList ds ps):
  Calls Try.prog 3 args w λe w'=>e=.returned (.bool true)/\Below w.heap.size w w':=by
 refine zxf (g:=8) hv hd zuJ λes hes=>?_
 obtain⟨x0,r,rfl,h0,hes⟩:=Dc.ShAs.inv hes;obtain⟨x1,r,rfl,h1,hes⟩:=Dc.ShAs.inv hes;obtain⟨x2,r,rfl,h2,hes⟩:=Dc.ShAs.inv hes;obtain rfl:=Dc.ShAs.none hes;obtain⟨a0,k0,rfl⟩:=zv4 h0;obtain⟨a1,k1,j1,rfl⟩:=zvy h1;obtain⟨a2,rfl⟩:=zwb h2;exact zeL (zj2 k0 k1 j1 a2 rfl)
theorem zja(os:Os)(started:os.Started)(H:Type)(enc:TypeId×Value->H):
  ReturnsInHanded {} Try.checked os 3 .any (Rows.circuitChecksSpec.pre6 enc Try.prog Try.f3 Rows.circuitChecksRow.domain false) (Rows.circuitChecksSpec.post enc Try.prog Try.f3 false true false false):=by
 refine returnsInHanded_of_change (C:=Try.checked) own started (by kernel_rfl) Try.func3
  (ChangeSpec.witness6 (enc:=enc) (C:=Try.checked) false ⟨#[],#[.agg #[.slice none 0 0,.slice none 0 0,.bool false],.agg #[.int .u8 0,.int .u8 0,.int .i64 0,.int .u8 0,.int .u8 0,.int .i64 0],.agg #[.slice none 0 0,.slice none 0 0]],[]⟩ 8 (by kernel_rfl) (by kernel_rfl) (by kernel_rfl) (by kernel_rfl)) ?_
 intro W base args ds gs before hval0 hW hcnd _;have hval:∀(j:Nat) t v,Try.f3.params[j]? = some t->args[j]? = some v->Value.okWide Try.prog W .any base t v:=hval0;have hlt:∀ x∈before,x.block<W.heap.size:=λx hx=>hW.lt x hx
 have hW':=hW;obtain⟨p,q,hA0,hV,rfl,hfz,hnd⟩:=hW;have hA:DataW.TrodAll enc Try.prog W 0 (λ_=>true) true Try.f3.params.toList args.toList ds p:=hA0;rw[Try.params3]at hA hval;have hcalls:=zjN (λj t v h1 h2=>hval j t v (by simpa using h1) h2) hA;obtain⟨rfl,rfl⟩:=trodVars_none hV;have hA1:DataW.TrodAll enc Try.prog W 0 (λ_=>true) true [25,28,32] args.toList ds p:=hA;have hds:∃ d0 d1 d2:DataW H,ds=[d0,d1,d2]:=by
  obtain⟨_,_,d0,ds0,_,_,_,e0,_,_,r0⟩:=trodAll_cons hA1;obtain⟨_,_,d1,ds1,_,_,_,e1,_,_,r1⟩:=trodAll_cons r0;obtain⟨_,_,d2,ds2,_,_,_,e2,_,_,r2⟩:=trodAll_cons r1;obtain⟨_,e3,_⟩:=trodAll_nil r2;exact⟨d0,d1,d2,by rw[e0,e1,e2,e3]⟩
 obtain⟨d0,d1,d2,rfl⟩:=hds;clear hA0 hval0;simp only[qbb]at hW' hlt;refine hcalls.mono λe W' ⟨he,hb⟩=>?_
 subst he
 exact⟨_,rfl,_,_,_,[],_,[],hW',trodAll_mk1 (shut_bool Try.underlying4 true),
  (by rw[Try.params3]; exact zfm hb hA1 zu9 hlt),
  rfl,hb.frame _,λh=>by cases h⟩
theorem checks_said:Rows.CircuitChecksSaid:=
 OpenClaim.holds_of_wide 3 Try.f3 rfl rfl rfl rfl rfl rfl rfl ⟨rfl,rfl,rfl,rfl,rfl⟩ rfl rfl rfl rfl rfl zwh Try.func3 zsF
  zvR (by unfold Func.isWrapper; first | (rw[if_pos (by decide +kernel)]; kernel_rfl)| (rw[if_neg (by decide +kernel)]; exact⟨rfl,rfl⟩))
  (λos started H enc _=>zja os started H enc)
end Go.Proofs.Ytbjogdohfhdaiaa.S
namespace Go.Proofs.Ytbjogdohfhdaiaa
theorem checks_said:Rows.CircuitChecksSaid:=S.checks_said
end Go.Proofs.Ytbjogdohfhdaiaa
