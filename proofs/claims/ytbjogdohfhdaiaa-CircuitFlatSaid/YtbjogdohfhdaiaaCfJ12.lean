/-
 Arguments: what the reading of a value says of its cells. Conditions: none.
-/
import Derived.Test.YtbjogdohfhdaiaaCfDc4
set_option linter.unusedSimpArgs false
set_option linter.unusedVariables false
namespace Go.Lx
open Go Go.Mx
inductive CT where
 | bool
 | int (k:IntKind)
 | sl (cts:List CT)
def zdL(P:Program):Nat->TypeId->Option (List CT)
 | 0,_=>none
 | f+1,t=>match P.underlying t with
  | some .bool=>some [.bool]
  | some (.int k)=>some [.int k]
  | some (.slice e)=>(match zdL P f e with
   | some l=>if 0<l.length/\l.length=P.cellsOf e then some [.sl l]else none
   | none=>none)
  | some (.struct fs)=>(match fs.toList.foldl (λ(acc:Option (List CT)) fd=>match acc with
    | some l=>(match zdL P f fd.type with
     | some m=>if fd.offset=l.length/\m.length=P.cellsOf fd.type then some (l ++ m)else none
     | none=>none)
    | none=>none) (some [])with
   | some l=>if l.length=P.cellsOf t then some l else none
   | none=>none)
  | some (.array n e)=>(match zdL P f e with
   | some l=>if 0<l.length/\l.length=P.cellsOf e/\n * l.length=P.cellsOf t then some (List.replicate n l).flatten else none
   | none=>none)
  | _=>none
inductive Fit (w:World):CT->Value->Prop
 | bool (b:Bool):Fit w .bool (.bool b)
 | int (k:IntKind) (n:Int):(Lit.int k n).wf=true->Fit w (.int k) (.int k n)
 | nil (cts:List CT):0<cts.length->Fit w (.sl cts) (.slice none 0 0)
 | sl (cts:List CT) (a:Addr) (len cap:Nat) (row:Nat->Value):0<cts.length->len<=cap->cap<2 ^ 63->(∀ m,m<cap * cts.length->w.cell? (a.add m)=some (row m))->
   (∀ m ct,m<cap * cts.length->cts[m % cts.length]? = some ct->Fit w ct (row m))->Fit w (.sl cts) (.slice (some a) len cap)
structure Fits (w:World) (cts:List CT) (cs:List Value):Prop where
 len:cs.length=cts.length
 fit:∀(i:Nat) ct v,cts[i]? = some ct->cs[i]? = some v->Fit w ct v
theorem Fits.one{w:World}{ct:CT}{v:Value}(h:Fit w ct v):Fits w [ct] [v]:=⟨rfl,λi ct' v' h1 h2=>by
 cases i with
 | zero=>simp at h1 h2; subst h1; subst h2; exact h
 | succ i=>simp at h1⟩
theorem Fits.app{w:World}{a b:List CT}{cs:List Value}(ha:Fits w a (cs.take a.length))(hb:Fits w b ((cs.drop a.length).take b.length))(hl:cs.length=a.length+b.length):Fits w (a ++ b) cs:=by
 refine⟨by simp[hl],λi ct v h1 h2=>?_⟩;by_cases hi:i<a.length
 .rw[qaf hi]at h1;exact ha.fit i ct v h1 (by rw[qaA,if_pos hi]; exact h2)
 rw[qak (by omega)]at h1;have hb':=(qab.1 h1).1;exact hb.fit (i - a.length) ct v h1 (by rw[qaA,if_pos hb',qaB,show a.length+(i - a.length)=i by omega]; exact h2)
theorem zxX(a:Addr)(x y:Nat):(a.add x).add y=a.add (x+y):=by
 unfold Addr.add;by_cases hx:x=0
 .subst hx; simp
 by_cases hy:y=0
 .subst hy; simp[hx]
 rw[if_neg hy,if_neg hx,if_neg (by omega)];simp[qbi]
theorem zgP{α β:Type}{f:α->Option β}:∀ {l:List α} {r:List β},l.mapM f=some r->r.length=l.length/\∀(i:Nat) x,l[i]? = some x->∃ y,f x=some y/\r[i]? = some y:=by
 intro l;induction l with
 | nil=>intro r h; simp at h; subst h; exact⟨rfl,λi x hx=>by simp at hx⟩
 | cons a l ih=>
  intro r h;rw[qcU]at h;cases hf:f a with
  | none=>rw[hf]at h; cases h
  | some b=>
   rw[hf]at h;cases hm:l.mapM f with
   | none=>rw[hm]at h; cases h
   | some r'=>
    rw[hm]at h;cases h;obtain⟨h1,h2⟩:=ih hm;refine⟨by simp[h1],λi x hx=>?_⟩;cases i with
    | zero=>simp at hx; subst hx; exact⟨b,hf,rfl⟩
    | succ i=>simpa using h2 i x (by simpa using hx)
theorem zsE{w:World}{base n:Nat}{a:Addr}{cs:List Value}(h:w.cells? base a n=some cs):cs.length=n/\∀ i,i<n->∃ v,w.cell? (a.add i)=some v/\cs[i]? = some v:=by
 unfold World.cells? at h;split at h
 .obtain⟨h1,h2⟩:=zgP h;refine⟨by simpa using h1,λi hi=>h2 i i (by simp[hi])⟩
 cases h
theorem zoO{l:List CT}:∀(n i:Nat),i<n * l.length->(List.replicate n l).flatten[i]? = l[i % l.length]?
 | 0,i,h=>by simp at h
 | n+1,i,h=>by
  rw[qaU,qbn];by_cases hi:i<l.length
  .rw[qaf hi,qbz hi]
  have e:i % l.length=(i - l.length) % l.length:=Nat.mod_eq_sub_mod (by omega);have h2:(n+1)* l.length=n * l.length+l.length:=qb7 ..;rw[qak (by omega),zoO n (i - l.length) (by omega),e]
section
variable {H:Type} {enc:TypeId×Value->H} {P:Program} {w:World}
variable{fuel:Nat}{t:TypeId}{x:DataW H×List MemPlace}
theorem trod_bool{cs:List Value}(hu:P.underlying t=some .bool)(h:DataW.trod enc P w 0 (λ_=>true) true (fuel+1) t cs=some x):∃ b,cs=[.bool b]:=by
 rcases cs with _ | ⟨v,_ | ⟨v2,r⟩⟩
 .simp[DataW.trod,hu]at h
 .cases v<;>simp[DataW.trod,hu]at h;exact⟨_,rfl⟩
 simp[DataW.trod,hu]at h
theorem trod_int{k:IntKind}{cs:List Value}(hu:P.underlying t=some (.int k))(h:DataW.trod enc P w 0 (λ_=>true) true (fuel+1) t cs=some x):∃ n,cs=[.int k n]/\(Lit.int k n).wf=true:=by
 rcases cs with _ | ⟨v,_ | ⟨v2,r⟩⟩
 .simp[DataW.trod,hu]at h
 .cases v<;>simp[DataW.trod,hu]at h;obtain⟨⟨rfl,h1⟩,_⟩:=h;exact⟨_,rfl,h1⟩
 simp[DataW.trod,hu]at h
theorem trod_slice{e:TypeId}{cs:List Value}(hu:P.underlying t=some (.slice e))(h:DataW.trod enc P w 0 (λ_=>true) true (fuel+1) t cs=some x):
  cs=[.slice none 0 0]\/∃ a len cap,cs=[.slice (some a) len cap]/\len<=cap/\cap<=maxLen/\∀ i,i<cap->∃ cs' y,w.cells? 0 (a.add (i * P.cellsOf e)) (P.cellsOf e)=some cs'/\DataW.trod enc P w 0 (λ_=>true) true fuel e cs'=some y:=by
 rcases cs with _ | ⟨v,_ | ⟨v2,r⟩⟩
 .simp[DataW.trod,hu]at h
 .cases v with
  | slice a len cap=>
   cases a with
   | none=>
    left;cases len<;>cases cap<;>simp[DataW.trod,hu]at h ⊢
   | some a=>
    right;refine⟨a,len,cap,rfl,?_⟩;simp only[DataW.trod,hu]at h;split at h
    .rename_i hc;obtain⟨_,h1,h2⟩:=hc;refine⟨h1,h2,λi hi=>?_⟩;rw[qa1]at h;obtain⟨els,h3,h4⟩:=h;rw[qam]at h4;obtain⟨rest,h5,_⟩:=h4;simp only[if_true]at h5;have key:∃ y,((w.cells? 0 (a.add (i * P.cellsOf e)) (P.cellsOf e)).bind (DataW.trod enc P w 0 (λ_=>true) true fuel e))=some y:=by
      by_cases hl:i<len
      .obtain⟨y,h6,_⟩:=(zgP h3).2 i i (by simp[hl]);exact⟨y,h6⟩
      obtain⟨y,h6,_⟩:=(zgP h5).2 (i - len) (i - len) (qbR (by omega));rw[show len+(i - len)=i by omega]at h6;exact⟨y,h6⟩
     obtain⟨y,hy⟩:=key;rw[qa1]at hy;obtain⟨cs',h7,h8⟩:=hy;exact⟨cs',y,h7,h8⟩
    .cases h
  | _=>simp[DataW.trod,hu]at h
 simp[DataW.trod,hu]at h
theorem trod_struct{fs:Array Field}{cs:List Value}(hu:P.underlying t=some (.struct fs))(h:DataW.trod enc P w 0 (λ_=>true) true (fuel+1) t cs=some x):
  cs.length=P.cellsOf t/\∀ fd∈fs.toList,∃ y,DataW.trod enc P w 0 (λ_=>true) true fuel fd.type ((cs.drop fd.offset).take (P.cellsOf fd.type))=some y:=by
 simp only[DataW.trod,hu]at h;split at h
 .rename_i hc;refine⟨hc,λfd hf=>?_⟩;rw[qam]at h;obtain⟨xs,h1,_⟩:=h;obtain⟨i,hi⟩:=qbH hf;obtain⟨y,h2,_⟩:=(zgP h1).2 i fd hi;exact⟨y,h2⟩
 cases h
theorem zqt{n:Nat}{e:TypeId}{cs:List Value}(hu:P.underlying t=some (.array n e))(h:DataW.trod enc P w 0 (λ_=>true) true (fuel+1) t cs=some x):
  cs.length=P.cellsOf t/\∀ i,i<n->∃ y,DataW.trod enc P w 0 (λ_=>true) true fuel e ((cs.drop (i * P.cellsOf e)).take (P.cellsOf e))=some y:=by
 simp only[DataW.trod,hu]at h;split at h
 .rename_i hc;refine⟨hc,λi hi=>?_⟩;rw[qam]at h;obtain⟨xs,h1,_⟩:=h;obtain⟨y,h2,_⟩:=(zgP h1).2 i i (by simp[hi]);exact⟨y,h2⟩
 cases h
def zo3(P:Program)(f:Nat)(acc:Option (List CT))(fd:Field):Option (List CT):=match acc with
 | some l=>(match zdL P f fd.type with
  | some m=>if fd.offset=l.length/\m.length=P.cellsOf fd.type then some (l ++ m)else none
  | none=>none)
 | none=>none
theorem zmT(f:Nat)(fs:List Field):fs.foldl (zo3 P f) none=none:=by
 induction fs with
 | nil=>rfl
 | cons a fs ih=>exact ih
theorem zmQ{f:Nat}{cs:List Value}:∀(fs:List Field) (l r:List CT),(∀ fd∈fs,∀ m,zdL P f fd.type=some m->Fits w m ((cs.drop fd.offset).take (P.cellsOf fd.type)))->Fits w l (cs.take l.length)->
  fs.foldl (zo3 P f) (some l)=some r->Fits w r (cs.take r.length)
 | [],l,r,_,h1,h2=>by simp at h2; subst h2; exact h1
 | fd :: fs,l,r,h0,h1,h2=>by
  rw[qbO]at h2;cases hm:zdL P f fd.type with
  | none=>simp only[zo3,hm]at h2; rw[zmT]at h2; cases h2
  | some m=>
   simp only[zo3,hm]at h2;split at h2
   .rename_i hc;have hb:=h0 fd (by simp) m hm;rw[hc.1,<- hc.2]at hb;have e1:=h1.len;have e2:=hb.len;simp only[qbh,qca]at e1 e2;refine zmQ fs (l ++ m) r (λfd' hf=>h0 fd' (by simp[hf])) (Fits.app ?_ ?_ ?_) h2
    .rw[qav,List.take_take,qbd (by omega)]; exact h1
    .rw[qav,List.drop_take,qbF,List.take_take,Nat.min_self]; exact hb
    simp only[qbh,qav]; omega
   rw[zmT]at h2; cases h2
theorem zhA:∀(f fuel:Nat) (t:TypeId) (cs:List Value) (x:DataW H×List MemPlace) (cts:List CT),DataW.trod enc P w 0 (λ_=>true) true fuel t cs=some x->zdL P f t=some cts->Fits w cts cs
 | f,0,t,cs,x,cts,h,_=>by simp[DataW.trod]at h
 | 0,fuel+1,t,cs,x,cts,_,hf=>by simp[zdL]at hf
 | f+1,fuel+1,t,cs,x,cts,h,hf=>by
  have ih:=zhA f fuel;rw[zdL]at hf;split at hf
  .rename_i hu;cases hf;obtain⟨b,rfl⟩:=trod_bool hu h;exact Fits.one (.bool b)
  .rename_i k hu;cases hf;obtain⟨n,rfl,h1⟩:=trod_int hu h;exact Fits.one (.int k n h1)
  .rename_i e hu;split at hf
   .rename_i l hl;split at hf
    .rename_i hc;cases hf;rcases trod_slice hu h with rfl | ⟨a,len,cap,rfl,h1,h2,h3⟩
     .exact Fits.one (.nil l hc.1)
     have key:∀ m,m<cap * l.length->∃ v,w.cell? (a.add m)=some v/\∀ ct,l[m % l.length]? = some ct->Fit w ct v:=by
      intro m hm;have hd:m / l.length<cap:=(qdd hc.1).2 hm;have hmod:m % l.length<l.length:=qbM _ hc.1;obtain⟨cs',y,h4,h5⟩:=h3 (m / l.length) hd;rw[<- hc.2]at h4;obtain⟨h6,h7⟩:=zsE h4;obtain⟨v,h8,h9⟩:=h7 (m % l.length) hmod;refine⟨v,?_,λct hct=>(ih e cs' y l h5 hl).fit _ ct v hct h9⟩;rw[zxX,show m / l.length * l.length+m % l.length=m by rw[qbx]; exact qcs m _]at h8;exact h8
     refine Fits.one (.sl l a len cap (λm=>(w.cell? (a.add m)).getD (.bool true)) hc.1 h1 (by unfold maxLen at h2; omega) (λm hm=>?_) λm ct hm hct=>?_)
     .obtain⟨v,h4,_⟩:=key m hm;simp[h4]
     obtain⟨v,h4,h5⟩:=key m hm;simp[h4,h5 ct hct]
    cases hf
   cases hf
  .rename_i fs hu;obtain⟨h1,h2⟩:=trod_struct hu h;split at hf
   .rename_i l hl;split at hf
    .rename_i hc;cases hf
     have:=zmQ (P:=P) (f:=f) (w:=w) (cs:=cs) fs.toList [] cts (λfd hfd m hm=>by
      obtain⟨y,hy⟩:=h2 fd hfd
      exact ih _ _ y m hy hm) ⟨by simp,λi ct v h3=>by simp at h3⟩ hl
     rwa [hc,<- h1,List.take_length]at this
    cases hf
   cases hf
  .rename_i n e hu;obtain⟨h1,h2⟩:=zqt hu h;split at hf
   .rename_i l hl;split at hf
    .rename_i hc;cases hf;refine⟨by simp[h1,<- hc.2.2],λi ct v h3 h4=>?_⟩;have hi:=(qab.1 h4).1;rw[h1,<- hc.2.2]at hi;rw[zoO n i hi]at h3;have hd:i / l.length<n:=(qdd hc.1).2 hi;have hmod:i % l.length<l.length:=qbM _ hc.1;obtain⟨y,hy⟩:=h2 _ hd;refine(ih _ _ y l hy hl).fit _ ct v h3 ?_;rw[qaA,if_pos (by omega),qaB,<- hc.2.1,show i / l.length * l.length+i % l.length=i by rw[qbx]; exact qcs i _];exact h4
    cases hf
   cases hf
  cases hf
end
end Go.Lx
namespace Go.Lx
open Go Go.Mx Go.RowKit
structure GH (w:World) (ι:Io) (h:zaj):Prop where
 obj:∀ β o,h[β]? = some o->∃ cs b s sz arr T fr,o=.blk cs/\ι β=some (b,s,sz)/\w.heap[b]? = some (.cells arr T fr)/\arr.size=sz/\s+cs.length<=sz /\
   (∀(k:Nat) v,cs[k]? = some v->∃ u,arr[s+k]? = some u/\VRel ι v u/\u.oneCell'=true)
 scope:∀ β x,ι β=some x->β<h.length
theorem GH.nil(w:World):GH w (λ_=>none) []:=⟨λβ o h=>(by simp at h),λβ x h=>(by cases h)⟩
def cxH(h:zaj):Cx:=⟨zas h,λ_=>none,λ_=>none,h.length⟩
theorem zzb(h:zaj):(cxH h).frz false=cxH h:=by simp[cxH,Cx.frz]
structure ExtH (ι:Io) (h:zaj) (ι':Io) (h':zaj):Prop where
 le:Io.le ι ι'
 pre:∃ r,h'=h ++ r
theorem ExtH.refl(ι:Io)(h:zaj):ExtH ι h ι h:=⟨Io.le.refl _,[],by simp⟩
theorem ExtH.trans{ι ι' ι'':Io}{h h' h'':zaj}(a:ExtH ι h ι' h')(b:ExtH ι' h' ι'' h''):ExtH ι h ι'' h'':=by
 obtain⟨a1,r,rfl⟩:=a;obtain⟨b1,r',rfl⟩:=b;exact⟨a1.trans b1,r ++ r',by simp⟩
theorem R.ext{ι ι':Io}{h h':zaj}{d:D}{v:V}(e:ExtH ι h ι' h')(hr:R (cxH h) d v):R (cxH h') d v:=by
 obtain⟨_,r,rfl⟩:=e;refine hr.mono ⟨λb cs hb=>?_,λb cs hb=>(by cases hb),λβ x hx=>(by cases hx),λb cs cs' hb=>(by cases hb)⟩;have h1:=zcn hb;have h2:=(qab.1 h1).1;show zas (h ++ r) b=some cs;unfold zas;rw[qaf h2,h1]
inductive ShD:CT->D->Prop
 | bool (b:Bool):ShD .bool (.lit (.bool b))
 | int (k:IntKind) (n:Int):(Lit.int k n).wf=true->ShD (.int k) (.lit (.int k n))
 | sl (cts:List CT) (els:List (List D)):0<cts.length->els.length<2 ^ 63->(∀(i:Nat) cells,els[i]? = some cells->cells.length=cts.length)->
   (∀(i:Nat) cells (k:Nat) ct d,els[i]? = some cells->cts[k]? = some ct->cells[k]? = some d->ShD ct d)->ShD (.sl cts) (.fz false cts.length els)
theorem zk6{w:World}{n:Nat}{row:Nat->Value}{T:Nat->D->Prop}
  (hop:∀ m,m<n->∀ ι h,GH w ι h->∃ ι' h' v d,GH w ι' h'/\ExtH ι h ι' h'/\VRel ι' v (row m)/\R (cxH h') d v/\T m d):∀ k,k<=n->∀ ι h,GH w ι h ->
  ∃(ι':Io) (h':zaj) (vs:List V) (ds:List D),GH w ι' h'/\ExtH ι h ι' h'/\vs.length=k/\ds.length=k/\(∀(m:Nat) v,vs[m]? = some v->VRel ι' v (row m))/\(∀(m:Nat) d v,ds[m]? = some d->vs[m]? = some v->R (cxH h') d v)/\(∀(m:Nat) d,ds[m]? = some d->T m d)
 | 0,_,ι,h,hG=>⟨ι,h,[],[],hG,.refl _ _,rfl,rfl,λm v h=>(by simp at h),λm d v h=>(by simp at h),λm d h=>(by simp at h)⟩
 | k+1,hk,ι,h,hG=>by
  obtain⟨ι1,h1,vs,ds,a1,a2,a3,a4,a5,a6,a7⟩:=zk6 hop k (by omega) ι h hG;obtain⟨ι2,h2,v,d,b1,b2,b3,b4,b5⟩:=hop k (by omega) ι1 h1 a1;have key:∀ {α:Type} (l:List α) (x y:α) (m:Nat),l.length=k->(l ++ [x])[m]? = some y->(m<k/\l[m]? = some y)\/(m=k/\y=x):=by
   intro α l x y m hl hm;by_cases hlt:m<l.length
   .rw[qaf hlt]at hm; exact .inl ⟨by omega,hm⟩
   rw[qak (by omega)]at hm;have:=(qab.1 hm).1;simp at this;have hm0:m - l.length=0:=by omega
   rw[hm0]at hm;simp at hm;exact .inr ⟨by omega,hm.symm⟩
  refine⟨ι2,h2,vs ++ [v],ds ++ [d],b1,a2.trans b2,by simp[a3],by simp[a4],λm x hx=>?_,λm x y hx hy=>?_,λm x hx=>?_⟩
  .rcases key vs v x m a3 hx with⟨_,h3⟩| ⟨rfl,rfl⟩
   .exact(a5 m x h3).mono b2.le
   exact b3
  .rcases key ds d x m a4 hx with⟨c1,h3⟩| ⟨rfl,rfl⟩
   .rcases key vs v y m a3 hy with⟨_,h4⟩| ⟨c2,_⟩
    .exact(a6 m x y h3 h4).ext b2
    omega
   rcases key vs v y _ a3 hy with⟨c1,h4⟩| ⟨_,rfl⟩
   .omega
   exact b4
  rcases key ds d x m a4 hx with⟨_,h3⟩| ⟨rfl,rfl⟩
  .exact a7 m x h3
  exact b5
theorem GH.more{w:World}{ι:Io}{h:zaj}(hG:GH w ι h){vs:List V}{b s:Nat}{arr:Array Value}{T:TypeId}{fr:Nat×Nat}(hb:w.heap[b]? = some (.cells arr T fr))(hs:s+vs.length<=arr.size)
  (hv:∀(k:Nat) v,vs[k]? = some v->∃ u,arr[s+k]? = some u/\VRel ι v u/\u.oneCell'=true):GH w (ι.ext h.length (b,s,arr.size)) (h ++ [.blk vs])/\ExtH ι h (ι.ext h.length (b,s,arr.size)) (h ++ [.blk vs]):=by
 have hle:Io.le ι (ι.ext h.length (b,s,arr.size)):=λβ y hy=>by
  have:=hG.scope β y hy;simp only[Io.ext];rw[if_neg (by omega)]; exact hy
 refine⟨⟨λβ o ho=>?_,λβ x hx=>?_⟩,hle,_,rfl⟩
 .by_cases hlt:β<h.length
  .rw[qaf hlt]at ho;obtain⟨cs,b',s',sz',arr',T',fr',g1,g2,g3,g4,g5,g6⟩:=hG.obj β o ho
   exact⟨cs,b',s',sz',arr',T',fr',g1,hle _ _ g2,g3,g4,g5,λk v hk=>by
    obtain⟨u,k1,k2,k3⟩:=g6 k v hk
    exact⟨u,k1,k2.mono hle,k3⟩⟩
  have hβ:β=h.length:=by
   have:=(qab.1 ho).1;simp at this;omega
  subst hβ;rw[qak (by omega)]at ho;simp at ho;subst ho
  exact⟨vs,b,s,arr.size,arr,T,fr,rfl,Io.zaE _ _ _,hb,rfl,hs,λk v hk=>by
   obtain⟨u,k1,k2,k3⟩:=hv k v hk
   exact⟨u,k1,k2.mono hle,k3⟩⟩
 simp only[Io.ext]at hx;split at hx
 .rename_i he; subst he; simp
 have:=hG.scope β x hx; simp; omega
theorem zrT{w:World}{a:Addr}{v:Value}(h:w.cell? a=some v):∃ arr T fr,w.heap[a.block]? = some (.cells arr T fr)/\a.spot=none/\arr[a.off]? = some v:=by
 unfold World.cell? at h;split at h
 .rename_i c T fr hc;split at h
  .cases h
  rename_i hs;exact⟨c,T,fr,hc,by simpa using hs,h⟩
 cases h
theorem zlv{w:World}{ct:CT}{u:Value}(hf:Fit w ct u):u.oneCell'=true/\∀ ι h,GH w ι h->∃ ι' h' v d,GH w ι' h'/\ExtH ι h ι' h'/\VRel ι' v u/\R (cxH h') d v/\ShD ct d:=by
 induction hf with
 | bool b=>exact⟨rfl,λι h hG=>⟨ι,h,_,_,hG,.refl _ _,.lit _,.lit _,.bool b⟩⟩
 | int k n hw=>exact⟨rfl,λι h hG=>⟨ι,h,_,_,hG,.refl _ _,.lit _,.lit _,.int k n hw⟩⟩
 | nil cts hc=>exact⟨rfl,λι h hG=>⟨ι,h,_,_,hG,.refl _ _,.lit _,.fzn,.sl cts [] hc (by decide) (λi c h=>by simp at h) λi c k ct d h=>by simp at h⟩⟩
 | sl cts a len cap row hc hlen hcap hcell hfit ih=>
  refine⟨rfl,λι h hG=>?_⟩;rcases qc2 cap with h0 | hpos
  .subst h0;obtain rfl:len=0:=by omega
   exact⟨ι,h,.sl 0 0 cts.length 0 (some 0),_,hG,.refl _ _,.sl0 _ _ _ _ _ hc (λc h=>by cases h; rfl) (λh=>by cases h),.fz0,.sl cts [] hc (by decide) (λi c h=>by simp at h) λi c k ct d h=>by simp at h⟩
  have hrow:=zk6 (w:=w) (n:=cap * cts.length) (row:=row) (T:=λm d=>∀ ct,cts[m % cts.length]? = some ct->ShD ct d) (λm hm ι h hG=>by
   have hmod:=qbM m hc;have hg:cts[m % cts.length]? = some (cts[m % cts.length]):=qac hmod;obtain⟨ι',h',v,d,b1,b2,b3,b4,b5⟩:=(ih m _ hm hg).2 ι h hG
   exact⟨ι',h',v,d,b1,b2,b3,b4,λct hct=>by rw[hg]at hct; cases hct; exact b5⟩) (cap * cts.length) (qap _) ι h hG
  obtain⟨ι1,h1,vs,ds,a1,a2,a3,a4,a5,a6,a7⟩:=hrow;have hn:0<cap * cts.length:=Nat.mul_pos hpos hc;obtain⟨arr,T,fr,c1,c2,c3⟩:=zrT (hcell 0 hn);obtain⟨blk,off,spot⟩:=a;simp only[Addr.add,if_true]at c1 c2 c3;subst c2;have hat:∀ m,m<cap * cts.length->arr[off+m]? = some (row m):=by
   intro m hm;obtain⟨arr',T',fr',d1,d2,d3⟩:=zrT (hcell m hm);by_cases hm0:m=0
   .subst hm0; exact c3
   simp only[Addr.add,if_neg hm0]at d1 d3;rw[c1]at d1;cases d1;exact d3
  have hsz:off+cap * cts.length<=arr.size:=by
   have:=(qaR.1 (hat (cap * cts.length - 1) (by omega))).1;omega
  obtain⟨e1,e2⟩:=a1.more (vs:=vs) (s:=off) c1 (by rw[a3]; exact hsz) (λk v hk=>by
   have hkl:=(qab.1 hk).1;rw[a3]at hkl;have hmod:=qbM k hc
   exact⟨row k,hat k hkl,a5 k v hk,(ih k _ hkl (qac hmod)).1⟩)
  let els:List (List D):=(List.range len).map λi=>(ds.drop (i * cts.length)).take cts.length
  have hel:els.length=len:=by simp[els]
  have hget:∀(i:Nat) cells,els[i]? = some cells->i<len/\cells=(ds.drop (i * cts.length)).take cts.length:=by
   intro i cells hi;have hi':=(qab.1 hi).1;rw[hel]at hi';simp only[els,qaO,qbR hi',qaM,qad]at hi;exact⟨hi',hi.symm⟩
  have hroom:∀ i,i<len->i * cts.length+cts.length<=cap * cts.length:=λi hi=>by
   rw[<- qb7]; exact qaE _ (by omega)
  have hcl:∀(i:Nat) cells,els[i]? = some cells->cells.length=cts.length:=by
   intro i cells hi;obtain⟨g1,rfl⟩:=hget i cells hi;have:=hroom i g1;simp only[qbh,qca,a4];omega
  have hcell2:∀(i:Nat) cells (k:Nat) d,els[i]? = some cells->cells[k]? = some d->ds[i * cts.length+k]? = some d/\k<cts.length:=by
   intro i cells k d hi hk;have hkl:=(qab.1 hk).1;rw[hcl i cells hi]at hkl;obtain⟨g1,rfl⟩:=hget i cells hi;rw[qaA,if_pos hkl,qaB]at hk;exact⟨hk,hkl⟩
  refine⟨_,_,.sl h1.length 0 cts.length len (some cap),.fz false cts.length els,e1,a2.trans e2,?_,?_,.sl cts els hc (by rw[hel]; omega) hcl λi cells k ct d g1 g2 g3=>?_⟩
  .exact .sl h1.length 0 cts.length len (some cap) blk off arr.size cap (Io.zaE _ _ _) (by omega) hlen hcap hc (λc h=>by cases h; rfl) (λh=>by cases h)
  .have:=R.fz (c:=cxH (h1 ++ [.blk vs])) (t:=false) (n:=cts.length) (els:=els) (b:=h1.length) (o:=0) (cap:=some cap) (cs:=vs) (by simp[Cx.look,cxH,zas]) hc (λk h=>by cases h; rw[hel]; exact hlen)
    (by rw[hel,a3,qaK]; exact qaE _ hlen) hcl (λi cells k d v g1 g2 g3=>by
     rw[zzb];rw[qaK]at g3
     exact(a6 _ d v (hcell2 i cells k d g1 g2).1 g3).ext e2)
   rwa [hel]at this
  obtain⟨g4,g5⟩:=hcell2 i cells k d g1 g3;refine a7 _ d g4 ct ?_;rw[qbx,Nat.mul_add_mod,qbz g5];exact g2
theorem zur{w:World}{cts:List CT}{cs:List Value}(hf:Fits w cts cs)(ι:Io)(h:zaj)(hG:GH w ι h):(∀ u∈cs,u.oneCell'=true)/\∃(ι':Io) (h':zaj) (vs:List V) (ds:List D),GH w ι' h'/\ExtH ι h ι' h'/\vs.length=cs.length/\ds.length=cts.length /\
  (∀(m:Nat) v u,vs[m]? = some v->cs[m]? = some u->VRel ι' v u)/\Rs (cxH h') ds vs/\(∀(m:Nat) ct d,cts[m]? = some ct->ds[m]? = some d->ShD ct d):=by
 have key:∀ m,m<cs.length->∃ ct u,cts[m]? = some ct/\cs[m]? = some u/\Fit w ct u:=λm hm=>by
  have h1:cs[m]? = some cs[m]:=qac hm;have h2:cts[m]? = some (cts[m]'(by rw[<- hf.len]; exact hm)):=qac _;exact⟨_,_,h2,h1,hf.fit m _ _ h2 h1⟩
 refine⟨λu hu=>?_,?_⟩
 .obtain⟨i,hi⟩:=qbH hu;obtain⟨ct,u',_,h2,h3⟩:=key i (qab.1 hi).1;rw[hi]at h2;cases h2;exact(zlv h3).1
 obtain⟨ι1,h1,vs,ds,a1,a2,a3,a4,a5,a6,a7⟩:=zk6 (w:=w) (n:=cs.length) (row:=λm=>cs[m]?.getD (.bool true)) (T:=λm d=>∀ ct,cts[m]? = some ct->ShD ct d) (λm hm ι h hG=>by
  obtain⟨ct,u,g1,g2,g3⟩:=key m hm;obtain⟨ι',h',v,d,b1,b2,b3,b4,b5⟩:=(zlv g3).2 ι h hG
  exact⟨ι',h',v,d,b1,b2,by simpa [g2]using b3,b4,λct' hct=>by rw[g1]at hct; cases hct; exact b5⟩) cs.length (qap _) ι h hG
 refine⟨ι1,h1,vs,ds,a1,a2,a3,by rw[a4,hf.len],λm v u g1 g2=>?_,⟨by rw[a3,a4],a6⟩,λm ct d g1 g2=>a7 m d g2 ct g1⟩;have:=a5 m v g1;simpa [g2]using this
def ztu(P:Program)(t:TypeId):Bool:=match P.underlying t with
 | some (.struct _)=>true
 | some (.array _ _)=>true
 | _=>false
inductive ShA (P:Program) (f:Nat):TypeId->D->Prop
 | agg {t:TypeId} {ds:List D} {cts:List CT}:ztu P t=true->zdL P f t=some cts->ds.length=cts.length->(∀(m:Nat) ct d,cts[m]? = some ct->ds[m]? = some d->ShD ct d)->ShA P f t (.agg ds)
 | one {t:TypeId} {d:D} {ct:CT}:ztu P t=false->zdL P f t=some [ct]->ShD ct d->ShA P f t d
inductive ShAs (P:Program) (f:Nat):List TypeId->List D->Prop
 | nil:ShAs P f [] []
 | cons {t:TypeId} {d:D} {ts:List TypeId} {ds:List D}:ShA P f t d->ShAs P f ts ds->ShAs P f (t :: ts) (d :: ds)
section
variable {H:Type} {enc:TypeId×Value->H} {P:Program} {w:World}
variable{ps:List MemPlace}
theorem zwB{f:Nat}{t:TypeId}{v:Value}{d:DataW H}{b0:Nat}(hv:Value.okWide P w .any b0 t v)(hd:DataW.Trod enc P w 0 (λ_=>true) true t v d ps){cts:List CT}(hf:zdL P f t=some cts)(ι:Io)(h:zaj)(hG:GH w ι h):
  ∃ ι' h' x e,GH w ι' h'/\ExtH ι h ι' h'/\VRel ι' x v/\R (cxH h') e x/\ShA P f t e:=by
 obtain⟨fuel,hd⟩:=hd;have hfits:=zhA f fuel t _ _ cts hd hf;cases hag:ztu P t with
 | true=>
  have:∃ cs,v=.agg cs:=by
   unfold Value.okWide at hv;unfold ztu at hag;split at hv
   .exact⟨_,hv.choose_spec.1⟩
   .exact⟨_,hv.choose_spec.1⟩
   rename_i h1 h2;split at hag
   .rename_i h3; exact absurd h3 (h1 _)
   .rename_i h3; exact absurd h3 (h2 _ _)
   cases hag
  obtain⟨arr,rfl⟩:=this;obtain⟨h1,ι',h',vs,ds,a1,a2,a3,a4,a5,a6,a7⟩:=zur hfits ι h hG;simp only[Value.cells]at h1 a3 a5;refine⟨ι',h',.agg vs,.agg ds,a1,a2,.agg vs arr (by simpa using a3.symm) (λi x v g1 g2=>a5 i x v g1 (by simpa using g2)) (λi v g=>h1 v ?_),.agg a6.1 a6.2,.agg hag hf a4 a7⟩;have:=Array.mem_of_getElem? g;simpa using this
 | false=>
  have hcell:Cell.okWide P w .any b0 t v:=by
   unfold Value.okWide at hv;unfold ztu at hag;split at hv
   .rename_i h3; simp[h3]at hag
   .rename_i h3; simp[h3]at hag
   exact hv
  have hone:(∃ ct,cts=[ct])/\v.cells = #[v]:=by
   cases f with
   | zero=>simp[zdL]at hf
   | succ f=>
    rw[zdL]at hf;unfold ztu at hag;split at hf
    .rename_i hu;cases hf;refine⟨⟨_,rfl⟩,?_⟩;cases v<;>first | rfl | (simp[Cell.okWide,Cell.ok,hu]at hcell)
    .rename_i k hu;cases hf;refine⟨⟨_,rfl⟩,?_⟩;cases v<;>first | rfl | (simp[Cell.okWide,Cell.ok,hu]at hcell)
    .rename_i e hu;split at hf
     .split at hf
      .cases hf;refine⟨⟨_,rfl⟩,?_⟩;cases v<;>first | rfl | (simp[Cell.okWide,Cell.ok,hu]at hcell)
      cases hf
     cases hf
    .rename_i hu; simp[hu]at hag
    .rename_i hu; simp[hu]at hag
    cases hf
  obtain⟨⟨ct,rfl⟩,hc⟩:=hone;rw[hc]at hfits;obtain⟨ι',h',x,e,a1,a2,a3,a4,a5⟩:=(zlv (hfits.fit 0 ct v rfl rfl)).2 ι h hG;exact⟨ι',h',x,e,a1,a2,a3,a4,.one hag hf a5⟩
theorem zmk{f:Nat}{b0:Nat}:∀ {ts:List TypeId} {vs:List Value} {ds:List (DataW H)} {ps:List MemPlace},(∀(j:Nat) t v,ts[j]? = some t->vs[j]? = some v->Value.okWide P w .any b0 t v)->DataW.TrodAll enc P w 0 (λ_=>true) true ts vs ds ps ->
  (∀ t∈ts,(zdL P f t).isSome=true)->∀ ι h,GH w ι h->∃(ι':Io) (h':zaj) (xs:List V) (es:List D),GH w ι' h'/\ExtH ι h ι' h'/\xs.length=vs.length/\(∀(j:Nat) x v,xs[j]? = some x->vs[j]? = some v->VRel ι' x v)/\Rs (cxH h') es xs/\ShAs P f ts es
 | [],vs,ds,ps,_,hd,_,ι,h,hG=>by
  cases vs with
  | nil=>exact⟨ι,h,[],[],hG,.refl _ _,rfl,λj x v h=>(by simp at h),Rs.nil _,.nil⟩
  | cons v vs=>simp[DataW.TrodAll]at hd
 | t :: ts,vs,ds,ps,hv,hd,hf,ι,h,hG=>by
  cases vs with
  | nil=>simp[DataW.TrodAll]at hd
  | cons v vs=>
   cases ds with
   | nil=>simp[DataW.TrodAll]at hd
   | cons d ds=>
    obtain⟨p,q,h1,h2,_⟩:=hd;obtain⟨cts,hcts⟩:=qa3.1 (hf t (by simp));obtain⟨ι1,g1,x,e,a1,a2,a3,a4,a5⟩:=zwB (hv 0 t v rfl rfl) h1 hcts ι h hG;obtain⟨ι2,g2,xs,es,b1,b2,b3,b4,b5,b6⟩:=zmk (λj t' v' k1 k2=>hv (j+1) t' v' (by simpa using k1) (by simpa using k2)) h2 (λt' ht=>hf t' (by simp[ht])) ι1 g1 a1;refine⟨ι2,g2,x :: xs,e :: es,b1,a2.trans b2,by simp[b3],λj y u k1 k2=>?_,b5.cons (a4.ext b2),.cons a5 b6⟩;cases j with
    | zero=>simp at k1 k2; subst k1; subst k2; exact a3.mono b2.le
    | succ j=>exact b4 j y u (by simpa using k1) (by simpa using k2)
theorem GH.sim{ι:Io}{h:zaj}(hG:GH w ι h):Sim P h.length w ι h w where
 base:=qap _
 below:=Below.refl _ _
 obj β o ho:=by
  obtain⟨cs,b,s,sz,arr,T,fr,rfl,g2,g3,g4,g5,g6⟩:=hG.obj β o ho;exact⟨b,s,sz,arr,T,fr,g2,g3,g4,g5,g6,λhB=>by have:=(qab.1 ho).1; omega⟩
 own β o b s sz ho _ hB _:=by have:=(qab.1 ho).1; omega
 old β o b s sz ho _ _ hι:=by
  obtain⟨cs,b',s',sz',arr,T,fr,rfl,g2,g3,_⟩:=hG.obj β o ho;rw[hι]at g2;cases g2;exact zaw g3
 inj β β' o o' b s sz s' sz' ho _ _ _ hB _ _ _:=by have:=(qab.1 ho).1; omega
 scope:=hG.scope
theorem zsr{m:Mach}(hm:P.follows .mixedOrders=true)(hfns:∀ f fn,m.fns f=some fn->zjd P f fn)(ho:zgQ P m.orc){f g b0:Nat}{ts:List TypeId}{args:Array Value}{ds:List (DataW H)}(hv:∀(j:Nat) t v,ts[j]? = some t->args[j]? = some v->Value.okWide P w .any b0 t v)(hd:DataW.TrodAll enc P w 0 (λ_=>true) true ts args.toList ds ps)(hf:∀ t∈ts,(zdL P g t).isSome=true)(hF:∀ es,ShAs P g ts es->Lx.Fn m f es (.lit (.bool true))):Calls P f args w λe w'=>e=.returned (.bool true)/\Below w.heap.size w w':=by
 obtain⟨ι,h,xs,es,a1,a2,a3,a4,a5,a6⟩:=zmk (f:=g) (λj t v h1 h2=>hv j t v h1 (by simpa using h2)) hd hf (λ_=>none) [] (GH.nil w);obtain⟨N,cr,h',e1,e2,e3,v,zf,rfl,e4,e5⟩:=hF es a6 (zas h) h.length h xs (λb cs hb=>zcn hb) (qap _) a5;cases e5;have hok:=zoD hm hfns ho N;obtain⟨_,hcalls⟩:=(hok.call _ _ _ _ _ _ (e1 N (qap _))).1.1 w ι w args a1.sim ⟨by simpa using a3.symm,λi x v h1 h2=>a4 i x v h1 (by simpa using h2)⟩;have hw:CallsIn Fence.wide 0 P f args w (zeF P h.length w ι (.ret (.lit (.bool true))) h'):=hcalls;refine Calls.mono (callsIn_wide.1 hw) λe w' hp=>?_
 obtain⟨ι',_,hS',hp⟩:=hp;obtain⟨u,rfl,hv⟩:=hp;cases hv;exact⟨rfl,hS'.below⟩
end
end Go.Lx
namespace Go.Dc
open Go Go.Mx Go.Lx
variable {α β γ:Type}
def okI(k:IntKind)(n:Int):Prop:=(Lit.int k n).wf=true
structure Dec (e:En α) (cts:List CT) (ok:α->Prop):Prop where
 len:cts.length=e.n
 dec:∀ ds:List D,ds.length=cts.length->(∀(m:Nat) ct d,cts[m]? = some ct->ds[m]? = some d->ShD ct d)->∃ x,ok x/\ds=e.c false x
theorem zDk{α:Type}{l:List α}(h:l.length=1):∃ a,l=[a]:=by
 match l,h with
 | [a],_=>exact⟨a,rfl⟩
theorem Dec.int(k:IntKind):Dec (eI k) [.int k] (okI k):=⟨rfl,λds hl hs=>by
 obtain⟨d,rfl⟩:=zDk hl;have:=hs 0 _ _ rfl rfl;cases this with
 | int k n hw=>exact⟨n,hw,rfl⟩⟩
theorem zoS{α β:Type}{f:α->β}{T:α->Prop}:∀ {l:List β},(∀ y∈l,∃ x,T x/\y=f x)->∃ xs:List α,(∀ x∈xs,T x)/\l=xs.map f
 | [],_=>⟨[],λx h=>(by cases h),rfl⟩
 | y :: l,h=>by
  obtain⟨x,hx,rfl⟩:=h y (by simp);obtain⟨xs,hxs,rfl⟩:=zoS (l:=l) (f:=f) (T:=T) λy hy=>h y (by simp[hy])
  exact⟨x :: xs,λz hz=>by
   rcases qbc.1 hz with rfl | hz
   .exact hx
   exact hxs z hz,rfl⟩
def okL(ok:α->Prop)(xs:List α):Prop:=xs.length<2 ^ 63/\∀ x∈xs,ok x
variable{e:En α}{cts:List CT}
theorem Dec.list{ok:α->Prop}(h:Dec e cts ok):Dec (eL e) [.sl cts] (okL ok):=⟨rfl,λds hl hs=>by
 obtain⟨d,rfl⟩:=zDk hl;have h0:=hs 0 _ _ rfl rfl;cases h0 with
 | sl _ els h1 h2 h3 h4=>
  obtain⟨xs,g1,g2⟩:=zoS (l:=els) (f:=e.c false) (T:=ok) λcells hc=>by
   obtain⟨i,hi⟩:=qbH hc;exact h.dec cells (h3 i cells hi) λm ct d q1 q2=>h4 i cells m ct d hi q1 q2
  subst g2;refine⟨xs,⟨by simpa using h2,g1⟩,?_⟩
  rw[zBY,fzE,h.len]⟩
theorem Dec.pair{g:En β}{c1 c2:List CT}{o1:α->Prop}{o2:β->Prop}(h1:Dec e c1 o1)(h2:Dec g c2 o2):Dec (eP e g) (c1 ++ c2) (λx=>o1 x.1/\o2 x.2):=⟨by rw[qav,h1.len,h2.len]; rfl,λds hl hs=>by
 rw[qav]at hl;obtain⟨x,k1,k2⟩:=h1.dec (ds.take c1.length) (by rw[qbh]; omega) λm ct d q1 q2=>by
  have hm:=(qab.1 q1).1;rw[qaA,if_pos hm]at q2;exact hs m ct d (by rw[qaf hm]; exact q1) q2
 obtain⟨y,k3,k4⟩:=h2.dec (ds.drop c1.length) (by rw[qca]; omega) λm ct d q1 q2=>by
  rw[qaB]at q2;exact hs (c1.length+m) ct d (by rw[qak (by omega),qbF]; exact q1) q2
 refine⟨(x,y),⟨k1,k3⟩,?_⟩;show ds=e.c false x ++ g.c false y
 rw[<- k2,<- k4,qco]⟩
theorem Dec.iso{ok:α->Prop}(h:Dec e cts ok)(f:β->α)(i:α->β)(hf:∀ a,f (i a)=a):Dec (eM f e) cts (λx=>ok (f x)):=⟨h.len,λds hl hs=>by
 obtain⟨x,k1,k2⟩:=h.dec ds hl hs
 exact⟨i x,by rw[hf]; exact k1,by rw[k2]; show e.c false x=e.c false (f (i x)); rw[hf]⟩⟩
theorem Dec.agg{e:En α}{cts:List CT}{ok:α->Prop}(h:Dec e cts ok){P:Program}{g:Nat}{t:TypeId}{d:D}(ha:ztu P t=true)(hf:zdL P g t=some cts)(hs:ShA P g t d):∃ x,ok x/\d=.agg (e.c false x):=by
 cases hs with
 | one h1 _ _=>rw[ha]at h1; cases h1
 | agg _ h2 h3 h4=>
  rw[hf]at h2;cases h2;obtain⟨x,k1,rfl⟩:=h.dec _ h3 h4;exact⟨x,k1,rfl⟩
theorem Dec.one{e:En α}{ct:CT}{ok:α->Prop}(h:Dec e [ct] ok){P:Program}{g:Nat}{t:TypeId}{d:D}(ha:ztu P t=false)(hf:zdL P g t=some [ct])(hs:ShA P g t d):∃ x,ok x/\[d]=e.c false x:=by
 cases hs with
 | agg h1 _ _ _=>rw[ha]at h1; cases h1
 | one _ h2 h3=>
  rw[hf]at h2;cases h2;exact h.dec [d] rfl λm ct' d' q1 q2=>by
   cases m with
   | zero=>simp at q1 q2; subst q1; subst q2; exact h3
   | succ m=>simp at q1
theorem ShAs.inv{P:Program}{f:Nat}{t:TypeId}{ts:List TypeId}{es:List D}(h:ShAs P f (t :: ts) es):∃ x r,es=x :: r/\ShA P f t x/\ShAs P f ts r:=by
 cases h with
 | cons h1 h2=>exact⟨_,_,rfl,h1,h2⟩
theorem ShAs.none{P:Program}{f:Nat}{es:List D}(h:ShAs P f [] es):es=[]:=by cases h; rfl
end Go.Dc
