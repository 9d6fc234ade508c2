/-
 Arguments: what the reading of a value says of its cells. Conditions: none.
-/
import Derived.Test.YtbjogdohfhdaiaaGreatErDc4
set_option linter.unusedSimpArgs false
set_option linter.unusedVariables false
namespace Go.Lx
open Go Go.Mx
inductive CT where
 | bool
 | int (k:IntKind)
 | sl (cts:List CT)
def zfa(P:Program):Nat->TypeId->Option (List CT)
 | 0,_=>none
 | f+1,t=>match P.underlying t with
  | some .bool=>some [.bool]
  | some (.int k)=>some [.int k]
  | some (.slice e)=>(match zfa P f e with
   | some l=>if 0<l.length/\l.length=P.cellsOf e then some [.sl l]else none
   | none=>none)
  | some (.struct fs)=>(match fs.toList.foldl (λ(acc:Option (List CT)) fd=>match acc with
    | some l=>(match zfa P f fd.type with
     | some m=>if fd.offset=l.length/\m.length=P.cellsOf fd.type then some (l ++ m)else none
     | none=>none)
    | none=>none) (some [])with
   | some l=>if l.length=P.cellsOf t then some l else none
   | none=>none)
  | some (.array n e)=>(match zfa P f e with
   | some l=>if 0<l.length/\l.length=P.cellsOf e/\n * l.length=P.cellsOf t then some (List.replicate n l).flatten else none
   | none=>none)
  | _=>none
inductive Fit (w:World):CT->Value->Prop
 | bool (b:Bool):Fit w .bool (.bool b)
 | int (k:IntKind) (n:Int):(Lit.int k n).wf=true->Fit w (.int k) (.int k n)
 | nil (cts:List CT):0<cts.length->Fit w (.sl cts) (.slice none 0 0)
 | sl (cts:List CT) (a:Addr) (len cap:Nat) (row:Nat->Value):0<cts.length->len<=cap->cap<2 ^ 63->(∀ m,m<cap * cts.length->w.cell? (a.add m)=some (row m))->
   (∀ m ct,m<cap * cts.length->cts[m % cts.length]? = some ct->Fit w ct (row m))->Fit w (.sl cts) (.slice (some a) len cap)
structure Fits (w:World) (cts:List CT) (cs:List Value):Prop where
 len:cs.length=cts.length
 fit:∀(i:Nat) ct v,cts[i]? = some ct->cs[i]? = some v->Fit w ct v
theorem Fits.one{w:World}{ct:CT}{v:Value}(h:Fit w ct v):Fits w [ct] [v]:=⟨rfl,λi ct' v' h1 h2=>by
 grind⟩
theorem Fits.app{w:World}{a b:List CT}{cs:List Value}(ha:Fits w a (cs.take a.length))(hb:Fits w b ((cs.drop a.length).take b.length))(hl:cs.length=a.length+b.length):Fits w (a ++ b) cs:=by
 grind [Fits]
theorem zCU(a:Addr)(x y:Nat):(a.add x).add y=a.add (x+y):=by
 grind [Addr.add]
theorem zhO{α β:Type}{f:α->Option β}:∀ {l:List α} {r:List β},l.mapM f=some r->r.length=l.length/\∀(i:Nat) x,l[i]? = some x->∃ y,f x=some y/\r[i]? = some y:=by
 intro l;induction l with
 | nil=>simp_all
 | cons a l ih=>
  intro r h;rw[qcZ]at h;cases hf:f a with
  | none=>rw[hf]at h; cases h
  | some b=>
   rw[hf]at h;cases hm:l.mapM f<;>grind
theorem zut{w:World}{base n:Nat}{a:Addr}{cs:List Value}(h:w.cells? base a n=some cs):cs.length=n/\∀ i,i<n->∃ v,w.cell? (a.add i)=some v/\cs[i]? = some v:=by
 unfold World.cells? at h;split at h
 .obtain⟨h1,h2⟩:=zhO h;refine⟨by simpa using h1,λi hi=>h2 i i (by simp[hi])⟩
 cases h
theorem zrK{l:List CT}:∀(n i:Nat),i<n * l.length->(List.replicate n l).flatten[i]? = l[i % l.length]?
 | 0,i,h=>by simp at h
 | n+1,i,h=>by
  rw[qaX,qbl];by_cases hi:i<l.length
  .grind [qbb]
  have e:i % l.length=(i - l.length) % l.length:=Nat.mod_eq_sub_mod (by omega);have h2:(n+1)* l.length=n * l.length+l.length:=qcu ..;rw[qaV (by omega),zrK n (i - l.length) (by omega),e]
section
variable {H:Type} {enc:TypeId×Value->H} {P:Program} {w:World}
variable{fuel:Nat}{t:TypeId}
theorem trod_bool{cs:List Value}{x:DataW H×List MemPlace}(hu:P.underlying t=some .bool)(h:DataW.trod enc P w 0 (λ_=>true) true (fuel+1) t cs=some x):∃ b,cs=[.bool b]:=by
 rcases cs with _ | ⟨v,_ | ⟨v2,r⟩⟩
 .simp[DataW.trod,hu]at h
 .cases v<;>simp[DataW.trod,hu]at h<;>simp_all
 simp[DataW.trod,hu]at h
theorem trod_int{k:IntKind}{cs:List Value}{x:DataW H×List MemPlace}(hu:P.underlying t=some (.int k))(h:DataW.trod enc P w 0 (λ_=>true) true (fuel+1) t cs=some x):∃ n,cs=[.int k n]/\(Lit.int k n).wf=true:=by
 rcases cs with _ | ⟨v,_ | ⟨v2,r⟩⟩
 .simp[DataW.trod,hu]at h
 .cases v<;>simp[DataW.trod,hu]at h<;>simp_all
 simp[DataW.trod,hu]at h
theorem trod_slice{e:TypeId}{cs:List Value}{x:DataW H×List MemPlace}(hu:P.underlying t=some (.slice e))(h:DataW.trod enc P w 0 (λ_=>true) true (fuel+1) t cs=some x):
  cs=[.slice none 0 0]\/∃ a len cap,cs=[.slice (some a) len cap]/\len<=cap/\cap<=maxLen/\∀ i,i<cap->∃ cs' y,w.cells? 0 (a.add (i * P.cellsOf e)) (P.cellsOf e)=some cs'/\DataW.trod enc P w 0 (λ_=>true) true fuel e cs'=some y:=by
 rcases cs with _ | ⟨v,_ | ⟨v2,r⟩⟩
 .simp[DataW.trod,hu]at h
 .cases v with
  | slice a len cap=>
   cases a with
   | none=>
    left;cases len<;>cases cap<;>simp[DataW.trod,hu]at h ⊢
   | some a=>
    right;refine⟨a,len,cap,rfl,?_⟩;simp only[DataW.trod,hu]at h;split at h
    .rename_i hc;obtain⟨_,h1,h2⟩:=hc;refine⟨h1,h2,λi hi=>?_⟩;rw[qaY]at h;obtain⟨els,h3,h4⟩:=h;rw[qal]at h4;obtain⟨rest,h5,_⟩:=h4;simp only[if_true]at h5;have key:∃ y,((w.cells? 0 (a.add (i * P.cellsOf e)) (P.cellsOf e)).bind (DataW.trod enc P w 0 (λ_=>true) true fuel e))=some y:=by
      by_cases hl:i<len
      .obtain⟨y,h6,_⟩:=(zhO h3).2 i i (by simp[hl]);exact⟨y,h6⟩
      obtain⟨y,h6,_⟩:=(zhO h5).2 (i - len) (i - len) (List.getElem?_range (by omega));rw[show len+(i - len)=i by omega]at h6;exact⟨y,h6⟩
     obtain⟨y,hy⟩:=key;rw[qaY]at hy;obtain⟨cs',h7,h8⟩:=hy;exact⟨cs',y,h7,h8⟩
    .cases h
  | _=>simp[DataW.trod,hu]at h
 simp[DataW.trod,hu]at h
theorem trod_struct{fs:Array Field}{cs:List Value}{x:DataW H×List MemPlace}(hu:P.underlying t=some (.struct fs))(h:DataW.trod enc P w 0 (λ_=>true) true (fuel+1) t cs=some x):
  cs.length=P.cellsOf t/\∀ fd∈fs.toList,∃ y,DataW.trod enc P w 0 (λ_=>true) true fuel fd.type ((cs.drop fd.offset).take (P.cellsOf fd.type))=some y:=by
 simp only[DataW.trod,hu]at h;split at h
 .rename_i hc;refine⟨hc,λfd hf=>?_⟩;rw[qal]at h;obtain⟨xs,h1,_⟩:=h;obtain⟨i,hi⟩:=qbO hf;obtain⟨y,h2,_⟩:=(zhO h1).2 i fd hi;exact⟨y,h2⟩
 cases h
theorem ztZ{n:Nat}{e:TypeId}{cs:List Value}{x:DataW H×List MemPlace}(hu:P.underlying t=some (.array n e))(h:DataW.trod enc P w 0 (λ_=>true) true (fuel+1) t cs=some x):
  cs.length=P.cellsOf t/\∀ i,i<n->∃ y,DataW.trod enc P w 0 (λ_=>true) true fuel e ((cs.drop (i * P.cellsOf e)).take (P.cellsOf e))=some y:=by
 simp only[DataW.trod,hu]at h;split at h
 .rename_i hc;refine⟨hc,λi hi=>?_⟩;rw[qal]at h;obtain⟨xs,h1,_⟩:=h;obtain⟨y,h2,_⟩:=(zhO h1).2 i i (by simp[hi]);exact⟨y,h2⟩
 cases h
def zoS(P:Program)(f:Nat)(acc:Option (List CT))(fd:Field):Option (List CT):=match acc with
 | some l=>(match zfa P f fd.type with
  | some m=>if fd.offset=l.length/\m.length=P.cellsOf fd.type then some (l ++ m)else none
  | none=>none)
 | none=>none
theorem zpg(f:Nat)(fs:List Field):fs.foldl (zoS P f) none=none:=by
 induction fs<;>grind [zoS]
theorem zol{f:Nat}{cs:List Value}:∀(fs:List Field) (l r:List CT),(∀ fd∈fs,∀ m,zfa P f fd.type=some m->Fits w m ((cs.drop fd.offset).take (P.cellsOf fd.type)))->Fits w l (cs.take l.length)->
  fs.foldl (zoS P f) (some l)=some r->Fits w r (cs.take r.length)
 | [],l,r,_,h1,h2=>by simp at h2; subst h2; exact h1
 | fd :: fs,l,r,h0,h1,h2=>by
  rw[qc7]at h2;cases hm:zfa P f fd.type with
  | none=>grind [zoS,zpg]
  | some m=>
   simp only[zoS,hm]at h2;split at h2
   .rename_i hc;have hb:=h0 fd (by simp) m hm;rw[hc.1,<- hc.2]at hb;have e1:=h1.len;have e2:=hb.len;simp only[qbW,qct]at e1 e2;refine zol fs (l ++ m) r (λfd' hf=>h0 fd' (by simp[hf])) (Fits.app ?_ ?_ ?_) h2
    .rw[qaz,List.take_take,qcm (by omega)]; exact h1
    .rw[qaz,List.drop_take,qbL,List.take_take,Nat.min_self]; exact hb
    simp only[qbW,qaz]; omega
   rw[zpg]at h2; cases h2
theorem zjz:∀(f fuel:Nat) (t:TypeId) (cs:List Value) (x:DataW H×List MemPlace) (cts:List CT),DataW.trod enc P w 0 (λ_=>true) true fuel t cs=some x->zfa P f t=some cts->Fits w cts cs
 | f,0,t,cs,x,cts,h,_=>by simp[DataW.trod]at h
 | 0,fuel+1,t,cs,x,cts,_,hf=>by simp[zfa]at hf
 | f+1,fuel+1,t,cs,x,cts,h,hf=>by
  have ih:=zjz f fuel;rw[zfa]at hf;split at hf
  .rename_i hu;cases hf;obtain⟨b,rfl⟩:=trod_bool hu h;exact Fits.one (.bool b)
  .rename_i k hu;cases hf;obtain⟨n,rfl,h1⟩:=trod_int hu h;exact Fits.one (.int k n h1)
  .rename_i e hu;split at hf
   .rename_i l hl;split at hf
    .rename_i hc;cases hf;rcases trod_slice hu h with rfl | ⟨a,len,cap,rfl,h1,h2,h3⟩
     .exact Fits.one (.nil l hc.1)
     have key:∀ m,m<cap * l.length->∃ v,w.cell? (a.add m)=some v/\∀ ct,l[m % l.length]? = some ct->Fit w ct v:=by
      intro m hm;have hd:m / l.length<cap:=(qde hc.1).2 hm;have hmod:m % l.length<l.length:=qa7 _ hc.1
      grind [zut,zCU,qcd,Fits]
     refine Fits.one (.sl l a len cap (λm=>(w.cell? (a.add m)).getD (.bool true)) hc.1 h1 (by unfold maxLen at h2; omega) (λm hm=>?_) λm ct hm hct=>?_)<;> grind
    cases hf
   cases hf
  .rename_i fs hu;obtain⟨h1,h2⟩:=trod_struct hu h;split at hf
   .rename_i l hl;split at hf
    .rename_i hc;cases hf
     have:=zol (P:=P) (f:=f) (w:=w) (cs:=cs) fs.toList [] cts (λfd hfd m hm=>by
      obtain⟨y,hy⟩:=h2 fd hfd
      exact ih _ _ y m hy hm) ⟨by simp,λi ct v h3=>by simp at h3⟩ hl
     grind
    cases hf
   cases hf
  .rename_i n e hu;obtain⟨h1,h2⟩:=ztZ hu h;split at hf
   .rename_i l hl;split at hf
    .rename_i hc;cases hf;refine⟨by simp[h1,<- hc.2.2],λi ct v h3 h4=>?_⟩;have hi:=(qab.1 h4).1;rw[h1,<- hc.2.2]at hi;rw[zrK n i hi]at h3;have hd:i / l.length<n:=(qde hc.1).2 hi
     grind [qcd,Fits]
    cases hf
   cases hf
  cases hf
end
end Go.Lx
namespace Go.Lx
open Go Go.Mx Go.RowKit
structure GH (w:World) (ι:Io) (h:zam):Prop where
 obj:∀ β o,h[β]? = some o->∃ cs b s sz arr T fr,o=.blk cs/\ι β=some (b,s,sz)/\w.heap[b]? = some (.cells arr T fr)/\arr.size=sz/\s+cs.length<=sz /\
   (∀(k:Nat) v,cs[k]? = some v->∃ u,arr[s+k]? = some u/\VRel ι v u/\u.oneCell'=true)
 scope:∀ β x,ι β=some x->β<h.length
theorem GH.nil(w:World):GH w (λ_=>none) []:=⟨λβ o h=>(by simp at h),λβ x h=>(by cases h)⟩
def cxH(h:zam):Cx:=⟨zax h,λ_=>none,λ_=>none,h.length⟩
theorem zBm(h:zam):(cxH h).frz false=cxH h:=by simp[cxH,Cx.frz]
structure ExtH (ι:Io) (h:zam) (ι':Io) (h':zam):Prop where
 le:Io.le ι ι'
 pre:∃ r,h'=h ++ r
theorem ExtH.refl(ι:Io)(h:zam):ExtH ι h ι h:=⟨Io.le.refl _,[],by simp⟩
theorem ExtH.trans{ι ι' ι'':Io}{h h' h'':zam}(a:ExtH ι h ι' h')(b:ExtH ι' h' ι'' h''):ExtH ι h ι'' h'':=by
 grind [Io.le.trans,ExtH]
theorem R.ext{ι ι':Io}{h h':zam}{d:D}{v:V}(e:ExtH ι h ι' h')(hr:R (cxH h) d v):R (cxH h') d v:=by
 obtain⟨_,r,rfl⟩:=e;refine hr.mono ⟨λb cs hb=>?_,λb cs hb=>(by cases hb),λβ x hx=>(by cases hx),λb cs cs' hb=>(by cases hb)⟩;have h1:=zdF hb;have h2:=(qab.1 h1).1
 simp_all [zax,qar,cxH]
inductive ShD:CT->D->Prop
 | bool (b:Bool):ShD .bool (.lit (.bool b))
 | int (k:IntKind) (n:Int):(Lit.int k n).wf=true->ShD (.int k) (.lit (.int k n))
 | sl (cts:List CT) (els:List (List D)):0<cts.length->els.length<2 ^ 63->(∀(i:Nat) cells,els[i]? = some cells->cells.length=cts.length)->
   (∀(i:Nat) cells (k:Nat) ct d,els[i]? = some cells->cts[k]? = some ct->cells[k]? = some d->ShD ct d)->ShD (.sl cts) (.fz false cts.length els)
theorem znF{w:World}{n:Nat}{row:Nat->Value}{T:Nat->D->Prop}
  (hop:∀ m,m<n->∀ ι h,GH w ι h->∃ ι' h' v d,GH w ι' h'/\ExtH ι h ι' h'/\VRel ι' v (row m)/\R (cxH h') d v/\T m d):∀ k,k<=n->∀ ι h,GH w ι h ->
  ∃(ι':Io) (h':zam) (vs:List V) (ds:List D),GH w ι' h'/\ExtH ι h ι' h'/\vs.length=k/\ds.length=k/\(∀(m:Nat) v,vs[m]? = some v->VRel ι' v (row m))/\(∀(m:Nat) d v,ds[m]? = some d->vs[m]? = some v->R (cxH h') d v)/\(∀(m:Nat) d,ds[m]? = some d->T m d)
 | 0,_,ι,h,hG=>⟨ι,h,[],[],hG,.refl _ _,rfl,rfl,λm v h=>(by simp at h),λm d v h=>(by simp at h),λm d h=>(by simp at h)⟩
 | k+1,hk,ι,h,hG=>by
  obtain⟨ι1,h1,vs,ds,a1,a2,a3,a4,a5,a6,a7⟩:=znF hop k (by omega) ι h hG;obtain⟨ι2,h2,v,d,b1,b2,b3,b4,b5⟩:=hop k (by omega) ι1 h1 a1;have key:∀ {α:Type} (l:List α) (x y:α) (m:Nat),l.length=k->(l ++ [x])[m]? = some y->(m<k/\l[m]? = some y)\/(m=k/\y=x):=by
   grind
  refine⟨ι2,h2,vs ++ [v],ds ++ [d],b1,a2.trans b2,by simp[a3],by simp[a4],λm x hx=>?_,λm x y hx hy=>?_,λm x hx=>?_⟩
  .rcases key vs v x m a3 hx with⟨_,h3⟩| ⟨rfl,rfl⟩
   .exact(a5 m x h3).mono b2.le
   exact b3
  .rcases key ds d x m a4 hx with⟨c1,h3⟩| ⟨rfl,rfl⟩
   .rcases key vs v y m a3 hy with⟨_,h4⟩| ⟨c2,_⟩
    .exact(a6 m x y h3 h4).ext b2
    omega
   rcases key vs v y _ a3 hy with⟨c1,h4⟩| ⟨_,rfl⟩
   .omega
   exact b4
  rcases key ds d x m a4 hx with⟨_,h3⟩| ⟨rfl,rfl⟩
  .exact a7 m x h3
  exact b5
theorem GH.more{w:World}{ι:Io}{h:zam}(hG:GH w ι h){vs:List V}{b s:Nat}{arr:Array Value}{T:TypeId}{fr:Nat×Nat}(hb:w.heap[b]? = some (.cells arr T fr))(hs:s+vs.length<=arr.size)
  (hv:∀(k:Nat) v,vs[k]? = some v->∃ u,arr[s+k]? = some u/\VRel ι v u/\u.oneCell'=true):GH w (ι.ext h.length (b,s,arr.size)) (h ++ [.blk vs])/\ExtH ι h (ι.ext h.length (b,s,arr.size)) (h ++ [.blk vs]):=by
 have hle:Io.le ι (ι.ext h.length (b,s,arr.size)):=λβ y hy=>by
  grind [Io.ext,GH]
 grind [Io.ext,VRel.mono,Go.Lx.GH,Go.Lx.ExtH]
theorem zwb{w:World}{a:Addr}{v:Value}(h:w.cell? a=some v):∃ arr T fr,w.heap[a.block]? = some (.cells arr T fr)/\a.spot=none/\arr[a.off]? = some v:=by
 unfold World.cell? at h;split at h<;>simp_all
theorem znA{w:World}{ct:CT}{u:Value}(hf:Fit w ct u):u.oneCell'=true/\∀ ι h,GH w ι h->∃ ι' h' v d,GH w ι' h'/\ExtH ι h ι' h'/\VRel ι' v u/\R (cxH h') d v/\ShD ct d:=by
 induction hf with
 | bool b=>exact⟨rfl,λι h hG=>⟨ι,h,_,_,hG,.refl _ _,.lit _,.lit _,.bool b⟩⟩
 | int k n hw=>exact⟨rfl,λι h hG=>⟨ι,h,_,_,hG,.refl _ _,.lit _,.lit _,.int k n hw⟩⟩
 | nil cts hc=>exact⟨rfl,λι h hG=>⟨ι,h,_,_,hG,.refl _ _,.lit _,.fzn,.sl cts [] hc (by decide) (λi c h=>by simp at h) λi c k ct d h=>by simp at h⟩⟩
 | sl cts a len cap row hc hlen hcap hcell hfit ih=>
  refine⟨rfl,λι h hG=>?_⟩;rcases Nat.eq_zero_or_pos cap with h0 | hpos
  .subst h0;obtain rfl:len=0:=by omega
   exact⟨ι,h,.sl 0 0 cts.length 0 (some 0),_,hG,.refl _ _,.sl0 _ _ _ _ _ hc (λc h=>by cases h; rfl) (λh=>by cases h),.fz0,.sl cts [] hc (by decide) (λi c h=>by simp at h) λi c k ct d h=>by simp at h⟩
  have hrow:=znF (w:=w) (n:=cap * cts.length) (row:=row) (T:=λm d=>∀ ct,cts[m % cts.length]? = some ct->ShD ct d) (λm hm ι h hG=>by
   have hmod:=qa7 m hc;have hg:cts[m % cts.length]? = some (cts[m % cts.length]):=qac hmod;obtain⟨ι',h',v,d,b1,b2,b3,b4,b5⟩:=(ih m _ hm hg).2 ι h hG
   exact⟨ι',h',v,d,b1,b2,b3,b4,λct hct=>by rw[hg]at hct; cases hct; exact b5⟩) (cap * cts.length) (qap _) ι h hG
  obtain⟨ι1,h1,vs,ds,a1,a2,a3,a4,a5,a6,a7⟩:=hrow;have hn:0<cap * cts.length:=qc1 hpos hc;obtain⟨arr,T,fr,c1,c2,c3⟩:=zwb (hcell 0 hn);obtain⟨blk,off,spot⟩:=a;simp only[Addr.add,if_true]at c1 c2 c3;subst c2;have hat:∀ m,m<cap * cts.length->arr[off+m]? = some (row m):=by
   grind [zwb,Addr.add]
  have hsz:off+cap * cts.length<=arr.size:=by
   have:=(qbg.1 (hat (cap * cts.length - 1) (by omega))).1;omega
  obtain⟨e1,e2⟩:=a1.more (vs:=vs) (s:=off) c1 (by rw[a3]; exact hsz) (λk v hk=>by
   have hkl:=(qab.1 hk).1
   simp_all [qa7])
  let els:List (List D):=(List.range len).map λi=>(ds.drop (i * cts.length)).take cts.length
  have hel:els.length=len:=by simp[els]
  have hget:∀(i:Nat) cells,els[i]? = some cells->i<len/\cells=(ds.drop (i * cts.length)).take cts.length:=by
   grind
  have hroom:∀ i,i<len->i * cts.length+cts.length<=cap * cts.length:=λi hi=>by
   rw[<- qcu]; exact qas _ (by omega)
  have hcl:∀(i:Nat) cells,els[i]? = some cells->cells.length=cts.length:=by
   grind
  have hcell2:∀(i:Nat) cells (k:Nat) d,els[i]? = some cells->cells[k]? = some d->ds[i * cts.length+k]? = some d/\k<cts.length:=by
   grind
  refine⟨_,_,.sl h1.length 0 cts.length len (some cap),.fz false cts.length els,e1,a2.trans e2,?_,?_,.sl cts els hc (by rw[hel]; omega) hcl λi cells k ct d g1 g2 g3=>?_⟩
  .exact .sl h1.length 0 cts.length len (some cap) blk off arr.size cap (Io.zbf _ _ _) (by omega) hlen hcap hc (λc h=>by cases h; rfl) (λh=>by cases h)
  .have:=R.fz (c:=cxH (h1 ++ [.blk vs])) (t:=false) (n:=cts.length) (els:=els) (b:=h1.length) (o:=0) (cap:=some cap) (cs:=vs) (by simp[Cx.look,cxH,zax]) hc (λk h=>by cases h; rw[hel]; exact hlen)
    (by rw[hel,a3,qaO]; exact qas _ hlen) hcl (λi cells k d v g1 g2 g3=>by
     rw[zBm];rw[qaO]at g3
     exact(a6 _ d v (hcell2 i cells k d g1 g2).1 g3).ext e2)
   rwa [hel]at this
  obtain⟨g4,g5⟩:=hcell2 i cells k d g1 g3;refine a7 _ d g4 ct ?_;rw[qaS,Nat.mul_add_mod,qbb g5];exact g2
theorem zwM{w:World}{cts:List CT}{cs:List Value}(hf:Fits w cts cs)(ι:Io)(h:zam)(hG:GH w ι h):(∀ u∈cs,u.oneCell'=true)/\∃(ι':Io) (h':zam) (vs:List V) (ds:List D),GH w ι' h'/\ExtH ι h ι' h'/\vs.length=cs.length/\ds.length=cts.length /\
  (∀(m:Nat) v u,vs[m]? = some v->cs[m]? = some u->VRel ι' v u)/\Rs (cxH h') ds vs/\(∀(m:Nat) ct d,cts[m]? = some ct->ds[m]? = some d->ShD ct d):=by
 have key:∀ m,m<cs.length->∃ ct u,cts[m]? = some ct/\cs[m]? = some u/\Fit w ct u:=λm hm=>by
  have h1:cs[m]? = some cs[m]:=qac hm;have h2:cts[m]? = some (cts[m]'(by rw[<- hf.len]; exact hm)):=qac _
  grind [Go.Lx.Fits]
 refine⟨λu hu=>?_,?_⟩
 .grind [qbO,znA]
 obtain⟨ι1,h1,vs,ds,a1,a2,a3,a4,a5,a6,a7⟩:=znF (w:=w) (n:=cs.length) (row:=λm=>cs[m]?.getD (.bool true)) (T:=λm d=>∀ ct,cts[m]? = some ct->ShD ct d) (λm hm ι h hG=>by
  obtain⟨ct,u,g1,g2,g3⟩:=key m hm;obtain⟨ι',h',v,d,b1,b2,b3,b4,b5⟩:=(znA g3).2 ι h hG
  exact⟨ι',h',v,d,b1,b2,by simpa [g2]using b3,b4,λct' hct=>by rw[g1]at hct; cases hct; exact b5⟩) cs.length (qap _) ι h hG
 grind [Go.Lx.Rs,Go.Lx.Fits]
def zwJ(P:Program)(t:TypeId):Bool:=match P.underlying t with
 | some (.struct _)=>true
 | some (.array _ _)=>true
 | _=>false
inductive ShA (P:Program) (f:Nat):TypeId->D->Prop
 | agg {t:TypeId} {ds:List D} {cts:List CT}:zwJ P t=true->zfa P f t=some cts->ds.length=cts.length->(∀(m:Nat) ct d,cts[m]? = some ct->ds[m]? = some d->ShD ct d)->ShA P f t (.agg ds)
 | one {t:TypeId} {d:D} {ct:CT}:zwJ P t=false->zfa P f t=some [ct]->ShD ct d->ShA P f t d
inductive ShAs (P:Program) (f:Nat):List TypeId->List D->Prop
 | nil:ShAs P f [] []
 | cons {t:TypeId} {d:D} {ts:List TypeId} {ds:List D}:ShA P f t d->ShAs P f ts ds->ShAs P f (t :: ts) (d :: ds)
section
variable {H:Type} {enc:TypeId×Value->H} {P:Program} {w:World}
variable{ps:List MemPlace}
theorem zzn{f:Nat}{t:TypeId}{v:Value}{d:DataW H}{b0:Nat}(hv:Value.okWide P w .any b0 t v)(hd:DataW.Trod enc P w 0 (λ_=>true) true t v d ps){cts:List CT}(hf:zfa P f t=some cts)(ι:Io)(h:zam)(hG:GH w ι h):
  ∃ ι' h' x e,GH w ι' h'/\ExtH ι h ι' h'/\VRel ι' x v/\R (cxH h') e x/\ShA P f t e:=by
 obtain⟨fuel,hd⟩:=hd;have hfits:=zjz f fuel t _ _ cts hd hf;cases hag:zwJ P t with
 | true=>
  have:∃ cs,v=.agg cs:=by
   grind [Value.okWide,zwJ]
  obtain⟨arr,rfl⟩:=this;obtain⟨h1,ι',h',vs,ds,a1,a2,a3,a4,a5,a6,a7⟩:=zwM hfits ι h hG;simp only[Value.cells]at h1 a3 a5;refine⟨ι',h',.agg vs,.agg ds,a1,a2,.agg vs arr (by simpa using a3.symm) (λi x v g1 g2=>a5 i x v g1 (by simpa using g2)) (λi v g=>h1 v ?_),.agg a6.1 a6.2,.agg hag hf a4 a7⟩<;> grind
 | false=>
  have hcell:Cell.okWide P w .any b0 t v:=by
   grind [Value.okWide,zwJ]
  have hone:(∃ ct,cts=[ct])/\v.cells = #[v]:=by
   cases f with
   | zero=>simp[zfa]at hf
   | succ f=>
    rw[zfa]at hf;unfold zwJ at hag;split at hf
    .rename_i hu;cases hf;refine⟨⟨_,rfl⟩,?_⟩;cases v<;>first | rfl | (simp[Cell.okWide,Cell.ok,hu]at hcell)
    .rename_i k hu;cases hf;refine⟨⟨_,rfl⟩,?_⟩;cases v<;>first | rfl | (simp[Cell.okWide,Cell.ok,hu]at hcell)
    .rename_i e hu;split at hf
     .split at hf
      .cases hf;refine⟨⟨_,rfl⟩,?_⟩;cases v<;>first | rfl | (simp[Cell.okWide,Cell.ok,hu]at hcell)
      cases hf
     cases hf
    .simp_all
    .simp_all
    cases hf
  obtain⟨⟨ct,rfl⟩,hc⟩:=hone;rw[hc]at hfits;obtain⟨ι',h',x,e,a1,a2,a3,a4,a5⟩:=(znA (hfits.fit 0 ct v rfl rfl)).2 ι h hG
  grind [ShA]
theorem zo5{f:Nat}{b0:Nat}:∀ {ts:List TypeId} {vs:List Value} {ds:List (DataW H)} {ps:List MemPlace},(∀(j:Nat) t v,ts[j]? = some t->vs[j]? = some v->Value.okWide P w .any b0 t v)->DataW.TrodAll enc P w 0 (λ_=>true) true ts vs ds ps ->
  (∀ t∈ts,(zfa P f t).isSome=true)->∀ ι h,GH w ι h->∃(ι':Io) (h':zam) (xs:List V) (es:List D),GH w ι' h'/\ExtH ι h ι' h'/\xs.length=vs.length/\(∀(j:Nat) x v,xs[j]? = some x->vs[j]? = some v->VRel ι' x v)/\Rs (cxH h') es xs/\ShAs P f ts es
 | [],vs,ds,ps,_,hd,_,ι,h,hG=>by
  cases vs with
  | nil=>exact⟨ι,h,[],[],hG,.refl _ _,rfl,λj x v h=>(by simp at h),Rs.nil _,.nil⟩
  | cons v vs=>simp[DataW.TrodAll]at hd
 | t :: ts,vs,ds,ps,hv,hd,hf,ι,h,hG=>by
  cases vs with
  | nil=>simp[DataW.TrodAll]at hd
  | cons v vs=>
   cases ds with
   | nil=>simp[DataW.TrodAll]at hd
   | cons d ds=>
    obtain⟨p,q,h1,h2,_⟩:=hd;obtain⟨cts,hcts⟩:=qa5.1 (hf t (by simp));obtain⟨ι1,g1,x,e,a1,a2,a3,a4,a5⟩:=zzn (hv 0 t v rfl rfl) h1 hcts ι h hG;obtain⟨ι2,g2,xs,es,b1,b2,b3,b4,b5,b6⟩:=zo5 (λj t' v' k1 k2=>hv (j+1) t' v' (by simpa using k1) (by simpa using k2)) h2 (λt' ht=>hf t' (by simp[ht])) ι1 g1 a1;refine⟨ι2,g2,x :: xs,e :: es,b1,a2.trans b2,by simp[b3],λj y u k1 k2=>?_,b5.cons (a4.ext b2),.cons a5 b6⟩<;> grind [VRel.mono,ExtH]
theorem GH.sim{ι:Io}{h:zam}(hG:GH w ι h):Sim P h.length w ι h w where
 base:=qap _
 below:=Below.refl _ _
 obj β o ho:=by
  grind [GH,Go.Mx.zlp]
 own β o b s sz ho _ hB _:=by have:=(qab.1 ho).1; omega
 old β o b s sz ho _ _ hι:=by
  grind [GH]
 inj β β' o o' b s sz s' sz' ho _ _ _ hB _ _ _:=by have:=(qab.1 ho).1; omega
 scope:=hG.scope
theorem zxz{m:Mach}(hm:P.follows .mixedOrders=true)(hfns:∀ f fn,m.fns f=some fn->znE P f fn)(ho:zhv P m.orc){f g b0:Nat}{ts:List TypeId}{args:Array Value}{ds:List (DataW H)}(hv:∀(j:Nat) t v,ts[j]? = some t->args[j]? = some v->Value.okWide P w .any b0 t v)(hd:DataW.TrodAll enc P w 0 (λ_=>true) true ts args.toList ds ps)(hf:∀ t∈ts,(zfa P g t).isSome=true)(hF:∀ es,ShAs P g ts es->Lx.Fn m f es (.lit (.bool true))):Calls P f args w λe w'=>e=.returned (.bool true)/\Below w.heap.size w w':=by
 obtain⟨ι,h,xs,es,a1,a2,a3,a4,a5,a6⟩:=zo5 (f:=g) (λj t v h1 h2=>hv j t v h1 (by simpa using h2)) hd hf (λ_=>none) [] (GH.nil w);obtain⟨N,cr,h',e1,e2,e3,v,zf,rfl,e4,e5⟩:=hF es a6 (zax h) h.length h xs (λb cs hb=>zdF hb) (qap _) a5;cases e5;have hok:=zn4 hm hfns ho N;obtain⟨_,hcalls⟩:=(hok.call _ _ _ _ _ _ (e1 N (qap _))).1.1 w ι w args a1.sim ⟨by simpa using a3.symm,λi x v h1 h2=>a4 i x v h1 (by simpa using h2)⟩;have hw:CallsIn Fence.wide 0 P f args w (zfw P h.length w ι (.ret (.lit (.bool true))) h'):=hcalls;refine Calls.mono (callsIn_wide.1 hw) λe w' hp=>?_
 obtain⟨ι',_,hS',hp⟩:=hp
 grind [Go.Mx.VRel,Go.Mx.Sim]
end
end Go.Lx
namespace Go.Dc
open Go Go.Mx Go.Lx
variable {α β γ:Type}
def okI(k:IntKind)(n:Int):Prop:=(Lit.int k n).wf=true
structure Dec (e:En α) (cts:List CT) (ok:α->Prop):Prop where
 len:cts.length=e.n
 dec:∀ ds:List D,ds.length=cts.length->(∀(m:Nat) ct d,cts[m]? = some ct->ds[m]? = some d->ShD ct d)->∃ x,ok x/\ds=e.c false x
theorem zHN{α:Type}{l:List α}(h:l.length=1):∃ a,l=[a]:=by
 match l,h with
 | [a],_=>exact⟨a,rfl⟩
theorem Dec.int(k:IntKind):Dec (eI k) [.int k] (okI k):=⟨rfl,λds hl hs=>by
 obtain⟨d,rfl⟩:=zHN hl;have:=hs 0 _ _ rfl rfl;cases this with
 | int k n hw=>exact⟨n,hw,rfl⟩⟩
theorem zrE{α β:Type}{f:α->β}{T:α->Prop}:∀ {l:List β},(∀ y∈l,∃ x,T x/\y=f x)->∃ xs:List α,(∀ x∈xs,T x)/\l=xs.map f
 | [],_=>⟨[],λx h=>(by cases h),rfl⟩
 | y :: l,h=>by
  obtain⟨x,hx,rfl⟩:=h y (by simp);obtain⟨xs,hxs,rfl⟩:=zrE (l:=l) (f:=f) (T:=T) λy hy=>h y (by simp[hy])
  exact⟨x :: xs,λz hz=>by
   grind,rfl⟩
def okL(ok:α->Prop)(xs:List α):Prop:=xs.length<2 ^ 63/\∀ x∈xs,ok x
variable{e:En α}{cts:List CT}{ok:α->Prop}
theorem Dec.list(h:Dec e cts ok):Dec (eL e) [.sl cts] (okL ok):=⟨rfl,λds hl hs=>by
 obtain⟨d,rfl⟩:=zHN hl;have h0:=hs 0 _ _ rfl rfl;cases h0 with
 | sl _ els h1 h2 h3 h4=>
  obtain⟨xs,g1,g2⟩:=zrE (l:=els) (f:=e.c false) (T:=ok) λcells hc=>by
   grind [qbO,Dec]
  subst g2;refine⟨xs,⟨by simpa using h2,g1⟩,?_⟩
  rw[zHh,fzE,h.len]⟩
theorem Dec.pair{g:En β}{c1 c2:List CT}{o1:α->Prop}{o2:β->Prop}(h1:Dec e c1 o1)(h2:Dec g c2 o2):Dec (eP e g) (c1 ++ c2) (λx=>o1 x.1/\o2 x.2):=⟨by rw[qaz,h1.len,h2.len]; rfl,λds hl hs=>by
 rw[qaz]at hl;obtain⟨x,k1,k2⟩:=h1.dec (ds.take c1.length) (by rw[qbW]; omega) λm ct d q1 q2=>by
  grind
 obtain⟨y,k3,k4⟩:=h2.dec (ds.drop c1.length) (by rw[qct]; omega) λm ct d q1 q2=>by
  grind
 refine⟨(x,y),⟨k1,k3⟩,?_⟩
 grind [qbZ,Go.Dc.eP]⟩
theorem Dec.iso(h:Dec e cts ok)(f:β->α)(i:α->β)(hf:∀ a,f (i a)=a):Dec (eM f e) cts (λx=>ok (f x)):=⟨h.len,λds hl hs=>by
 obtain⟨x,k1,k2⟩:=h.dec ds hl hs
 exact⟨i x,by rw[hf]; exact k1,by rw[k2]; show e.c false x=e.c false (f (i x)); rw[hf]⟩⟩
theorem Dec.agg{e:En α}{cts:List CT}{ok:α->Prop}(h:Dec e cts ok){P:Program}{g:Nat}{t:TypeId}{d:D}(ha:zwJ P t=true)(hf:zfa P g t=some cts)(hs:ShA P g t d):∃ x,ok x/\d=.agg (e.c false x):=by
 grind [Dec,Go.Lx.ShA]
theorem Dec.one{e:En α}{ct:CT}{ok:α->Prop}(h:Dec e [ct] ok){P:Program}{g:Nat}{t:TypeId}{d:D}(ha:zwJ P t=false)(hf:zfa P g t=some [ct])(hs:ShA P g t d):∃ x,ok x/\[d]=e.c false x:=by
 cases hs with
 | agg h1 _ _ _=>rw[ha]at h1; cases h1
 | one _ h2 h3=>
  rw[hf]at h2;cases h2;exact h.dec [d] rfl λm ct' d' q1 q2=>by
   grind
theorem ShAs.inv{P:Program}{f:Nat}{t:TypeId}{ts:List TypeId}{es:List D}(h:ShAs P f (t :: ts) es):∃ x r,es=x :: r/\ShA P f t x/\ShAs P f ts r:=by
 grind [Go.Lx.ShAs]
theorem ShAs.none{P:Program}{f:Nat}{es:List D}(h:ShAs P f [] es):es=[]:=by cases h; rfl
end Go.Dc
