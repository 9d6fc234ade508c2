/-
 What makes a block, in whatever world. Conditions: none.
-/
import Derived.Test.YtbjogdohfhdaiaaGreatErJ19
set_option linter.unusedSimpArgs false
set_option linter.unusedVariables false
namespace Go.Mx
open Go Go.RowKit
section
variable {P:Program} {B N:Nat} {w1 w:World} {ι:Io} {a:Act} {h:zam} {env:List V}
def zgm(P:Program)(o:Oper)(a:Act)(mk:Nat->Value)(arr:Array Value)(T:TypeId):Prop:=
 ∀ w0:World,(execOp a.eval o).run P w0=.ok (.value (mk w0.heap.size)) (zbI w0 (.cells arr T (0,0)))
def AOk(P:Program)(ι:Io)(a:Act)(o:Oper)(h:zam)(v:V)(h':zam):Prop:=
 ∃ mk arr T cs,zgm P o a mk arr T/\h'=h ++ [.blk cs]/\zfj ι cs arr/\∀(ι':Io) b,ι' h.length=some (b,0,arr.size)->VRel ι' v (mk b)
variable{z:List Value}{h':zam}
theorem zGW(hE:zcq ι N env a){o:Oper}{t el:TypeId}{len:Nat}{parts:Array (Nat×Operand)}(ho:o.op=.buildSlice t len parts)(hs:P.underlying t=some (.slice el))(ht:zdM P el=true)(hn:0<P.cellsOf el)(hbig:len * P.cellsOf el<=16777216)(hz:zgY P el=some z)(hone:z.all zhm=true)(hzl:z.length=P.cellsOf el){v:V}(he:eff B h env (.bsl (P.cellsOf el) len z (parts.toList.map λix=>(ix.1,opX ix.2)))=some (v,h')):AOk P ι a o h v h':=by
 simp only[eff]at he;split at he
 .rename_i cs hf;simp only[qae,qan]at he;obtain⟨rfl,rfl⟩:=he;obtain⟨zv,hzv,hzc⟩:=zdu hz;simp only[zdM,qai]at ht;have hzs:zv.cells.size=P.cellsOf el:=by rw[<- hzl,<- hzc]; simp
  rw[zmB,qc3]at hf;obtain⟨arr',h1,h2⟩:=zdI hE (place:=λi=>some (i * P.cellsOf el,P.cellsOf el)) (off:=λi=>i * P.cellsOf el) (size:=λ_=>P.cellsOf el)
   parts.toList _ cs ((Array.range (len * zv.cells.size)).map (zv.cells[· % zv.cells.size]!)) (λix _=>rfl) (zir hone len zv.cells hzc) hf
  have hsz:arr'.size=len * P.cellsOf el:=by
   have:∀(ps:List (Nat×Nat×X)) (cs cs':List V),zgN env cs ps=some cs'->cs'.length=cs.length:=by
    intro ps;induction ps with
    | nil=>grind [zgN]
    | cons y ys ih=>
     intro cs cs' hh;obtain⟨y1,y2,y3⟩:=y;simp only[zgN]at hh;split at hh
     .rename_i l _;cases hb:(l.length == y2) && Nat.ble (y1+y2) cs.length with
      | false=>simp only[hb,qdu]at hh; cases hh
      | true=>
       simp only[hb,qdt]at hh;simp only[qai,qdz]at hb;rw[ih _ _ hh,(zgU cs l y1 (by have:=qad hb.2; omega)).1]
     cases hh
   rw[h2.1,this _ _ _ hf,(zfW _ _ 0).1];simp[hzl]
  have hp2:(parts.map λix=>(ix.1,a.eval ix.2)).toList=parts.toList.map λix=>(ix.1,a.eval ix.2):=by simp
  have hrun:∀ w:World,(execOp a.eval o).run P w=.ok (.value (.slice (some ⟨w.heap.size,0,none⟩) len len)) (zbI w (.cells arr' el (0,0))):=by
   intro w;have h1':Instr.fill (λi=>some (i * P.cellsOf el,P.cellsOf el)) ((Array.range (len * P.cellsOf el)).map (zv.cells[· % zv.cells.size]!)) (parts.map λix=>(ix.1,a.eval ix.2)).toList=some arr':=by
    simp_all
   have hbig':¬ (len * P.cellsOf el > 2 ^ 24):=by omega
   simp only[execOp,ho,Instr.buildSlice,Sem.run_bind,zag hs,zaY ht.1,Result.andThen_ok,hbig',if_false];by_cases h0:len * P.cellsOf el=0
   .have hfill0:Instr.fill (λi=>some (i * P.cellsOf el,P.cellsOf el)) ((Array.range (len * P.cellsOf el)).map ((#[]:Array Value)[· % (#[]:Array Value).size]!)) (parts.map λix=>(ix.1,a.eval ix.2)).toList=some arr':=by
     grind
    rw[if_pos h0];simp only[Sem.run_pure,Result.andThen_ok,hfill0,newRow,Sem.run_bind,run_newObj];rfl
   rw[if_neg h0];simp only[Sem.run_bind,zbz hzv,Sem.run_pure,Result.andThen_ok,h1',newRow,run_newObj];rfl
  refine⟨λb=>.slice (some ⟨b,0,none⟩) len len,arr',el,cs,hrun,rfl,h2,λι' b hb=>?_⟩
  have:=VRel.sl (ι:=ι') h.length 0 (P.cellsOf el) len (some len) b 0 arr'.size len hb (by rw[hsz]; omega) (qap _) (by
   have:=qaI len hn
   omega) hn (by simp) (by simp)
  simpa using this
 cases he
theorem zIR(hE:zcq ι N env a){o:Oper}{t el:TypeId}{x y:Operand}(ho:o.op=.makeSlice t x y)(hs:P.underlying t=some (.slice el))(ht:zdM P el=true)(hn:0<P.cellsOf el)(hby:0<P.bytesOf el)(hz:zgY P el=some z)(hone:z.all zhm=true)(hzl:z.length=P.cellsOf el){v:V}(he:eff B h env (.mk (P.cellsOf el) (P.bytesOf el) z (opX x) (opX y))=some (v,h')):AOk P ι a o h v h':=by
 simp only[eff]at he;split at he
 .rename_i l c hl hc;cases hb:decide (0<=l) && decide (l<=c) && decide (c * (P.bytesOf el:Int)<=zah)with
  | false=>simp_all
  | true=>
   simp only[hb,qdt,qae,qan]at he;obtain⟨rfl,rfl⟩:=he;simp only[qai,decide_eq_true_eq]at hb;obtain⟨⟨h0,hlc⟩,hmax⟩:=hb;obtain⟨kl,hxl⟩:=zdq hE hl;obtain⟨kc,hyc⟩:=zdq hE hc;obtain⟨zv,hzv,hzc⟩:=zdu hz;simp only[zdM,qai]at ht;obtain⟨ti,hti⟩:=qa5.1 ht.1;have hbt:P.bytesOf el=ti.bytes:=by simp[Program.bytesOf,hti]
   have hzs:zv.cells.size=P.cellsOf el:=by rw[<- hzl,<- hzc]; simp
   rw[hbt]at hmax hby
   have hmb:(zah:Int)=140737488355328:=rfl;have hcb:c<=140737488355328:=by
    have:c * 1<=c * (ti.bytes:Int):=Int.mul_le_mul_of_nonneg_left (by omega) (by omega);omega
   have hwl:IntKind.i64.wrap l=l:=by simp[IntKind.wrap,IntKind.signed,IntKind.bits]; omega
   have hwc:IntKind.i64.wrap c=c:=by simp[IntKind.wrap,IntKind.signed,IntKind.bits]; omega
   have hL:=zir (ι:=ι) hone c.toNat zv.cells hzc;have hcom:(ti.bytes:Int)* c=c * ti.bytes:=Int.mul_comm _ _;have e1:¬ (c<0):=by omega
   have e2:¬ (281474976710656<(ti.bytes:Int)* c):=by omega
   have e3:¬ (l<0):=by omega
   have e4:¬ (c<l):=by omega
   have hroom:¬ (roomBytes<c.toNat * ti.bytes):=by
    grind [roomBytes]
   have hrun:∀ w:World,(execOp a.eval o).run P w=.ok (.value (.slice (some ⟨w.heap.size,0,none⟩) l.toNat c.toNat)) (zbI w (.cells ((Array.range (c.toNat * zv.cells.size)).map (zv.cells[· % zv.cells.size]!)) el (0,0))):=by
    intro w;simp only[execOp,ho,Instr.makeSlice,Sem.run_bind,zag hs,Result.andThen_ok,asInt,asIntOf,hxl,hyc,Sem.run_pure,zf3 hti,hwl,hwc];simp only[qbt,decide_eq_true_eq,gt_iff_lt,show(2:Int) ^ 48=281474976710656 from rfl,e1,e2,e3,e4,or_self,if_false,askRoom,hroom,Sem.run_bind,Sem.run_pure,Result.andThen_ok,zaY ht.1];by_cases hz0:c.toNat * P.cellsOf el=0
    .rw[if_pos hz0];have hc0:c.toNat=0:=by
      rcases Nat.mul_eq_zero.1 hz0 with h1 | h1
      .exact h1
      omega
     simp only[Sem.run_pure,Result.andThen_ok,newRow,Sem.run_bind,run_newObj,hc0,qci,zl3];rfl
    rw[if_neg hz0];simp only[Sem.run_bind,zbz hzv,Sem.run_pure,Result.andThen_ok,newRow,run_newObj,hzs];rfl
   refine⟨λb=>.slice (some ⟨b,0,none⟩) l.toNat c.toNat,_,el,_,hrun,rfl,hL,λι' b hb=>?_⟩;have hsz:((Array.range (c.toNat * zv.cells.size)).map (zv.cells[· % zv.cells.size]!)).size=c.toNat * P.cellsOf el:=by simp[hzs]
   have:=VRel.sl (ι:=ι') h.length 0 (P.cellsOf el) l.toNat (some c.toNat) b 0 ((Array.range (c.toNat * zv.cells.size)).map (zv.cells[· % zv.cells.size]!)).size c.toNat hb (by rw[hsz]; omega) (by omega) (by omega) hn (by simp) (by simp);simpa using this
 cases he
theorem zuD{v:V}(hE:zcq ι N env a)(o:Oper)(hal:alI (za1 P o)=true)(he:eff B h env (za1 P o)=some (v,h')):AOk P ι a o h v h':=by
 obtain⟨dst,op,type,pos,after,guard⟩:=o;cases op with
 | alloc t=>
  simp only[za1]at he;split at he
  .rename_i z hz;obtain⟨hone,he⟩:=zhw he;simp only[eff,qae,qan]at he;obtain⟨rfl,rfl⟩:=he;obtain⟨zv,hzv,rfl⟩:=zdu hz;have hL:zfj ι (zv.cells.toList.map .lit) zv.cells:=by simpa using zjQ (ι:=ι) _ hone
   refine⟨λb=>.pointer (some ⟨b,0,none⟩),zv.cells,t,_,λw0=>?_,rfl,hL,λι' b hb=>.ptr _ _ b 0 zv.cells.size hb⟩;simp only[execOp,Instr.alloc,Sem.run_bind,zbz hzv,Result.andThen_ok,newVar,newRow,run_newObj,Sem.run_pure];rfl
  .simp[eff]at he
 | box t x=>
  simp only[za1,eff]at he;split at he
  .rename_i l hl;simp only[qae,qan]at he;obtain⟨rfl,rfl⟩:=he;obtain⟨v1,h1,h2⟩:=qaY.1 hl;have hL:=zfR (zae hE h1) h2;refine⟨λb=>.pointer (some ⟨b,0,none⟩),(a.eval x).cells,t,_,λw0=>?_,rfl,hL,λι' b hb=>.ptr _ _ b 0 _ hb⟩;rfl
  .cases he
 | buildSlice t len parts=>
  simp only[za1]at he;split at he
  .rename_i el hs;obtain⟨hb,he⟩:=zhw he;simp only[qai]at hb;split at he
   .rename_i z hz;obtain⟨hone,he⟩:=zhw he;simp only[qai,qdz]at hone;obtain⟨mk,arr,T,cs,g1,g2,g3,g4⟩:=zGW (h:=h) (ι:=ι) (o:=⟨dst,.buildSlice t len parts,type,pos,after,guard⟩) hE rfl hs hb.1.1 (qbU.mp hb.1.2) (qad hb.2) hz hone.1 hone.2 he
    grind [AOk]
   simp[eff]at he
  .simp[eff]at he
 | makeSlice t l c=>
  simp only[za1]at he;split at he
  .rename_i el hs;obtain⟨hb,he⟩:=zhw he;simp only[qai]at hb;split at he
   .rename_i z hz;obtain⟨hone,he⟩:=zhw he;simp only[qai,qdz]at hone;exact zIR (o:=⟨dst,.makeSlice t l c,type,pos,after,guard⟩) hE rfl hs hb.1.1 (qbU.mp hb.1.2) (qbU.mp hb.2) hz hone.1 hone.2 he
   simp[eff]at he
  .simp[eff]at he
 | _=>
  exfalso
  simp only[za1,zj3,qdk]at hal
  repeat' (split at hal)
  all_goals first | (simp[alI]at hal; done)| (simp_all; done)
end
section
variable {P:Program} {B N:Nat} {w1 w:World} {ι:Io} {S S':St} {a:Act} {r:Rec} {ops:Array Oper} {rd rb:Option Nat} {Q:Exit->Act->World->Prop} {ex:Ex} {bar e:Bool} {Sx:World->Prop}
theorem zm5{j:Nat}{oi oj:Oper}{u:Value}(hj:ops[j]? = some oj)(hap:oi.apart ops oj=true)(hsj:∀ cs b,oj.op≠.select cs b)(hdj:∀ c,oj.op≠.defer c)
  (hQ:∀ c a w,Q (.panic c) a w->Q (.panic c) (a.put oi.dst u) w) {K:Act->World->Prop} {a:Act} {w:World}
  (h:wpOpIn (FW rb) 0 P ops Q j K a w):wpOpIn (FW rb) 0 P ops Q j (λa' w'=>∃ a'',a'=a''.put oi.dst u/\K a'' w') (a.put oi.dst u) w:=by
 obtain⟨h1,h2,h3⟩:=Oper.apart_spec hap;unfold wpOpIn at *;simp only[hj]at *;rw[wanted_put oj a oi.dst u h1];split
 .rename_i hw;simp only[hw,if_true]at h;refine⟨λ_ _=>trivial,?_⟩;have h:=h.2;rw[Oper.semAt_eq _ _ oj hdj]at h;rw[Oper.semAt_eq _ _ oj hdj,execOp_put oj hsj a oi.dst u h1];generalize (execOp a.eval oj).run P w=res at *;cases res with
  | ok x w'=>
   cases x<;>simp only[Oper.uponIn]at h ⊢<;>grind [Act.put_comm,Act.put_defers,CallsIn.mono,RowsIn.mono,RoundIn.mono]
  | halt x w'=>
   cases x<;>simp only[Oper.uponIn]at h ⊢<;>simp_all
 rename_i hw;simp only[hw]at h;exact⟨λ_ _=>trivial,_,Act.put_comm a u undef h2,h.2⟩
abbrev Pen:=List (Nat×Option Nat×Value)
def zGF(ops:Array Oper)(y:Nat):Option Tmp:=(ops[y]?).bind (·.dst)
theorem zhC{y:Nat}{oy:Oper}(h:ops[y]? = some oy):zGF ops y=oy.dst:=by simp[zGF,h]
def zew(ops:Array Oper):Pen->Act->Act
 | [],a=>a
 | p :: Y,a=>(zew ops Y a).put (zGF ops p.1) p.2.2
def zh7:Pen->Array Bool->Array Bool
 | [],M=>M
 | p :: Y,M=>(zh7 Y M).setIfInBounds p.1 true
def ApY(ops:Array Oper)(Y:Pen)(oj:Oper):Prop:=∀ p∈Y,∃ oy,ops[p.1]? = some oy/\oy.apart ops oj=true
theorem zgM{oj:Oper}{v:Value}:∀(Y:Pen) (a:Act),ApY ops Y oj->(zew ops Y a).put oj.dst v=zew ops Y (a.put oj.dst v)
 | [],a,_=>rfl
 | p :: Y,a,h=>by
  obtain⟨oy,h1,h2⟩:=h p (by simp);obtain⟨g1,g2,g3⟩:=Oper.apart_spec h2;simp only[zew,zhC h1];rw[Act.put_comm _ p.2.2 v g2,zgM Y a λq hq=>h q (by simp[hq])]
theorem zlC{oj:Oper}(hs:∀ cs b,oj.op≠.select cs b):∀(Y:Pen) (a:Act),ApY ops Y oj->execOp (zew ops Y a).eval oj=execOp a.eval oj
 | [],a,_=>rfl
 | p :: Y,a,h=>by
  obtain⟨oy,h1,h2⟩:=h p (by simp);obtain⟨g1,g2,g3⟩:=Oper.apart_spec h2;simp only[zew,zhC h1];rw[execOp_put oj hs _ oy.dst p.2.2 g1,zlC hs Y a λq hq=>h q (by simp[hq])]
theorem zgT{oj:Oper}:∀(Y:Pen) (a:Act),ApY ops Y oj->Region.wanted oj (yielded ops (zew ops Y a).tmps)=Region.wanted oj (yielded ops a.tmps)
 | [],a,_=>rfl
 | p :: Y,a,h=>by
  obtain⟨oy,h1,h2⟩:=h p (by simp);obtain⟨g1,g2,g3⟩:=Oper.apart_spec h2;simp only[zew,zhC h1];rw[wanted_put oj _ oy.dst p.2.2 g1,zgT Y a λq hq=>h q (by simp[hq])]
theorem zlP{j:Nat}{oj:Oper}(hj:ops[j]? = some oj)(hsj:∀ cs b,oj.op≠.select cs b)(hdj:∀ c,oj.op≠.defer c)(hQ:∀(d:Option Tmp) u c a w,Q (.panic c) a w->Q (.panic c) (a.put d u) w){K:Act->World->Prop}:
  ∀(Y:Pen) (a:Act),ApY ops Y oj->wpOpIn (FW rb) 0 P ops Q j K a w->wpOpIn (FW rb) 0 P ops Q j (λa' w'=>∃ a'',a'=zew ops Y a''/\K a'' w') (zew ops Y a) w
 | [],a,_,h=>wpOpIn_mono (λa' w' hk=>⟨a',rfl,hk⟩) h
 | p :: Y,a,hap,h=>by
  obtain⟨oy,h1,h2⟩:=hap p (by simp);have:=zlP hj hsj hdj hQ Y a (λq hq=>hap q (by simp[hq])) h;have:=zm5 (u:=p.2.2) hj h2 hsj hdj (λc a w=>hQ _ _ c a w) this
  grind [zew,zhC]
structure PenOk (P:Program) (ops:Array Oper) (B:Nat) (a:Act) (w w1:World) (ι:Io) (h:zam) (M:Array Bool) (p:Nat×Option Nat×Value):Prop where
 ready:p.1∈Region.ready .any ops M
 al:alI (zdl P ops p.1)=true
 free:∀ oy,ops[p.1]? = some oy->∀ j oj,ops[j]? = some oj->j≠p.1->M.getD j true=false->(∀ e∈oj.after,Region.binds .any e=true->e.on≠p.1)->oy.apart ops oj=true
 made:∃ oy,ops[p.1]? = some oy/\((Region.wanted oy (yielded ops a.tmps)=true/\∃ b mk arr T,p.2.1=some b/\zgm P oy a mk arr T/\p.2.2=mk b/\w.heap[b]? = some (.cells arr T (0,0))/\w1.heap.size<=b /\
   ∀ β o b' s sz,h[β]? = some o->o.live->B<=β->ι β=some (b',s,sz)->b'≠b)\/(Region.wanted oy (yielded ops a.tmps)=false/\p.2.1=none/\p.2.2=undef))
theorem zrq{M:Array Bool}{i j:Nat}(h:j∈Region.ready .any ops M)(hne:j≠i):j∈Region.ready .any ops (M.setIfInBounds i true):=ready_mono h hne
theorem PenOk.step{M:Array Bool}{p:Nat×Option Nat×Value}{h h':zam}{ι':Io}{w':World}(hp:PenOk P ops B a w w1 ι h M p){j:Nat}{oj:Oper}(hj:ops[j]? = some oj)(hjr:j∈Region.ready .any ops M)(hne:j≠p.1)(hsel:∀(j:Nat) (o:Oper) cs b,ops[j]? = some o->o.op≠.select cs b)
  {u:Value} {ds:List Deferred} (hb:∀ b,p.2.1=some b->b<w.heap.size->(∀ β o b' s sz,h[β]? = some o->o.live->B<=β->ι β=some (b',s,sz)->b'≠b)->w'.heap[b]? = w.heap[b]?)
  (hfr:∀ b,p.2.1=some b->b<w.heap.size->(∀ β o b' s sz,h[β]? = some o->o.live->B<=β->ι β=some (b',s,sz)->b'≠b)->∀ β o b' s sz,h'[β]? = some o->o.live->B<=β->ι' β=some (b',s,sz)->b'≠b):
  PenOk P ops B (({ a with defers:=ds }:Act).put oj.dst u) w' w1 ι' h' (M.setIfInBounds j true) p:=by
 obtain⟨oy,hoy,hm⟩:=hp.made;obtain⟨hju,oj',hoj',hall⟩:=mem_ready.1 hjr;have:oj'=oj:=qaf (hoj'.symm.trans hj);subst this;have hjun:M.getD j true=false:=hju;have hpu:=(mem_ready.1 hp.ready).1;have hno:∀ e∈oj'.after,Region.binds .any e=true->e.on≠p.1:=λe he hb' heq=>by
  have h1:=hall e he hb';rw[heq]at h1;rcases qa0 p.1 M.size with h2 | h2
  .simp[h2]at h1 hpu; rw[h1]at hpu; cases hpu
  simp[Array.getElem?_eq_none h2]at h1
 have hap:=hp.free oy hoy j oj' hj hne hjun hno;obtain⟨g1,g2,g3⟩:=Oper.apart_spec hap;have hex:execOp (({ a with defers:=ds }:Act).put oj'.dst u).eval oy=execOp a.eval oy:=by
  rw[execOp_put oy (λcs b=>hsel p.1 oy cs b hoy) _ oj'.dst u g3];rfl
 have hwa:Region.wanted oy (yielded ops (({ a with defers:=ds }:Act).put oj'.dst u).tmps)=Region.wanted oy (yielded ops a.tmps):=by
  rw[wanted_put oy _ oj'.dst u g3]
 refine⟨zrq hp.ready (Ne.symm hne),hp.al,λoy' hoy' k ok hk hkp hun hno'=>hp.free oy' hoy' k ok hk hkp ?_ hno',oy,hoy,?_⟩
 .by_cases hjk:j=k
  .subst hjk; exact hjun
  rw[getD_set_ne true hjk]at hun; exact hun
 rw[hwa];rcases hm with⟨h1,b,mk,arr,T,h2,h3,h4,h5,h6,h7⟩| h1
 .have hlt:b<w.heap.size:=(qbg.1 h5).1;refine .inl ⟨h1,b,mk,arr,T,h2,λw0=>?_,h4,by rw[hb b h2 hlt h7]; exact h5,h6,hfr b h2 hlt h7⟩;rw[hex];exact h3 w0
 exact .inr h1
end
section
variable {P:Program} {B N:Nat} {w1 w:World} {ι:Io} {S S':St} {a:Act} {r:Rec} {ops:Array Oper} {rd rb:Option Nat} {Q:Exit->Act->World->Prop} {ex:Ex} {bar e:Bool} {Sx:World->Prop}
theorem zoN{env:List V}{len:Nat}:∀(parts:List (Nat×X)) (cs:List V),cs.length=len->(parts.all λix=>Nat.blt ix.1 len && (match ix.2 with | .c v=>zhm v | _=>false))=true->∃ cs',zli env 1 cs parts=some cs'
 | [],cs,_,_=>⟨cs,rfl⟩
 |(i,x):: r,cs,hl,h=>by
  simp only[qdn,qai]at h;obtain⟨⟨h1,h2⟩,h3⟩:=h;have h1:=qbU.mp h1;cases x with
  | c v=>
   simp only[]at h2;have hle:Nat.ble (i * 1+1) cs.length=true:=qat (by omega);simp only[zli,ev,qaa,V.cells,h2,qdt,List.length_singleton,BEq.rfl,qbF,hle];exact zoN r _ (by rw[(zgU cs [.lit v] (i * 1) (by have:=qad hle; simpa using this)).1]; exact hl) h3
  | _=>cases h2
theorem ztN(hE:zcq ι N S.env a)(o:Oper)(hs:zmC (za1 P o)=true):∃ mk arr T,zgm P o a mk arr T:=by
 have via:∀ {r:V×zam},alI (za1 P o)=true->eff 0 [] S.env (za1 P o)=some r->∃ mk arr T,zgm P o a mk arr T:=λ{r} hal he=>by
  obtain⟨mk,arr,T,cs,h1,_⟩:=zuD hE o hal he
  grind
 cases hi:za1 P o with
 | alloc z=>exact via (r:=(.ptr 0 0,[.blk (z.map .lit)])) (by rw[hi]; rfl) (by rw[hi]; rfl)
 | bsl n len z parts=>
  rw[hi]at hs;simp only[zmC,qai,qdz]at hs;obtain⟨⟨rfl,hz⟩,hp⟩:=hs;obtain⟨cs',hc⟩:=zoN (env:=S.env) parts (zm7 len (z.map .lit)) (len:=len) (by rw[(zfW (z.map .lit) len 0).1]; simp[hz]) hp;exact via (r:=(.sl 0 0 1 len (some len),[.blk cs'])) (by rw[hi]; rfl) (by rw[hi]; simp only[eff,hc]; rfl)
 | box x0=>
  obtain⟨dst,op,type,pos,after,guard⟩:=o;cases op with
  | box t x=>
   refine⟨λb=>.pointer (some ⟨b,0,none⟩),(a.eval x).cells,t,λw0=>?_⟩;simp only[execOp,Instr.box,Sem.run_bind,Result.andThen_ok,newVar,newRow,run_newObj,Sem.run_pure];rfl
  | _=>
   exfalso
   simp only[za1,zj3,qdk]at hi
   repeat' (split at hi)
   all_goals first | (cases hi; done)| (simp_all; done)
 | _=>rw[hi]at hs; cases hs
variable{o:Oper}{mk:Nat->Value}{arr:Array Value}
theorem zgm.same{mk':Nat->Value}{arr':Array Value}{T T':TypeId}(w:World)(h1:zgm P o a mk arr T)(h2:zgm P o a mk' arr' T')(b:Nat):mk b=mk' b/\arr=arr'/\T=T':=by
 have:=(h1 { w with heap:=Array.replicate b (.cells #[] 0 (0,0)) }).symm.trans (h2 { w with heap:=Array.replicate b (.cells #[] 0 (0,0)) })
 grind [zbI,Array.push_eq_push]
theorem zgm.put{oj:Oper}{T:TypeId}(hs:∀ cs b,o.op≠.select cs b)(hap:o.apart ops oj=true){u:Value}(h:zgm P o (a.put oj.dst u) mk arr T):zgm P o a mk arr T:=λw0=>by
 obtain⟨g1,g2,g3⟩:=Oper.apart_spec hap;rw[<- execOp_put o hs a oj.dst u g3];exact h w0
variable{k:St->Option (Ex×St)}
theorem znj(hE:zcq ι N S.env a)(o:Oper)(hal:alI (za1 P o)=true){top:Bool}(h:zdv r B bar top e S (irO P N ops o) k=some (ex,S')):
  (Region.wanted o (yielded ops a.tmps)=false/\k (S.put o.dst zbc)=some (ex,S'))\/
  (Region.wanted o (yielded ops a.tmps)=true/\∃ v mk arr T cs,k ({ S with heap:=S.heap ++ [Ob.blk cs] }.put o.dst v)=some (ex,S')/\zgm P o a mk arr T/\zfj ι cs arr/\∀(ι':Io) b,ι' S.heap.length=some (b,0,arr.size)->VRel ι' v (mk b)):=by
 have hwe:=zlW (P:=P) (ops:=ops) hE o;unfold zdv at h;cases hw:wanted S.env (irO P N ops o).g with
 | false=>rw[hw]at h hwe; exact .inl ⟨hwe.symm,h⟩
 | true=>
  rw[hw]at h hwe;have hi:(irO P N ops o).i=za1 P o:=rfl;have hdst:(irO P N ops o).dst=o.dst:=rfl;simp only[hi,hdst]at h;have hh:(match eff B S.heap S.env (za1 P o)with | some (v,h)=>k ({ S with heap:=h }.put o.dst v)| none=>none)=some (ex,S'):=by
   generalize za1 P o=i at h hal;cases i<;>first | exact h | cases hal
  split at hh
  .rename_i v h' hv;obtain⟨mk,arr,T,cs,g1,rfl,g2,g3⟩:=zuD hE o hal hv;exact .inr ⟨hwe.symm,v,mk,arr,T,cs,hh,g1,g2,g3⟩
  cases hh
theorem zB0{j:Nat}{oj:Oper}(hj:ops[j]? = some oj)(hst:ztq P ops j=true){top:Bool}(h:zdv r B bar top e S (irO P N ops oj) k=some (ex,S')):oj.dst=none/\∃ S1,k S1=some (ex,S')/\S1.env=S.env/\S1.heap.length=S.heap.length:=by
 simp only[ztq,zdl,hj,qai,Option.isNone_iff_eq_none]at hst;obtain⟨h1,h2⟩:=hst;refine⟨h2,?_⟩;unfold zdv at h;have hi:(irO P N ops oj).i=za1 P oj:=rfl;have hdst:(irO P N ops oj).dst=oj.dst:=rfl;simp only[hi,hdst,h2,St.put]at h;split at h
 .exact⟨S,h,rfl,rfl⟩
 generalize za1 P oj=i at h1 h;cases i<;>first | (cases h1; done)| skip
 simp only[zak,qdu,eff]at h;split at h
 .rename_i v h' he;refine⟨_,h,rfl,?_⟩;split at he
  .split at he
   .rw[qdk]at he;split at he
    .simp only[qae,qan]at he;obtain⟨_,rfl⟩:=he;simp
    cases he
   cases he
  cases he
 cases h
theorem zsl(hF:FSim P N B w1 ι S a w){dst:Option Nat}{v:V}{T:TypeId}{cs:List V}{b:Nat}(hb:w.heap[b]? = some (.cells arr T (0,0)))(hlow:w1.heap.size<=b)(hfree:∀ β o b' s sz,S.heap[β]? = some o->o.live->B<=β->ι β=some (b',s,sz)->b'≠b)(hL:zfj ι cs arr)(hv:∀(ι':Io) b,ι' S.heap.length=some (b,0,arr.size)->VRel ι' v (mk b)):
  FSim P N B w1 (ι.ext S.heap.length (b,0,arr.size)) ({ S with heap:=S.heap ++ [Ob.blk cs] }.put dst v) (a.put dst (mk b)) w:=by
 have hle:=hF.sim.zdQ (b,0,arr.size)
 have hS:=hF.sim.zwR (b:=b) (s:=0) (sz:=arr.size) (o:=.blk cs) (w':=w) ⟨rfl,rfl,rfl,qap _,λ_ _ _=>rfl⟩ hlow hfree ⟨b,0,arr.size,arr,T,(0,0),Io.zbf _ _ _,hb,rfl,by rw[hL.1]; omega,λk v hk=>by
  grind [zfj.get,VRel.mono],λ_=>rfl⟩
 exact(hF.heap hle hS).put (hv _ b (Io.zbf _ _ _))
theorem zmR{i:Nat}(ho:ops[i]? = some o)(hal:alI (za1 P o)=true)(hm:Region.wanted o (yielded ops a.tmps)=true->∃ mk arr T,zgm P o a mk arr T){K:Act->World->Prop}(h1:∀ mk arr T,Region.wanted o (yielded ops a.tmps)=true->zgm P o a mk arr T->K (a.put o.dst (mk w.heap.size)) (zbI w (.cells arr T (0,0))))(h2:Region.wanted o (yielded ops a.tmps)=false->K (a.put o.dst undef) w):wpOpIn (FW rb) 0 P ops Q i K a w:=by
 have hnd:∀ c,o.op≠.defer c:=by
  grind [za1,Go.Mx.alI]
 cases hw:Region.wanted o (yielded ops a.tmps)with
 | false=>exact zh8 ho hw (h2 hw)
 | true=>
  obtain⟨mk,arr,T,hmk⟩:=hm hw;refine zhE (Kc':=λu ds w'=>u=mk w.heap.size/\ds=a.defers/\w'=zbI w (.cells arr T (0,0))) (Kp':=λ_ _=>False) ho hw ?_ ?_ (λ_ _ h=>h.elim)
  .grind [ziT,Oper.semAt_eq,Go.Mx.zgm]
  simp_all
end
section
variable {P:Program} {B N:Nat} {w1 w:World} {ι:Io} {S S':St} {a:Act} {r:Rec} {ops:Array Oper} {rd rb:Option Nat} {Q:Exit->Act->World->Prop} {ex:Ex} {bar e:Bool} {Sx:World->Prop}
theorem zDn{j:Nat}(h:alI (zdl P ops j)=true):∃ oj,ops[j]? = some oj/\alI (za1 P oj)=true:=by
 grind [zdl,alI]
theorem zwU{i:I}(h:alI i=true):zgr bar i=true:=by cases i<;>first | rfl | cases h
theorem zop{i:I}(h:alI i=true):zak i=false:=by cases i<;>first | rfl | cases h
theorem znb{y:Nat}{oy:Oper}(hoy:ops[y]? = some oy)(hsel:∀ cs b,oy.op≠.select cs b){top:Bool}(haly:alI (za1 P oy)=true):∀(l:List Nat) (k:Nat) (S:St) (ι:Io) (a:Act),zcq ι N S.env a->(∀ β x,ι β=some x->β<S.heap.length)->y∈l.take k ->
  (∀ j∈l.take k,(alI (zdl P ops j)|| ztq P ops j)=true)->
  (∀ j∈l.take k,j≠y->zsg ops y j=true)->zbg r B bar top e (l.flatMap (zoa P N ops)) S=some (ex,S')->Region.wanted oy (yielded ops a.tmps)=true->∃ mk arr T,zgm P oy a mk arr T
 | [],k,S,ι,a,_,_,hy,_,_,_,_=>by simp at hy
 | j :: l,0,S,ι,a,_,_,hy,_,_,_,_=>by simp at hy
 | j :: l,k+1,S,ι,a,hE,hsc,hy,hal,hap,h,hw=>by
  rw[qcl]at hy hal hap;have halj:=hal j (by simp);rw[qbt]at halj;by_cases hjy:j=y
  .subst hjy;have h:=(zfn hoy h).1;rcases znj (ops:=ops) hE oy haly h with⟨h1,_⟩| ⟨_,v,mk,arr,T,cs,_,h2,_⟩<;> grind
  have hy':y∈l.take k:=by
   grind
  rcases halj with halj | halj
  .obtain⟨oj,hoj,halj⟩:=zDn halj;have h:=(zfn hoj h).1;have hapj:oy.apart ops oj=true:=by
    grind [zsg]
   obtain⟨g1,g2,g3⟩:=Oper.apart_spec hapj;have hw':∀ u,Region.wanted oy (yielded ops (a.put oj.dst u).tmps)=true:=λu=>by rw[wanted_put oy a oj.dst u g3]; exact hw
   have hput:∀ {ι':Io} {S0:St} {v u},zcq ι' N S0.env a->VRel ι' v u->zcq ι' N (S0.put oj.dst v).env (a.put oj.dst u):=λ{ι' S0 v u} h1 h2=>by
    cases hd:oj.dst with
    | none=>exact h1
    | some d=>exact h1.put h2
   have hheap:∀(S0:St) v,(S0.put oj.dst v).heap=S0.heap:=λS0 v=>by cases oj.dst<;>rfl
   rcases znj (ops:=ops) hE oj halj h with⟨h1,h2⟩| ⟨h1,v,mk,arr,T,cs,h2,h3,h4,h5⟩
   .obtain⟨mk,arr,T,h3⟩:=znb hoy hsel haly l k _ ι _ (hput hE (.lit undef)) (by rw[hheap]; exact hsc) hy' (λi hi=>hal i (by simp[hi])) (λi hi=>hap i (by simp[hi])) h2 (hw' _);exact⟨mk,arr,T,h3.put hsel hapj⟩
   have hle:Io.le ι (ι.ext S.heap.length (0,0,arr.size)):=λβ x hx=>by
    grind [Io.ext]
   obtain⟨mk',arr',T',h6⟩:=znb hoy hsel haly l k _ (ι.ext S.heap.length (0,0,arr.size)) _ (hput (S0:={ S with heap:=S.heap ++ [Ob.blk cs] }) (hE.mono hle) (h5 _ 0 (Io.zbf _ _ _))) (by
    rw[hheap];intro β x hx;simp only[qaz,qaB,qa8];simp only[Io.ext]at hx;split at hx
    .omega
    have:=hsc β x hx; omega) hy' (λi hi=>hal i (by simp[hi])) (λi hi=>hap i (by simp[hi])) h2 (hw' _)
   exact⟨mk',arr',T',h6.put hsel hapj⟩
  cases hoj:ops[j]? with
  | none=>simp[ztq,hoj]at halj
  | some oj=>
   have h:=(zfn hoj h).1;obtain⟨_,S1,h1,h2,h3⟩:=zB0 hoj halj h;exact znb hoy hsel haly l k S1 ι a (by rw[h2]; exact hE) (by rw[h3]; exact hsc) hy' (λi hi=>hal i (by simp[hi])) (λi hi=>hap i (by simp[hi])) h1 hw
theorem zgw(n:Nat):∀(Y:Pen) (M:Array Bool),(zh7 Y M).setIfInBounds n true=zh7 Y (M.setIfInBounds n true)
 | [],M=>rfl
 | p :: Y,M=>by
  simp only[zh7];by_cases h:p.1=n
  .subst h;rw[zgw p.1 Y M]
  rw[Array.setIfInBounds_comm _ _ h,zgw n Y M]
theorem ziz{j:Nat}{d:Bool}:∀(Y:Pen) (M:Array Bool),j ∉ Y.map (·.1)->(zh7 Y M).getD j d=M.getD j d
 | [],M,_=>rfl
 | p :: Y,M,h=>by
  simp only[qaL,qav,not_or]at h;simp only[zh7];rw[getD_set_ne _ (Ne.symm h.1),ziz Y M h.2]
theorem zj1{j:Nat}:∀(Y:Pen) (M:Array Bool),M.getD j false=true->(zh7 Y M).getD j false=true
 | [],M,h=>h
 | p :: Y,M,h=>getD_set_true (zj1 Y M h)
theorem zkV{j:Nat}:∀(Y:Pen) (M:Array Bool),(zh7 Y M).getD j true=false->M.getD j true=false
 | [],M,h=>h
 | p :: Y,M,h=>by
  simp only[zh7]at h;by_cases hp:p.1=j
  .simp_all
  rw[getD_set_ne true hp]at h; exact zkV Y M h
theorem zr6{j:Nat}:∀(Y:Pen) (M:Array Bool),(zh7 Y M).getD j true=false->j ∉ Y.map (·.1)
 | [],M,h=>by simp
 | p :: Y,M,h=>by
  simp only[zh7]at h;have hne:p.1≠j:=by
   rintro rfl
   simp_all
  rw[getD_set_ne true hne]at h;simp only[qaL,qav,not_or];exact⟨Ne.symm hne,zr6 Y M h⟩
theorem zmr:∀(Y1 Y2:Pen) (M:Array Bool),zh7 (Y1 ++ Y2) M=zh7 Y1 (zh7 Y2 M)
 | [],_,_=>rfl
 | p :: Y1,Y2,M=>by simp only[qbc,zh7]; rw[zmr Y1 Y2 M]
theorem zj5:∀(Y1 Y2:Pen) (a:Act),zew ops (Y1 ++ Y2) a=zew ops Y1 (zew ops Y2 a)
 | [],_,_=>rfl
 | p :: Y1,Y2,a=>by simp only[qbc,zew]; rw[zj5 Y1 Y2 a]
theorem zk4:∀(Y:Pen) (M:Array Bool),zeJ ops M->(∀ p∈Y,p.1∈Region.ready .any ops M)->(Y.map (·.1)).Nodup->zeJ ops (zh7 Y M)
 | [],M,h,_,_=>h
 | p :: Y,M,h,hr,hn=>by
  simp only[qaL,qaR]at hn;have ih:=zk4 Y M h (λq hq=>hr q (by simp[hq])) hn.2;refine zcu ih ?_;obtain⟨h1,o,h2,h3⟩:=mem_ready.1 (hr p (by simp));exact mem_ready.2 ⟨by rw[ziz Y M hn.1]; exact h1,o,h2,λe he hb=>zj1 Y M (h3 e he hb)⟩
theorem zhK{j:Nat}{Y:Pen}{M:Array Bool}(h:j∈Region.ready .any ops M)(hn:j ∉ Y.map (·.1)):j∈Region.ready .any ops (zh7 Y M):=by
 obtain⟨h1,o,h2,h3⟩:=mem_ready.1 h;exact mem_ready.2 ⟨by rw[ziz Y M hn]; exact h1,o,h2,λe he hb=>zj1 Y M (h3 e he hb)⟩
theorem zqC:∀(f:Nat) (M:Array Bool) (pl:List Nat×List Nat) (L:List Nat),zgR bar P ops f M=some pl->L.Nodup->(∀ y∈L,y∈Region.ready .any ops M/\alI (zdl P ops y)=true)->L.length<=f
 | 0,M,pl,L,hp,hn,hL=>by
  simp only[zgR]at hp;split at hp
  .rename_i he;cases L with
   | nil=>simp
   | cons y L=>
    have:=(hL y (by simp)).1
    simp_all
  .cases hp
 | f+1,M,pl,L,hp,hn,hL=>by
  have zgl:∀ i pl',zgR bar P ops f (M.setIfInBounds i true)=some pl'->i ∉ L->L.length<=f:=λi pl' hp' hi=>
   zqC f _ pl' L hp' hn λy hy=>⟨ready_mono (hL y hy).1 (λh=>hi (h ▸ hy)),(hL y hy).2⟩
  have drop:∀ i pl',zgR bar P ops f (M.setIfInBounds i true)=some pl'->L.length<=f+1:=λi pl' hp'=>by
   by_cases hi:i∈L
   .have h1:=zqC f _ pl' (L.erase i) hp' (hn.erase i) λy hy=>by
     have hy':=List.mem_of_mem_erase hy;refine⟨ready_mono (hL y hy').1 (λh=>?_),(hL y hy').2⟩;subst h;exact(List.Nodup.not_mem_erase hn) hy
    rw[List.length_erase_of_mem hi]at h1;omega
   have:=zgl i pl' hp' hi; omega
  simp only[zgR]at hp;split at hp
  .rename_i i hfind;simp only[qal]at hp;obtain⟨pl',hp',rfl⟩:=hp;exact drop i pl' hp'
  split at hp
  .rename_i hr0;cases L with
   | nil=>simp
   | cons y L=>have:=(hL y (by simp)).1; rw[hr0]at this; cases this
  .rename_i i hr0;have:L.length<=1:=by
    have hsub:L ⊆ [i]:=λy hy=>by have:=(hL y hy).1; rw[hr0]at this; exact this
    match L,hn,hsub with
    | [],_,_=>simp
    | [_],_,_=>simp
    | y :: z :: L,hn,hsub=>
     have h1:=hsub (show y∈y :: z :: L by simp);have h2:=hsub (show z∈y :: z :: L by simp);simp only[qaJ]at h1 h2;subst h1;subst h2;simp at hn
   omega
  rename_i i j l hr0;cases hok:okN bar P ops M (i :: j :: l) (znO bar P ops M (i :: j :: l))with
  | false=>simp only[hok,qdu]at hp; cases hp
  | true=>
   simp only[hok,qdt]at hp;split at hp
   .rename_i pl' hp';exact drop _ pl' hp'
   cases hp
end
section
variable {P:Program} {B N:Nat} {w1 w:World} {ι:Io} {S S':St} {a:Act} {r:Rec} {ops:Array Oper} {rd rb:Option Nat} {Q:Exit->Act->World->Prop} {ex:Ex} {bar e:Bool} {Sx:World->Prop}
theorem znQ(hex:∀ v e',ex=.panic v e'->e'=false){d:Option Tmp}{u:Value}(c:List PanicEntry)(a:Act)(w:World):zfT P N B w1 ι ex S' (.panic c) (a.put d u) w↔zfT P N B w1 ι ex S' (.panic c) a w:=by
 have hd:(a.put d u).defers=a.defers:=by cases d<;>rfl
 grind [Go.Mx.zfT]
structure Stage (bar:Bool) (P:Program) (ops:Array Oper) (M:Array Bool) (n:Nat) (r1:List Nat):Prop where
 mem:n∈Region.ready .any ops M
 ext:zgr bar (zdl P ops n)=true\/ztq P ops n=true
 others:∀ i∈Region.ready .any ops M,i≠n->alI (zdl P ops i)=true/\Region.free .any ops M i=true
 clos:∀ k ok,ops[k]? = some ok->M.getD k true=false->k ∉ Region.ready .any ops M->∃ e∈ok.after,Region.binds .any e=true/\M.getD e.on false=false/\(e.on=n\/e.on ∉ Region.ready .any ops M)
 sure:∀ i∈Region.ready .any ops M,i≠n->zmC (zdl P ops i)=true\/∃ k,i∈(n :: r1).take k/\∀ j∈(n :: r1).take k,(alI (zdl P ops j)|| ztq P ops j)=true/\(j≠i->zsg ops i j=true)
variable{M:Array Bool}
theorem zqJ{n:Nat}{r1:List Nat}(h1:okN bar P ops M (Region.ready .any ops M) n=true)(h2:okF P ops (Region.ready .any ops M) n r1=true):Stage bar P ops M n r1:=by
 simp only[okN,qai,qcs,qbt,qdz,qaW,qdd,decide_eq_true_eq]at h1;obtain⟨⟨⟨⟨g1,g2⟩,g3⟩,g4⟩,g5⟩:=h1;refine⟨g1,g2,λi hi hne=>?_,λk ok hk hun hnot=>?_,λi hi hne=>?_⟩
 .grind
 .grind
 cases hs:zmC (zdl P ops i)with
 | true=>exact .inl rfl
 | false=>
  refine .inr ⟨r1.idxOf i+2,?_⟩
  grind [Go.Mx.okF]
theorem zv5{n:Nat}{r1:List Nat}(hr:Region.ready .any ops M=[n])(hx:zgr bar (zdl P ops n)=true):Stage bar P ops M n r1:=by
 refine⟨by rw[hr]; simp,.inl hx,λi hi hne=>?_,λk ok hk hun hnot=>?_,λi hi hne=>?_⟩
 .rw[hr]at hi; simp at hi; exact absurd hi hne
 .have hnr:¬ ∀ e∈ok.after,Region.binds .any e=true->M.getD e.on false=true:=λh=>hnot (mem_ready.2 ⟨hun,ok,hk,h⟩)
  obtain⟨ed,h1⟩:=Classical.not_forall.1 hnr;obtain⟨h2,h1⟩:=Classical.not_imp.1 h1;obtain⟨h3,h1⟩:=Classical.not_imp.1 h1;refine⟨ed,h2,h3,by simpa using h1,?_⟩;by_cases hm:ed.on∈Region.ready .any ops M
  .rw[hr]at hm; simp at hm; exact .inl hm
  exact .inr hm
 rw[hr]at hi; simp at hi; exact absurd hi hne
theorem zqj{Y:Pen}{h:zam}(hY:∀ p∈Y,PenOk P ops B a w w1 ι h M p){j:Nat}{oj:Oper}(hj:ops[j]? = some oj)(hjr:j∈Region.ready .any ops M)(hn:j ∉ Y.map (·.1)):ApY ops Y oj:=by
 grind [mem_ready,Go.Mx.ApY,Go.Mx.PenOk]
def zrP(p q:Nat×Option Nat×Value):Prop:=p.1≠q.1/\∀ b,p.2.1=some b->q.2.1≠some b
theorem ztT{Y:Pen}(h:Y.Pairwise zrP):(Y.map (·.1)).Nodup:=by
 grind [zrP]
theorem zml(ops:Array Oper)(Pr:Prs)(j:Nat)(w:World):Carry ops Pr j w w:=λ_ _ _ _ h=>h
theorem zpB(Pr:Prs)(j:Nat)(w:World)(x:Obj):Carry ops Pr j w (zbI w x):=λp _ _ o h=>by
 grind [Go.Mx.zbI]
theorem zG7(hF:FSim P N B w1 ι S a w){o:Oper}(hq:zak (za1 P o)=true){top:Bool}{k:St->Option (Ex×St)}(h:zdv r B bar top e S (irO P N ops o) k=some (ex,S'))(hw:Region.wanted o (yielded ops a.tmps)=true):∀ b,ldB a o=some b->∃ x,w.heap[b]? = some x:=by
 intro b hb;have hwe:=zhX (ops:=ops) hF o;rw[hw]at hwe;unfold ldB at hb;split at hb
 .rename_i t x hop;have hi:(irO P N ops o).i=za1 P o:=rfl;have hir:za1 P o=bif zdM P t then .load (zp7 P t) (opX x)else .bad:=by unfold za1; rw[hop]
  cases ht:zdM P t with
  | false=>rw[hir,ht]at hq; cases hq
  | true=>
   rw[ht,qdt]at hir;unfold zdv at h;simp only[hwe,hi,hir,zak,qdt,q]at h;split at h
   .rename_i v hv;split at hv
    .rename_i β off hev;obtain⟨cs,h2,h3⟩:=qaY.1 hv;have hx:=zae hF.env hev;obtain⟨b',s,sz,arr,T,fr,k1,k2,_⟩:=hF.sim.cells h2;generalize hu0:a.eval x=u0 at hx hb;cases hx with
     | ptr _ _ b2 s2 sz2 hι=>
      rw[k1]at hι;cases hι;simp only[zFH,qae]at hb;subst hb;exact⟨_,k2⟩
    cases hv
   cases h
 cases hb
theorem zye{i:Nat}{o:Oper}(ho:ops[i]? = some o)(hi:i∈Region.ready .any ops M)(hl:(!zux ops i || zrl bar P ops M i)=true){b:Nat}(hb:ldB a o=some b){u:Value}:PrOk bar P ops (a.put o.dst u) (M.setIfInBounds i true) (i,b):=by
 unfold ldB at hb;split at hb
 .rename_i t x hop;have hld:zux ops i=true:=by simp[zux,ho,zGE,hop]
  have hlx:ldX ops i=some x:=by simp[ldX,ho,hop]
  rw[hld]at hl;simp only[qbs,qdm,zrl,qai,hlx,qcs,qaW,qbt,qdz]at hl;obtain⟨h1,h2⟩:=hl;have hmono:∀ {k},(M.setIfInBounds i true).getD k false=false->M.getD k false=false:=λ{k} h=>by
   grind [getD_set_true]
  have hset:(M.setIfInBounds i true).getD i false=true:=by
   have:=(mem_ready.1 hi).1;rcases qa0 i M.size with h' | h'<;>simp_all
  have hne:∀ k ok,ops[k]? = some ok->M.getD k false=false->∀ d,ok.dst=some d->x≠.tmp d:=λk ok hk hun d hd hx=>by
   grind
  refine⟨hset,λj hj hun=>?_,x,hlx,?_,λk ok hk hun=>hne k ok hk (hmono hun)⟩
  .grind
  rw[<- hb];congr 1
  cases hd:o.dst with
  | none=>rfl
  | some d=>
   have:=hne i o ho (zf2 hi) d hd;cases x with
   | tmp k=>
    have hne:k≠d:=λh=>this (by rw[h])
    simp only[Act.put,Act.eval];simp[hne,Ne.symm hne]
   | _=>rfl
 cases hb
theorem zhD(hr:RecOk P r)(hsel:Region.noSelect ops=true)(hnd:zgK ops=true)(hex:∀ v e',ex=.panic v e'->e'=false){Pr:Prs}:∀(f:Nat) (listed:Array Bool) (l:List Nat) (S:St) (ι:Io) (a:Act) (w:World),zeJ ops listed->znn P ops f listed=some l->FSim P N B w1 ι S a w->zhl ι rd rb->(∀ p∈Pr,PrOk bar P ops a listed p)->
  zbg r B bar rd.isNone false (l.flatMap (zoa P N ops)) S=some (ex,S')->zd5 rb P ops (zfT P N B w1 ι ex S') Pr f listed a w
 | 0,listed,l,S,ι,a,w,_,hp,hF,_,_,h=>by
  simp only[znn]at hp;split at hp
  .rename_i he;cases hp;simp only[qdl,zbg,qae,qan]at h;obtain⟨rfl,rfl⟩:=h
   grind [Io.le,Go.Mx.zd5,Go.Mx.zfT]
  .cases hp
 | f+1,listed,l,S,ι,a,w,hcl,hp,hF,hrd,hP,h=>by
  simp only[znn]at hp;split at hp
  .rename_i i hfind;simp only[qal]at hp;obtain⟨l',hp',rfl⟩:=hp;have hse:=Region.noSelect_spec hsel;have hmem:=List.mem_of_find?_eq_some hfind;have hcond:=List.find?_some hfind;simp only[qai]at hcond;obtain⟨⟨hq,hfree⟩,hld⟩:=hcond;obtain⟨hiu,o,ho,hall⟩:=mem_ready.1 hmem;rw[zem ho]at hq;have h:=(zfn ho h).1;have hfr:∀ j oj,ops[j]? = some oj->j≠i->listed.getD j true=false->(∀ e∈oj.after,Region.binds .any e=true->e.on≠i)->o.apart ops oj=true:=λj oj hj hne hun hno=>Region.free_spec ho hfree j oj hj hne hun hno
   have hnl:ldB a o=none:=by
    unfold ldB;split
    .rename_i t x hop;simp[zux,ho,zGE,hop]at hld
    rfl
   have next:∀ v u,((∀ w':World,(execOp a.eval o).run P w'=.ok (.value u) w')/\Region.wanted o (yielded ops a.tmps)=true/\VRel ι v u\/Region.wanted o (yielded ops a.tmps)=false/\u=undef/\v=zbc)->
     zbg r B bar rd.isNone false (l'.flatMap (zoa P N ops)) (S.put o.dst v)=some (ex,S')->zd5 rb P ops (zfT P N B w1 ι ex S') Pr (f+1) listed a w:=by
    intro v u hy hk;have hvr:VRel ι v u:=by
     rcases hy with⟨_,_,h3⟩| ⟨_,h2,h3⟩
     .exact h3
     subst h2; subst h3; exact .lit _
    have ih:=zhD hr hsel hnd hex f (listed.setIfInBounds i true) l' _ ι (a.put o.dst u) w (zcu hcl hmem) hp' (hF.put (d:=o.dst) hvr) hrd (λp hp=>(hP p hp).step (ds:=a.defers) ho hmem) hk;refine zjt (v:=u) ho hse hnd (λc a w hc=>(znQ hex c a w).1 hc) (Pr:=Pr) (Pr':=Pr) (λ_ h=>h) (ob:=none) (λb hb=>by cases hb) f _ _ w hcl hfr hmem ?_ (λb hb=>by cases hb) ih;rcases hy with⟨h1,h2,_⟩| ⟨h1,h2,_⟩
    .exact .inl ⟨h2,λw' _=>h1 w'⟩
    exact .inr ⟨h1,h2⟩
   rcases ze5 (ops:=ops) hr hF hrd o h with⟨hw,hk⟩| ⟨hw,_,v,u,hk,hv,hy⟩| ⟨hw,hnq,_⟩
   .exact next _ _ (.inr ⟨hw,rfl,rfl⟩) hk
   .exact next _ _ (.inl ⟨λw'=>hy w' λb hb=>(by rw[hnl]at hb; cases hb),hw,hv⟩) hk
   rw[hq]at hnq; cases hnq
  split at hp
  .rename_i hr0;cases hp;simp only[qdl,zbg,qae,qan]at h;obtain⟨rfl,rfl⟩:=h
   grind [Io.le,Go.Mx.zd5,Go.Mx.zfT]
  .rename_i i hr0;simp only[qal]at hp;obtain⟨l',hp',rfl⟩:=hp;refine⟨λh0=>(by rw[hr0]at h0; cases h0),λj hj=>?_⟩;have hjm:=hj;rw[hr0]at hj;simp at hj;subst hj;obtain⟨_,o,ho,_⟩:=mem_ready.1 hjm;obtain⟨h,havo⟩:=zfn ho h;refine znN hr hF hrd ho h λS1 ι1 a1 wx hle hF1 hk hbel _ hbut hsk ha1=>⟨znH hF hcl ho hjm hP hbel hbut hsk havo,zdT (λen a w hp=>hp.mono hle) f _ _ _ (zhD hr hsel hnd hex f _ l' S1 ι1 a1 wx (zcu hcl hjm) hp' hF1 (hrd.mono hle) (λp hp=>?_) hk)⟩
   grind [PrOk.step]
  cases hp
theorem zch(hr:RecOk P r)(hsel:Region.noSelect ops=true)(hnd:zgK ops=true)(hex:∀ v e',ex=.panic v e'->e'=false):∀(g:Nat) (Y:Pen) (M:Array Bool) (pl:List Nat×List Nat) (S:St) (ι:Io) (a:Act) (w:World),zeJ ops M ->
  zgR bar P ops (g+Y.length) M=some pl->FSim P N B w1 ι S a w->zhl ι rd rb->(∀ p∈Y,PenOk P ops B a w w1 ι S.heap M p)->Y.Pairwise zrP->∀(Pr:Prs),(∀ p∈Pr,PrOk bar P ops a M p)->
  zbg r B bar rd.isNone false ((pl.1 ++ pl.2).flatMap (zoa P N ops)) S=some (ex,S')->zd5 rb P ops (zfT P N B w1 ι ex S') Pr g (zh7 Y M) (zew ops Y a) w:=by
 intro g Y M pl S ι a w hcl hp hF hrd hY hpw Pr hP h;have hse:=Region.noSelect_spec hsel;have hnod:=ztT hpw;have hYr:∀ p∈Y,p.1∈Region.ready .any ops M:=λp hp=>(hY p hp).ready
 have hpens:∀ {i f pl'},zgR bar P ops f (M.setIfInBounds i true)=some pl'->i ∉ Y.map (·.1)->Y.length<=f:=λ{i f pl'} hp' hi=>by
  have:=zqC f _ pl' (Y.map (·.1)) hp' hnod λy hy=>by
   grind [ready_mono,Go.Mx.PenOk]
  simp_all
 have hp0:=hp;cases hfy:g+Y.length with
 | zero=>
  have hg:g=0:=by omega
  have hY0:Y=[]:=qbf (by omega);subst hg;subst hY0;simp only[qa8,qbH,zgR]at hp;split at hp
  .rename_i he;cases hp;simp only[qaP,qdl,zbg,qae,qan]at h;obtain⟨rfl,rfl⟩:=h;exact⟨by show Region.ready .any ops M=[]; simpa using he,ι,Io.le.refl _,rfl,hF⟩
  .cases hp
 | succ f=>
  rw[hfy]at hp;simp only[zgR]at hp;split at hp
  .
   rename_i i hfind;simp only[qal]at hp;obtain⟨pl',hp',rfl⟩:=hp;have hmem:=List.mem_of_find?_eq_some hfind;have hcond:=List.find?_some hfind;simp only[qai]at hcond;obtain⟨⟨hq,hfree⟩,hlate⟩:=hcond;obtain⟨hiu,o,ho,hall⟩:=mem_ready.1 hmem;rw[zem ho]at hq;have hiY:i ∉ Y.map (·.1):=λhi=>by
    obtain⟨p,hp1,rfl⟩:=qaH.1 hi;have:=zop (hY p hp1).al;rw[zem ho,hq]at this;cases this
   have hYf:=hpens hp' hiY;obtain⟨g',rfl⟩:∃ g',g=g'+1:=⟨g - 1,by omega⟩;have hf:f=g'+Y.length:=by omega
   subst hf;simp only[qbc]at h;have h:=(zfn ho h).1;have hx:zgr bar (zdl P ops i)=true:=by rw[zem ho]; exact zor hq
   have hap:=zqj hY ho hmem hiY;have hsi:∀ cs b,o.op≠.select cs b:=λcs b=>hse i o cs b ho
   have hfr:∀ j oj,ops[j]? = some oj->j≠i->(zh7 Y M).getD j true=false->(∀ e∈oj.after,Region.binds .any e=true->e.on≠i)->o.apart ops oj=true:=λj oj hj hne hun hno=>Region.free_spec ho hfree j oj hj hne (zkV Y M hun) hno
   have next:∀ v u (ob:Option Nat),(∀ b,ob=some b->ldB a o=some b/\∃ x,w.heap[b]? = some x)->((∀ w',(∀ b,ob=some b->w'.heap[b]? = w.heap[b]?)->(execOp a.eval o).run P w'=.ok (.value u) w')/\Region.wanted o (yielded ops a.tmps)=true/\VRel ι v u\/Region.wanted o (yielded ops a.tmps)=false/\u=undef/\v=zbc)->
     zbg r B bar rd.isNone false ((pl'.1 ++ pl'.2).flatMap (zoa P N ops)) (S.put o.dst v)=some (ex,S')->zd5 rb P ops (zfT P N B w1 ι ex S') Pr (g'+1) (zh7 Y M) (zew ops Y a) w:=by
    intro v u ob hob hy hk;have hvr:VRel ι v u:=by
     rcases hy with⟨_,_,h3⟩| ⟨_,h2,h3⟩
     .exact h3
     subst h2; subst h3; exact .lit _
    have hheap:(S.put o.dst v).heap=S.heap:=by cases o.dst<;>rfl
    have hold:∀ p∈Pr,PrOk bar P ops (a.put o.dst u) (M.setIfInBounds i true) p:=λp hp=>(hP p hp).step (ds:=a.defers) ho hmem
    obtain⟨Pr',hsub,hobP,hP'⟩:∃ Pr':Prs,(∀ p∈Pr,p∈Pr')/\(∀ b,ob=some b->(i,b)∈Pr')/\∀ p∈Pr',PrOk bar P ops (a.put o.dst u) (M.setIfInBounds i true) p:=by
     cases ob with
     | none=>exact⟨Pr,λ_ h=>h,λb hb=>(by cases hb),hold⟩
     | some b=>
      refine⟨(i,b):: Pr,λp hp=>qah _ hp,λb' hb=>by cases hb; exact qaj,λp hp=>?_⟩;rcases qav.1 hp with rfl | hp
      .exact zye ho hmem hlate (hob b rfl).1
      exact hold p hp
    have ih:=zch hr hsel hnd hex g' Y (M.setIfInBounds i true) pl' _ ι (a.put o.dst u) w (zcu hcl hmem) hp' (hF.put (d:=o.dst) hvr) hrd (λp hp=>by
     rw[hheap]
     exact(hY p hp).step (ds:=a.defers) ho hmem (λh=>hiY (qaH.2 ⟨p,hp,h.symm⟩)) hse (λ_ _ _ _=>rfl) (λb _ _ h=>h)) hpw Pr' hP' hk
    refine zjt (v:=u) ho hse hnd (λc a w hc=>(znQ hex c a w).1 hc) hsub hobP g' _ _ w (zk4 Y M hcl hYr hnod) hfr (zhK hmem hiY) ?_ (λb hb=>(hob b hb).2) ?_
    .rcases hy with⟨h1,h2,_⟩| ⟨h1,h2,_⟩
     .exact .inl ⟨by rw[zgT Y a hap]; exact h2,λw' hw'=>by rw[zlC hsi Y a hap]; exact h1 w' hw'⟩
     exact .inr ⟨by rw[zgT Y a hap]; exact h1,h2⟩
    rw[zgw,zgM Y a hap];exact ih
   have hld:=λhw=>zG7 (top:=rd.isNone) (w:=w) (ops:=ops) hF hq h hw
   rcases ze5 (ops:=ops) hr hF hrd o h with⟨hw,hk⟩| ⟨hw,_,v,u,hk,hv,hy⟩| ⟨hw,hnq,_⟩
   .exact next _ _ none (λb hb=>by cases hb) (.inr ⟨hw,rfl,rfl⟩) hk
   .exact next _ _ (ldB a o) (λb hb=>⟨hb,hld hw b hb⟩) (.inl ⟨hy,hw,hv⟩) hk
   rw[hq]at hnq; cases hnq
  .
   have stage:∀ n pl',Stage bar P ops M n pl'.1->zgR bar P ops f (M.setIfInBounds n true)=some pl'->pl=(n :: pl'.1,pl'.2)->zd5 rb P ops (zfT P N B w1 ι ex S') Pr g (zh7 Y M) (zew ops Y a) w:=by
    rintro n pl' hst hp' rfl;obtain⟨hnu,on,hon,hnall⟩:=mem_ready.1 hst.mem;have h0:=h;simp only[qbc]at h h0;obtain⟨h,havo⟩:=zfn hon h;by_cases hnY:n∈Y.map (·.1)
    .
     obtain⟨p,hp1,hpn⟩:=qaH.1 hnY;obtain⟨Y1,Y2,rfl⟩:=List.append_of_mem hp1;have hpo:=hY p hp1;have hlen:(Y1 ++ p :: Y2).length=(Y1 ++ Y2).length+1:=by simp; omega
     have hf:f=g+(Y1 ++ Y2).length:=by omega
     subst hf;have hsub:∀ q∈Y1 ++ Y2,q∈Y1 ++ p :: Y2:=λq hq=>by
      rcases qa9.1 hq with h | h
      .simp[h]
      simp[h]
     have hpw2:(Y1 ++ Y2).Pairwise zrP:=hpw.sublist (List.Sublist.append (List.Sublist.refl _) (List.sublist_cons_self _ _));have hne:∀ q∈Y1 ++ Y2,q.1≠p.1/\∀ b,p.2.1=some b->q.2.1≠some b:=λq hq=>by
      rw[qcU]at hpw;rcases qa9.1 hq with h | h
      .have:=hpw.2.2 q h p (by simp);exact⟨this.1,λb hb hq=>this.2 b hq hb⟩
      have:=(qa4.1 hpw.2.1).1 q h;exact⟨Ne.symm this.1,this.2⟩
     have hnot:n ∉ (Y1 ++ Y2).map (·.1):=λhn=>by
      obtain⟨q,hq,hqn⟩:=qaH.1 hn;exact(hne q hq).1 (hqn.trans hpn.symm)
     have hap:=zqj (λq hq=>hY q (hsub q hq)) hon hst.mem hnot;have hsetY:zh7 (Y1 ++ p :: Y2) M=zh7 (Y1 ++ Y2) (M.setIfInBounds n true):=by
      rw[zmr,zmr];simp only[zh7];rw[hpn,zgw]
     have hputs:zew ops (Y1 ++ p :: Y2) a=zew ops (Y1 ++ Y2) (a.put on.dst p.2.2):=by
      rw[zj5,zj5];simp only[zew];rw[hpn,zhC hon,zgM Y2 a λq hq=>hap q (by simp[hq])]
     rw[hsetY,hputs];have hal:alI (za1 P on)=true:=by
      have:=hpo.al;rw[hpn,zem hon]at this;exact this
     obtain⟨oy,hoy,hm⟩:=hpo.made;have:oy=on:=by
      rw[hpn]at hoy;exact qaf (hoy.symm.trans hon)
     subst this;rcases znj (ops:=ops) hF.env oy hal h with⟨hw,hk⟩| ⟨hw,v,mk,arr,T,cs,hk,hmk,hL,hv⟩
     .rcases hm with⟨hw',_⟩| ⟨_,_,hu⟩
      .rw[hw]at hw'; cases hw'
      rw[hu];have hheap:(S.put oy.dst zbc).heap=S.heap:=by cases oy.dst<;>rfl
      exact zch hr hsel hnd hex g (Y1 ++ Y2) _ pl' _ ι _ w (zcu hcl hst.mem) hp' (hF.put (d:=oy.dst) (v:=zbc) (.lit _)) hrd (λq hq=>by
       rw[hheap]
       exact(hY q (hsub q hq)).step (ds:=a.defers) hon hst.mem (λh=>hnot (qaH.2 ⟨q,hq,h.symm⟩)) hse (λ_ _ _ _=>rfl) (λb _ _ h=>h)) hpw2 Pr (λp hp=>(hP p hp).step (ds:=a.defers) hon hst.mem) hk
     rcases hm with⟨_,b,mk',arr',T',hb,hmk',hu,hblk,hlow,hfree⟩| ⟨hw',_⟩
     .obtain⟨e1,e2,e3⟩:=zgm.same w hmk hmk' b;subst e2;subst e3;rw[hu,<- e1];have hF2:=zsl (dst:=oy.dst) hF hblk hlow hfree hL hv;have hle:Io.le ι (ι.ext S.heap.length (b,0,arr.size)):=hF.sim.zdQ _;have hheap:(St.put { S with heap:=S.heap ++ [Ob.blk cs] } oy.dst v).heap=S.heap ++ [Ob.blk cs]:=by cases oy.dst<;>rfl
      refine zdT (λen a w hp=>hp.mono hle) _ _ _ _ (zch hr hsel hnd hex g (Y1 ++ Y2) _ pl' _ _ _ w (zcu hcl hst.mem) hp' hF2 (hrd.mono hle) (λq hq=>?_) hpw2 Pr (λp hp=>(hP p hp).step (ds:=a.defers) hon hst.mem) hk);rw[hheap];refine(hY q (hsub q hq)).step (ds:=a.defers) hon hst.mem (λh=>hnot (qaH.2 ⟨q,hq,h.symm⟩)) hse (λ_ _ _ _=>rfl) (λb0 hq0 hb0 hfr=>?_);intro β o b' s sz h1 h2 h3 h4;by_cases hβ:β<S.heap.length
      .rw[qar hβ]at h1;refine hfr β o b' s sz h1 h2 h3 ?_;simp only[Io.ext]at h4;rw[if_neg (by omega)]at h4;exact h4
      have hβ2:=(qab.1 h1).1;simp only[qaz,qaB,qa8]at hβ2;obtain rfl:β=S.heap.length:=by omega
      rw[Io.zbf]at h4;cases h4;exact λhe=>(hne q hq).2 _ hb (by rw[hq0,he])
     rw[hw]at hw'; cases hw'
    .
     have hYf:=hpens hp' hnY;obtain⟨g',rfl⟩:∃ g',g=g'+1:=⟨g - 1,by omega⟩;have hf:f=g'+Y.length:=by omega
     subst hf;have hnin:=zhK hst.mem hnY;refine⟨λh0=>(by rw[h0]at hnin; cases hnin),λj hj=>?_⟩;obtain⟨hju,oj,hoj,hall⟩:=mem_ready.1 hj;have hjM:=zkV Y M hju;have hjY:=zr6 Y M hju;have hjl:j∈Region.ready .any ops M:=by
      by_cases hjl:j∈Region.ready .any ops M
      .exact hjl
      obtain⟨ed,hed,hb,hun,hor⟩:=hst.clos j oj hoj hjM hjl;have h1:=hall ed hed hb;have h2:ed.on∈Y.map (·.1):=by
       by_cases hin:ed.on∈Y.map (·.1)
       .exact hin
       rw[ziz Y M hin,hun]at h1; cases h1
      obtain⟨p,hp1,hpe⟩:=qaH.1 h2;rcases hor with h3 | h3
      .exact absurd (h3 ▸ h2) hnY
      exact absurd (hpe ▸ hYr p hp1) h3
     have hap:=zqj hY hoj hjl hjY;have hsj:∀ cs b,oj.op≠.select cs b:=λcs b=>hse j oj cs b hoj
     have hdj:=zfp hnd hoj;have out:=λ{K:Act->World->Prop} (hk:wpOpIn (FW rb) 0 P ops (zfT P N B w1 ι ex S') j K a w)=>zlP hoj hsj hdj (λd u c a w hc=>(znQ hex c a w).2 hc) Y a hap hk
     have old:∀ {ob:Obj} {b:Nat} {x:Obj},w.heap[b]? = some x->(zbI w ob).heap[b]? = some x:=λ{ob b x} hb=>by
      rw[(zbb w ob).block b (qbg.1 hb).1]; exact hb
     by_cases hjn:j=n
     .subst hjn;have:oj=on:=qaf (hoj.symm.trans hon);subst this;rw[zgw];cases hal:alI (za1 P oj)with
      | true=>
       suffices hs:wpOpIn (FW rb) 0 P ops (zfT P N B w1 ι ex S') j (λa1 w'=>Carry ops Pr j w w'/\zd5 rb P ops (zfT P N B w1 ι ex S') Pr g' (zh7 Y (M.setIfInBounds j true)) (zew ops Y a1) w') a w by
        refine wpOpIn_mono ?_ (out hs);rintro a' w' ⟨a1,rfl,h1,h2⟩;exact⟨h1,h2⟩
       rcases znj (ops:=ops) hF.env oj hal h with⟨hw,hk⟩| ⟨hw,v,mk,arr,T,cs,hk,hmk,hL,hv⟩
       .refine zmR hoj hal (λhw'=>by rw[hw]at hw'; cases hw') (λ_ _ _ hw'=>by rw[hw]at hw'; cases hw') λ_=>⟨zml _ _ _ _,?_⟩
        have hheap:(S.put oj.dst zbc).heap=S.heap:=by cases oj.dst<;>rfl
        exact zch hr hsel hnd hex g' Y _ pl' _ ι _ w (zcu hcl hst.mem) hp' (hF.put (d:=oj.dst) (v:=zbc) (.lit _)) hrd (λq hq=>by
         rw[hheap]
         exact(hY q hq).step (ds:=a.defers) hoj hst.mem (λh=>hnY (qaH.2 ⟨q,hq,h.symm⟩)) hse (λ_ _ _ _=>rfl) (λb _ _ h=>h)) hpw Pr (λp hp=>(hP p hp).step (ds:=a.defers) hoj hst.mem) hk
       .refine zmR hoj hal (λ_=>⟨mk,arr,T,hmk⟩) (λmk' arr' T' _ hmk'=>?_) λhw'=>by rw[hw]at hw'; cases hw'
        obtain⟨e1,e2,e3⟩:=zgm.same w hmk hmk' w.heap.size;subst e2;subst e3;rw[<- e1];refine⟨zpB _ _ _ _,?_⟩;have hF':FSim P N B w1 ι S a (zbI w (.cells arr T (0,0))):=⟨hF.sim.grown (zc0 w _ none),hF.env,hF.dfs⟩;have hF2:=zsl (dst:=oj.dst) hF' (zdt w _) hF.sim.below.size (λβ o b' s sz q1 q2 _ q4=>by have:=hF.sim.lt q1 q2 q4; omega) hL hv;have hle:Io.le ι (ι.ext S.heap.length (w.heap.size,0,arr.size)):=hF.sim.zdQ _;have hheap:(St.put { S with heap:=S.heap ++ [Ob.blk cs] } oj.dst v).heap=S.heap ++ [Ob.blk cs]:=by cases oj.dst<;>rfl
        refine zdT (λen a w hp=>hp.mono hle) _ _ _ _ (zch hr hsel hnd hex g' Y _ pl' _ _ _ _ (zcu hcl hst.mem) hp' hF2 (hrd.mono hle) (λq hq=>?_) hpw Pr (λp hp=>(hP p hp).step (ds:=a.defers) hoj hst.mem) hk);rw[hheap];refine(hY q hq).step (ds:=a.defers) hoj hst.mem (λh=>hnY (qaH.2 ⟨q,hq,h.symm⟩)) hse (λb _ hb _=>(zbb _ _).block b hb) (λb0 hq0 hb0 hfr=>?_);intro β o b' s sz h1 h2 h3 h4;by_cases hβ:β<S.heap.length
        .rw[qar hβ]at h1;refine hfr β o b' s sz h1 h2 h3 ?_;simp only[Io.ext]at h4;rw[if_neg (by omega)]at h4;exact h4
        .have hβ2:=(qab.1 h1).1;simp only[qaz,qaB,qa8]at hβ2;obtain rfl:β=S.heap.length:=by omega
         rw[Io.zbf]at h4;cases h4;omega
      | false=>
       suffices hs:wpOpIn (FW rb) 0 P ops (zfT P N B w1 ι ex S') j (λa1 w'=>Carry ops Pr j w w'/\zd5 rb P ops (zfT P N B w1 ι ex S') Pr g' (zh7 Y (M.setIfInBounds j true)) (zew ops Y a1) w') a w by
        refine wpOpIn_mono ?_ (out hs);rintro a' w' ⟨a1,rfl,h1,h2⟩;exact⟨h1,h2⟩
       refine znN hr hF hrd hoj h λS1 ι1 a1 wx hle hF1 hk hbel hnu hbut hsk ⟨u,ds,ha1⟩=>⟨znH hF hcl hoj hjl hP hbel hbut hsk havo,?_⟩
       have hnu':=hnu (by
        rcases hst.ext with h1 | h1
        .rw[h1,zem hoj,hal]; rfl
        simp only[ztq,qai]at h1
        rw[h1.1,Bool.or_true])
       refine zdT (λen a w hp=>hp.mono hle) _ _ _ _ (zch hr hsel hnd hex g' Y _ pl' _ _ _ _ (zcu hcl hst.mem) hp' hF1 (hrd.mono hle) (λq hq=>?_) hpw Pr (λp hp=>by rw[ha1]; exact(hP p hp).step hoj hst.mem) hk);rw[ha1];refine(hY q hq).step hoj hst.mem (λh=>hnY (qaH.2 ⟨q,hq,h.symm⟩)) hse (λb0 hq0 hb0 hfr=>?_) (λb0 hq0 hb0 hfr=>?_)
       .rcases hst.ext with h1 | h1
        .exact(hbel h1).block _ hb0
        cases hw:wanted S.env (irO P N ops oj).g with
        | false=>rw[hsk hw]
        | true=>
         simp only[ztq,qai]at h1
         obtain⟨ob,k1,k2⟩:=hbut (by
          have:=h1.1;generalize zdl P ops j=i0 at this
          cases i0<;>first | rfl | cases this) hw
         refine k1 _ hb0 λhe=>?_
         obtain⟨β,s,sz,ob',m1,m2,m3,m4,m5⟩:=k2 _ he.symm;exact hfr β _ _ _ _ m3 m4 m5 m2 rfl
       intro β o b' s sz h1 h2 h3 h4;by_cases hβ:β<S.heap.length
       .obtain⟨o0,h5,h6⟩:=hnu'.1 β o hβ h1 h2;obtain⟨b2,s2,sz2,ob,g1,_⟩:=(hF.sim.obj β o0 h5).at_ h6;have:=hle β _ g1;rw[h4]at this;cases this;exact hfr β o0 b' s sz h5 h6 h3 g1
       have:=hnu'.2 β o b' s sz h1 h2 (by omega) h4;omega
     obtain⟨hal,hfree⟩:=hst.others j hjl hjn;have hal':alI (za1 P oj)=true:=by rw[zem hoj]at hal; exact hal
     have hmk:Region.wanted oj (yielded ops a.tmps)=true->∃ mk arr T,zgm P oj a mk arr T:=λhw=>by
      rcases hst.sure j hjl hjn with h1 | ⟨k,h1,h2⟩
      .exact ztN hF.env oj (by rw[zem hoj]at h1; exact h1)
      have htk:((n :: pl'.1)++ pl'.2).take ((n :: pl'.1).take k).length=(n :: pl'.1).take k:=by
       rw[qcK (by rw[qbW]; exact qcL _ _),qbW];rcases Nat.le_total k (n :: pl'.1).length with h | h
       .rw[qcm h]
       rw[Nat.min_eq_right h,qbX,qaM h]
      exact znb hoj hsj hal' ((n :: pl'.1)++ pl'.2) ((n :: pl'.1).take k).length S ι a hF.env hF.sim.scope (by rw[htk]; exact h1) (by rw[htk]; exact λi hi=>(h2 i hi).1) (by rw[htk]; exact λi hi=>(h2 i hi).2) h0 hw
     have hlenY:∀ p:Nat×Option Nat×Value,g'+(p :: Y).length=g'+1+Y.length:=λp=>by simp; omega
     suffices hs:wpOpIn (FW rb) 0 P ops (zfT P N B w1 ι ex S') j (λa1 w'=>Carry ops Pr j w w'/\zd5 rb P ops (zfT P N B w1 ι ex S') Pr g' ((zh7 Y M).setIfInBounds j true) (zew ops Y a1) w') a w by
      refine wpOpIn_mono ?_ (out hs);rintro a' w' ⟨a1,rfl,h1,h2⟩;exact⟨h1,h2⟩
     refine zmR hoj hal' hmk (λmk arr T hw hm=>⟨zpB _ _ _ _,?_⟩) λhw=>⟨zml _ _ _ _,?_⟩
     .have ih:=zch hr hsel hnd hex g' ((j,some w.heap.size,mk w.heap.size):: Y) M (n :: pl'.1,pl'.2) S ι a (zbI w (.cells arr T (0,0))) hcl (by rw[hlenY]; exact hp0) ⟨hF.sim.grown (zc0 w _ none),hF.env,hF.dfs⟩ hrd (λp hp=>?_) ?_ Pr hP h0
      .simp only[zh7,zew,zhC hoj]at ih;rw[<- zgM Y a hap];exact ih
      .rcases qav.1 hp with rfl | hp
       .exact⟨hjl,hal,λoy hoy=>Region.free_spec hoy hfree,oj,hoj,.inl ⟨hw,w.heap.size,mk,arr,T,rfl,hm,rfl,zdt w _,hF.sim.below.size,λβ o b' s sz q1 q2 _ q4=>by have:=hF.sim.lt q1 q2 q4; omega⟩⟩
       have hq:=hY p hp;obtain⟨oy,hoy,hm'⟩:=hq.made;refine⟨hq.ready,hq.al,hq.free,oy,hoy,?_⟩;rcases hm' with⟨h1,b,mk2,arr2,T2,h2,h3,h4,h5,h6,h7⟩| h1
       .exact .inl ⟨h1,b,mk2,arr2,T2,h2,h3,h4,old h5,h6,h7⟩
       exact .inr h1
      refine qa4.2 ⟨λq hq=>⟨λh=>hjY (qaH.2 ⟨q,hq,h.symm⟩),λb hb hqb=>?_⟩,hpw⟩;cases hb;obtain⟨oy,hoy,hm'⟩:=(hY q hq).made;rcases hm' with⟨h1,b,mk2,arr2,T2,h2,h3,h4,h5,h6,h7⟩| ⟨_,h1,_⟩
      .rw[h2]at hqb;cases hqb;have:=(qbg.1 h5).1;omega
      rw[h1]at hqb; cases hqb
     have ih:=zch hr hsel hnd hex g' ((j,none,undef):: Y) M (n :: pl'.1,pl'.2) S ι a w hcl (by rw[hlenY]; exact hp0) hF hrd (λp hp=>?_) ?_ Pr hP h0
     .simp only[zh7,zew,zhC hoj]at ih;rw[<- zgM Y a hap];exact ih
     .rcases qav.1 hp with rfl | hp
      .exact⟨hjl,hal,λoy hoy=>Region.free_spec hoy hfree,oj,hoj,.inr ⟨hw,rfl,rfl⟩⟩
      exact hY p hp
     exact qa4.2 ⟨λq hq=>⟨λh=>hjY (qaH.2 ⟨q,hq,h.symm⟩),λb hb=>by cases hb⟩,hpw⟩
   split at hp
   .rename_i hr0;cases hp;have hY0:Y=[]:=by
     cases Y with
     | nil=>rfl
     | cons p Y=>have:=hYr p (by simp); rw[hr0]at this; cases this
    subst hY0;simp only[qaP,qdl,zbg,qae,qan]at h;obtain⟨rfl,rfl⟩:=h;obtain rfl:g=f+1:=by simpa using hfy
    exact⟨λ_=>⟨ι,Io.le.refl _,rfl,hF⟩,by show ∀ i∈Region.ready .any ops M,_; rw[hr0]; simp⟩
   .rename_i i hr0;cases hext:zgr bar (zdl P ops i)with
    | false=>
     have hY0:Y=[]:=by
      cases Y with
      | nil=>rfl
      | cons p Y=>
       have h1:=hYr p (by simp);rw[hr0]at h1;simp at h1;have h2:=zwU (bar:=bar) (hY p (by simp)).al;rw[h1,hext]at h2;cases h2
     subst hY0;obtain rfl:g=f+1:=by simpa using hfy
     cases hwr:wrI (zdl P ops i)with
     | false=>
      simp only[hext,hwr,Bool.or_self,qdu,qal]at hp;obtain⟨l',hp',rfl⟩:=hp;exact zhD hr hsel hnd hex (f+1) M l' S ι a w hcl hp' hF hrd hP (by simpa using h)
     | true=>
      simp only[hext,hwr,qdm,qdt,qal]at hp;obtain⟨pl',hp',rfl⟩:=hp;refine⟨λh0=>(by have h1:Region.ready .any ops M=[]:=h0; rw[hr0]at h1; cases h1),λj hj=>?_⟩;have hjm:j∈Region.ready .any ops M:=hj;have hji:j=i:=by
       have:=hjm;rw[hr0]at this;simpa using this
      subst hji;obtain⟨_,o,ho,_⟩:=mem_ready.1 hjm;simp only[qbc]at h;obtain⟨h,havo⟩:=zfn ho h;refine znN hr hF hrd ho h λS1 ι1 a1 wx hle hF1 hk hbel _ hbut hsk ha1=>⟨znH hF hcl ho hjm hP hbel hbut hsk havo,zdT (λen a w hp=>hp.mono hle) f _ _ _ (zch hr hsel hnd hex f [] _ pl' S1 ι1 a1 wx (zcu hcl hjm) hp' hF1 (hrd.mono hle) (by simp) .nil Pr (λp hp=>?_) hk)⟩
      obtain⟨u,ds,rfl⟩:=ha1;exact(hP p hp).step ho hjm
    | true=>
     simp only[hext,Bool.true_or,qdt,qal]at hp;obtain⟨pl',hp',rfl⟩:=hp;exact stage i pl' (zv5 hr0 hext) hp' rfl
   rename_i i j l hr0;cases hok:okN bar P ops M (i :: j :: l) (znO bar P ops M (i :: j :: l))with
   | false=>simp only[hok,qdu]at hp; cases hp
   | true=>
    simp only[hok,qdt]at hp;split at hp
    .rename_i pl' hp';cases hok2:okF P ops (i :: j :: l) (znO bar P ops M (i :: j :: l)) pl'.1 with
     | false=>simp only[hok2,qdu]at hp; cases hp
     | true=>
      simp only[hok2,qdt,qae]at hp;exact stage _ pl' (zqJ (by rw[hr0]; exact hok) (by rw[hr0]; exact hok2)) hp' hp.symm
    cases hp
termination_by g Y=>(g,Y.length)
decreasing_by
 all_goals first
  | exact Prod.Lex.left _ _ (qbo _)
  |(subst_vars; exact Prod.Lex.left _ _ (qbo _))
  |(subst_vars; apply Prod.Lex.right; simp<;>omega)
  |(subst_vars; apply Prod.Lex.right; simp; done)
theorem FSim.drew(hF:FSim P N B w1 ι S a w):FSim P N B w1 ι S a { w with drawn:=w.drawn+1 }:=⟨hF.sim.grown (zi5 w none),hF.env,hF.dfs⟩
theorem zqw(hm:P.follows .mixedOrders=true)(hr:RecOk P r)(hF:FSim P N B w1 ι S a w)(hrd:zhl ι rd rb){id:Nat}{pl:List Nat×List Nat}(hp:zDA bar P ops=some pl)
  (h:zbg r B bar rd.isNone false ((pl.1 ++ pl.2).flatMap (zoa P N ops)) S=some (ex,S')):(Code.region id ops true).wpIn (FW rb) 0 P (zfT P N B w1 ι ex S') a w:=by
 unfold zDA at hp;split at hp
 .rename_i hc;simp only[qai]at hc;refine wpIn_region_any hm (zlZ (Pr:=[]) _ _ _ _ (zch hr hc.1.1 hc.1.2 (zs0 _ _ _ _ h) ops.size [] _ pl S ι a _ ?_ (by simpa using hp) hF.drew hrd (by simp) .nil [] (by simp) h));intro j oj hj hl;rcases qa0 j ops.size with h1 | h1<;>simp_all
 cases hp
end
end Go.Mx
