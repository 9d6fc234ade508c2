/-
 Operations that make memory or write it: the machine's memory stands for the world's. Conditions: none.
-/
import Derived.Test.YtbjogdohfhdaiaaGreatErJ16
set_option linter.unusedSimpArgs false
set_option linter.unusedVariables false
namespace Go.Mx
open Go Go.RowKit
section
variable {P:Program} {B N:Nat} {w1 w:World} {ι:Io} {h:zam} {env:List V} {a:Act}
def zzy(env:List V)(i:I):Option Nat:=((zty i).bind (ev env)).bind zum
def zvg(B:Nat)(h:zam)(ι:Io)(w w':World)(t:Option Nat):Prop:=∃ ob:Option Nat,(∀ γ,γ<w.heap.size->some γ≠ob->w'.heap[γ]? = w.heap[γ]?)/\∀ b,ob=some b->∃ β s sz o,t=some β/\ι β=some (b,s,sz)/\h[β]? = some o/\o.live/\B<=β
theorem zvg.zbX{w w':World}{t:Option Nat}(hb:Below w.heap.size w w'):zvg B h ι w w' t:=⟨none,λγ hγ _=>hb.block γ hγ,λb hb=>by cases hb⟩
variable{b:Nat}
theorem zvg.zld{w w':World}{t:Option Nat}{β s sz:Nat}{cs:List V}(hk:∀ γ,γ≠b->w'.heap[γ]? = w.heap[γ]?)(ht:t=some β)(hι:ι β=some (b,s,sz))(hcs:zax h β=some cs)(hB:B<=β):zvg B h ι w w' t:=
 ⟨some b,λγ _ hne=>hk γ (λh=>hne (by rw[h])),λb' hb=>by cases hb; exact⟨β,s,sz,_,ht,hι,zdF hcs,qds,hB⟩⟩
def EOk(P:Program)(B:Nat)(w1:World)(ι:Io)(a:Act)(w:World)(o:Oper)(v:V)(h':zam)(ext:Bool)(h:zam)(t:Option Nat):Prop:=
 ∃ u w' ι',((execOp a.eval o).run P w=.ok (.value u) w'\/((execOp a.eval o).run P w=.ok .skip w'/\u=undef))/\Io.le ι ι'/\Sim P B w1 ι' h' w'/\VRel ι' v u/\(ext=true->Below w.heap.size w w')/\zvg B h ι w w' t
theorem zoc{o:Obj}(hb:w.heap[b]? = some o):zhH w b o=w:=by
 unfold zhH;have:w.heap.setIfInBounds b o=w.heap:=by
  grind
 rw[this]
theorem zlI{off:Nat}{arr:Array Value}{T:TypeId}(hb:w.heap[b]? = some (.cells arr T (0,0)))(v:Value):w.setCell ⟨b,off,none⟩ v=zhH w b (.cells (arr.setIfInBounds off v) T (0,0)):=by
 unfold World.setCell zhH;congr 1
 grind
theorem zkT(b:Nat)(o o':Obj):zhH (zhH w b o) b o'=zhH w b o':=by
 simp_all [zhH]
theorem zfs{b off:Nat}{T:TypeId}:∀(vs:List Value) (i:Nat) (arr:Array Value) (w:World),w.heap[b]? = some (.cells arr T (0,0))->(∀ v∈vs,v.oneCell'=true)->off+i+vs.length<=arr.size ->
  (storeCells ⟨b,off,none⟩ vs i).run P w=.ok () (zhH w b (.cells ((vs.zipIdx i).foldl (λcs x=>cs.setIfInBounds (off+x.2) x.1) arr) T (0,0)))
 | [],i,arr,w,hb,_,_=>by
  simp_all [storeCells,zoc]
 | v :: vs,i,arr,w,hb,h1,hl=>by
  simp only[qaB]at hl;have hlt:off+i<arr.size:=by omega
  have hc:w.cell? ⟨b,off+i,none⟩=some arr[off+i]:=zer hb (qbd hlt);have hf:w.frozen? ⟨b,off+i,none⟩=false:=by simp[World.frozen?,hb]
  simp only[storeCells,Sem.run_bind,zeu,run_store P w _ v _ (h1 v qaj),hc,hf,qbv,if_false,Result.andThen_ok,zlI hb];have h':(zhH w b (.cells (arr.setIfInBounds (off+i) v) T (0,0))).heap[b]? = some (.cells (arr.setIfInBounds (off+i) v) T (0,0)):=zee _ (zbr hb);rw[zfs vs (i+1) _ _ h' (λu hu=>h1 u (qah _ hu)) (by simp; omega),zkT];simp[List.zipIdx_cons]
def zpt(arr:Array Value)(off:Nat)(vs:List Value):Array Value:=(vs.zipIdx 0).foldl (λcs x=>cs.setIfInBounds (off+x.2) x.1) arr
theorem zlN(arr:Array Value)(off:Nat)(vs:List Value)(h:off+vs.length<=arr.size):(zpt arr off vs).size=arr.size /\
  ∀ i,(zpt arr off vs)[i]? = if off<=i/\i<off+vs.length then vs[i - off]? else arr[i]?:=by
 simp_all [zkf,zpt]
theorem zfj.zx1{l:List V}{arr:Array Value}(hL:zfj ι l arr):∀ v∈arr.toList,v.oneCell'=true:=by
 intro v hv;obtain⟨i,hi,rfl⟩:=List.getElem_of_mem hv;have hi':i<l.length:=by rw[<- hL.1]; simpa using hi
 have hi2:i<arr.size:=by simpa using hi
 exact(hL.2 i l[i] _ (qac hi') (qbd hi2)).2
theorem Sim.ziA(hS:Sim P B w1 ι h w){β o:Nat}{cs l:List V}{narr:Array Value}(hβ:zax h β=some cs)(hB:B<=β)(hL:zfj ι l narr)(hle:o+l.length<=cs.length){s sz:Nat}(hι:ι β=some (b,s,sz)):
  ∃ w',(storeCells ⟨b,s+o,none⟩ narr.toList 0).run P w=.ok () w'/\Sim P B w1 ι (h.set β (.blk (zbT cs o l))) w'/\∀ γ,γ≠b->w'.heap[γ]? = w.heap[γ]?:=by
 obtain⟨b',s',sz',arr,T,fr,k1,k2,k3,k4,k5,k6⟩:=hS.cells hβ;rw[hι]at k1; cases k1;have hfr:=k6 hB;subst hfr;have hsz:narr.toList.length=l.length:=by simpa using hL.1
 have hrun:=zfs (P:=P) (b:=b) (off:=s+o) (T:=T) narr.toList 0 arr w k2 hL.zx1 (by omega);refine⟨_,hrun,?_,λγ hγ=>by unfold zhH; exact qbK (Ne.symm hγ)⟩;obtain⟨p1,p2⟩:=zlN arr (s+o) narr.toList (by omega);obtain⟨q1,q2⟩:=zgU cs l o hle;have hb:=zdF hβ;refine hS.change (o':=.blk _) hb trivial hB hι (zcs _ _ _) ⟨b,s,sz,_,T,(0,0),hι,zee _ (zbr k2),p1.trans k3,by rw[q1]; exact k4,λk v hk=>?_,λ_=>rfl⟩<;> grind [zpt,zfj.get]
variable{o:Oper}{t:TypeId}{z:List Value}{v:V}{h':zam}{t0:Option Nat}
theorem zBI(hS:Sim P B w1 ι h w)(ho:o.op=.alloc t)(hz:zgY P t=some z)(hone:z.all zhm=true){x:Bool}(he:eff B h env (.alloc z)=some (v,h')):EOk P B w1 ι a w o v h' x h t0:=by
 simp only[eff,qae,qan]at he;obtain⟨rfl,rfl⟩:=he;obtain⟨zv,hzv,rfl⟩:=zdu hz;have hL:zfj ι (zv.cells.toList.map .lit) zv.cells:=by simpa using zjQ (ι:=ι) _ hone
 have hrun:(execOp a.eval o).run P w=.ok (.value (.pointer (some ⟨w.heap.size,0,none⟩))) (zbI w (.cells zv.cells t (0,0))):=by
  simp only[execOp,ho,Instr.alloc,Sem.run_bind,zbz hzv,Result.andThen_ok,newVar,newRow,run_newObj,Sem.run_pure];rfl
 exact⟨_,_,_,.inl hrun,hS.zdQ _,hS.zjO hL,.ptr _ _ w.heap.size 0 zv.cells.size (Io.zbf _ _ _),λ_=>zbb _ _,.zbX (zbb _ _)⟩
variable{y:Operand}
theorem zHB(hS:Sim P B w1 ι h w)(hE:zcq ι N env a)(ho:o.op=.box t y){x:Bool}(he:eff B h env (.box (opX y))=some (v,h')):EOk P B w1 ι a w o v h' x h t0:=by
 simp only[eff]at he;split at he
 .rename_i l hl;simp only[qae,qan]at he;obtain⟨rfl,rfl⟩:=he;obtain⟨v1,h1,h2⟩:=qaY.1 hl;have hL:=zfR (zae hE h1) h2;have hrun:(execOp a.eval o).run P w=.ok (.value (.pointer (some ⟨w.heap.size,0,none⟩))) (zbI w (.cells (a.eval y).cells t (0,0))):=by
   simp only[execOp,ho,Instr.box,Sem.run_bind,Result.andThen_ok,newVar,newRow,run_newObj,Sem.run_pure];rfl
  exact⟨_,_,_,.inl hrun,hS.zdQ _,hS.zjO hL,.ptr _ _ w.heap.size 0 (a.eval y).cells.size (Io.zbf _ _ _),λ_=>zbb _ _,.zbX (zbb _ _)⟩
 cases he
theorem zfW(z:List V):∀(n i:Nat),(zm7 n z).length=n * z.length/\(i<n * z.length->(zm7 n z)[i]? = z[i % z.length]?)
 | 0,i=>by simp[zm7]
 | n+1,i=>by
  obtain⟨h1,_⟩:=zfW z n i;have hr:zm7 (n+1) z=z ++ zm7 n z:=by simp[zm7,qaX]
  rw[hr];refine⟨by simp[h1,qcu]; omega,λhi=>?_⟩;rw[qch];split
  .grind [qbb]
  rename_i hge;have hz:0<z.length:=by
   grind
  have hlt:i - z.length<n * z.length:=by rw[qcu]at hi; omega
  rw[(zfW z n (i - z.length)).2 hlt];have:i=(i - z.length)+z.length:=by omega
  conv=>rhs; rw[this,Nat.add_mod_right]
theorem zir(hone:z.all zhm=true)(n:Nat)(zv:Array Value)(hz:zv.toList=z):zfj ι (zm7 n (z.map .lit)) ((Array.range (n * zv.size)).map (zv[· % zv.size]!)):=by
 have hlen:zv.size=z.length:=by rw[<- hz]; simp
 refine⟨by simp[(zfW (z.map .lit) n 0).1,hlen],λi x v hx hv=>?_⟩;have hi:i<n * z.length:=by
  grind
 rw[(zfW (z.map .lit) n i).2 (by simpa using hi)]at hx;simp only[qak,qa6,qal]at hx;obtain⟨u,hu,rfl⟩:=hx;have hm:i % zv.size<zv.size:=by rw[hlen]; exact(qab.1 hu).1
 have hvu:v=u:=by
  grind
 subst hvu;have hone':=qcs.1 hone v (qaC hu);exact⟨.lit _,by cases v<;>first | rfl | (simp[zhm]at hone')⟩
theorem zmB(n:Nat):∀(parts:List (Nat×X)) (cs:List V),zli env n cs parts=zgN env cs (parts.map λix=>(ix.1 * n,n,ix.2))
 | [],cs=>rfl
 |(i,x):: r,cs=>by
  simp only[zli,qaL,zgN];split
  .rw[zmB n r]
  rfl
theorem zl3(f:Nat->Value):(Array.range 0).map f = #[]:=by
 simp_all
theorem zGL(hS:Sim P B w1 ι h w)(hE:zcq ι N env a){el:TypeId}{len:Nat}{parts:Array (Nat×Operand)}(ho:o.op=.buildSlice t len parts)(hs:P.underlying t=some (.slice el))(ht:zdM P el=true)(hn:0<P.cellsOf el)(hbig:len * P.cellsOf el<=16777216)(hz:zgY P el=some z)(hone:z.all zhm=true)(hzl:z.length=P.cellsOf el){x:Bool}(he:eff B h env (.bsl (P.cellsOf el) len z (parts.toList.map λix=>(ix.1,opX ix.2)))=some (v,h')):EOk P B w1 ι a w o v h' x h t0:=by
 simp only[eff]at he;split at he
 .rename_i cs hf;simp only[qae,qan]at he;obtain⟨rfl,rfl⟩:=he;obtain⟨zv,hzv,hzc⟩:=zdu hz;simp only[zdM,qai]at ht;have hzs:zv.cells.size=P.cellsOf el:=by rw[<- hzl,<- hzc]; simp
  rw[zmB,qc3]at hf;obtain⟨arr',h1,h2⟩:=zdI hE (place:=λi=>some (i * P.cellsOf el,P.cellsOf el)) (off:=λi=>i * P.cellsOf el) (size:=λ_=>P.cellsOf el)
   parts.toList _ cs ((Array.range (len * zv.cells.size)).map (zv.cells[· % zv.cells.size]!)) (λix _=>rfl) (zir hone len zv.cells hzc) hf
  have hsz:arr'.size=len * P.cellsOf el:=by
   have:∀(ps:List (Nat×Nat×X)) (cs cs':List V),zgN env cs ps=some cs'->cs'.length=cs.length:=by
    intro ps;induction ps with
    | nil=>grind [zgN]
    | cons y ys ih=>
     intro cs cs' hh;obtain⟨y1,y2,y3⟩:=y;simp only[zgN]at hh;split at hh
     .rename_i l _;cases hb:(l.length == y2) && Nat.ble (y1+y2) cs.length with
      | false=>simp only[hb,qdu]at hh; cases hh
      | true=>
       simp only[hb,qdt]at hh;simp only[qai,qdz]at hb;rw[ih _ _ hh,(zgU cs l y1 (by have:=qad hb.2; omega)).1]
     cases hh
   rw[h2.1,this _ _ _ hf,(zfW _ _ 0).1];simp[hzl]
  have hp2:(parts.map λix=>(ix.1,a.eval ix.2)).toList=parts.toList.map λix=>(ix.1,a.eval ix.2):=by simp
  have hrun:(execOp a.eval o).run P w=.ok (.value (.slice (some ⟨w.heap.size,0,none⟩) len len)) (zbI w (.cells arr' el (0,0))):=by
   have h1':Instr.fill (λi=>some (i * P.cellsOf el,P.cellsOf el)) ((Array.range (len * P.cellsOf el)).map (zv.cells[· % zv.cells.size]!)) (parts.map λix=>(ix.1,a.eval ix.2)).toList=some arr':=by
    simp_all
   have hbig':¬ (len * P.cellsOf el > 2 ^ 24):=by omega
   simp only[execOp,ho,Instr.buildSlice,Sem.run_bind,zag hs,zaY ht.1,Result.andThen_ok,hbig',if_false];by_cases h0:len * P.cellsOf el=0
   .have hfill0:Instr.fill (λi=>some (i * P.cellsOf el,P.cellsOf el)) ((Array.range (len * P.cellsOf el)).map ((#[]:Array Value)[· % (#[]:Array Value).size]!)) (parts.map λix=>(ix.1,a.eval ix.2)).toList=some arr':=by
     grind
    rw[if_pos h0];simp only[Sem.run_pure,Result.andThen_ok,hfill0,newRow,Sem.run_bind,run_newObj];rfl
   rw[if_neg h0];simp only[Sem.run_bind,zbz hzv,Sem.run_pure,Result.andThen_ok,h1',newRow,run_newObj];rfl
  refine⟨_,_,_,.inl hrun,hS.zdQ _,hS.zjO h2,?_,λ_=>zbb _ _,.zbX (zbb _ _)⟩
  have:=VRel.sl (ι:=ι.ext h.length (w.heap.size,0,arr'.size)) h.length 0 (P.cellsOf el) len (some len) w.heap.size 0 arr'.size len (Io.zbf _ _ _) (by rw[hsz]; omega) (qap _) (by
   have:=qaI len hn
   omega) hn (by simp) (by simp)
  simpa using this
 cases he
theorem zBA(hS:Sim P B w1 ι h w)(hE:zcq ι N env a){x:Operand}(ho:o.op=.store t x y)(ht:zdM P t=true)(he:eff B h env (.store (P.cellsOf t) (opX x) (opX y))=some (v,h')):EOk P B w1 ι a w o v h' false h (((ev env (opX x))).bind zum):=by
 simp only[zdM,qai]at ht;simp only[eff]at he;split at he
 .rename_i β off l hx1 hl;split at he
  .rename_i cs hcs;cases hb:Nat.ble B β && (l.length == P.cellsOf t) && Nat.ble (off+P.cellsOf t) cs.length with
   | false=>simp_all
   | true=>
    simp only[hb,qdt,qae,qan]at he;obtain⟨rfl,rfl⟩:=he;simp only[qai,qdz]at hb;obtain⟨⟨hB,hln⟩,hle⟩:=hb;have hB:=qad hB;have hle:=qad hle;obtain⟨v1,h1,h2⟩:=qaY.1 hl;have hL:=zfR (zae hE h1) h2;have hx:=zae hE hx1;generalize hu0:a.eval x=u0 at hx;cases hx with
    | ptr _ _ b s sz hι=>
     obtain⟨w',r1,r2,r3⟩:=hS.ziA hcs hB hL (o:=off) (by omega) hι;refine⟨undef,w',ι,.inr ⟨?_,rfl⟩,Io.le.refl _,r2,.lit _,by simp,.zld r3 (by rw[hx1]; rfl) hι hcs hB⟩;have hsize:(a.eval y).cells.size=P.cellsOf t:=by rw[hL.1,hln]
     simp_all [execOp,Instr.storeAt,Instr.sureAddr,storeVar,zaY]
  cases he
 cases he
theorem zIK(hS:Sim P B w1 ι h w)(hE:zcq ι N env a){el:TypeId}{x:Operand}(ho:o.op=.makeSlice t x y)(hs:P.underlying t=some (.slice el))(ht:zdM P el=true)(hn:0<P.cellsOf el)(hby:0<P.bytesOf el)(hz:zgY P el=some z)(hone:z.all zhm=true)(hzl:z.length=P.cellsOf el){e:Bool}(he:eff B h env (.mk (P.cellsOf el) (P.bytesOf el) z (opX x) (opX y))=some (v,h')):EOk P B w1 ι a w o v h' e h t0:=by
 simp only[eff]at he;split at he
 .rename_i l c hl hc;cases hb:decide (0<=l) && decide (l<=c) && decide (c * (P.bytesOf el:Int)<=zah)with
  | false=>simp_all
  | true=>
   simp only[hb,qdt,qae,qan]at he;obtain⟨rfl,rfl⟩:=he;simp only[qai,decide_eq_true_eq]at hb;obtain⟨⟨h0,hlc⟩,hmax⟩:=hb;obtain⟨kl,hxl⟩:=zdq hE hl;obtain⟨kc,hyc⟩:=zdq hE hc;obtain⟨zv,hzv,hzc⟩:=zdu hz;simp only[zdM,qai]at ht;obtain⟨ti,hti⟩:=qa5.1 ht.1;have hbt:P.bytesOf el=ti.bytes:=by simp[Program.bytesOf,hti]
   have hzs:zv.cells.size=P.cellsOf el:=by rw[<- hzl,<- hzc]; simp
   rw[hbt]at hmax hby
   have hmb:(zah:Int)=140737488355328:=rfl;have hcb:c<=140737488355328:=by
    have:c * 1<=c * (ti.bytes:Int):=Int.mul_le_mul_of_nonneg_left (by omega) (by omega);omega
   have hwl:IntKind.i64.wrap l=l:=by simp[IntKind.wrap,IntKind.signed,IntKind.bits]; omega
   have hwc:IntKind.i64.wrap c=c:=by simp[IntKind.wrap,IntKind.signed,IntKind.bits]; omega
   have hL:=zir (ι:=ι) hone c.toNat zv.cells hzc;have hcom:(ti.bytes:Int)* c=c * ti.bytes:=Int.mul_comm _ _;have e1:¬ (c<0):=by omega
   have e2:¬ (281474976710656<(ti.bytes:Int)* c):=by omega
   have e3:¬ (l<0):=by omega
   have e4:¬ (c<l):=by omega
   have hroom:¬ (roomBytes<c.toNat * ti.bytes):=by
    grind [roomBytes]
   have hrun:(execOp a.eval o).run P w=.ok (.value (.slice (some ⟨w.heap.size,0,none⟩) l.toNat c.toNat)) (zbI w (.cells ((Array.range (c.toNat * zv.cells.size)).map (zv.cells[· % zv.cells.size]!)) el (0,0))):=by
    simp only[execOp,ho,Instr.makeSlice,Sem.run_bind,zag hs,Result.andThen_ok,asInt,asIntOf,hxl,hyc,Sem.run_pure,zf3 hti,hwl,hwc];simp only[qbt,decide_eq_true_eq,gt_iff_lt,show(2:Int) ^ 48=281474976710656 from rfl,e1,e2,e3,e4,or_self,if_false,askRoom,hroom,Sem.run_bind,Sem.run_pure,Result.andThen_ok,zaY ht.1];by_cases hz0:c.toNat * P.cellsOf el=0
    .rw[if_pos hz0];have hc0:c.toNat=0:=by
      rcases Nat.mul_eq_zero.1 hz0 with h1 | h1
      .exact h1
      omega
     simp only[Sem.run_pure,Result.andThen_ok,newRow,Sem.run_bind,run_newObj,hc0,qci,zl3];rfl
    rw[if_neg hz0];simp only[Sem.run_bind,zbz hzv,Sem.run_pure,Result.andThen_ok,newRow,run_newObj,hzs];rfl
   refine⟨_,_,_,.inl hrun,hS.zdQ _,hS.zjO hL,?_,λ_=>zbb _ _,.zbX (zbb _ _)⟩;have hsz:((Array.range (c.toNat * zv.cells.size)).map (zv.cells[· % zv.cells.size]!)).size=c.toNat * P.cellsOf el:=by simp[hzs]
   have:=VRel.sl (ι:=ι.ext h.length (w.heap.size,0,((Array.range (c.toNat * zv.cells.size)).map (zv.cells[· % zv.cells.size]!)).size)) h.length 0 (P.cellsOf el) l.toNat (some c.toNat) w.heap.size 0 _ c.toNat (Io.zbf _ _ _) (by rw[hsz]; omega) (by omega) (by omega) hn (by simp) (by simp);simpa using this
 cases he
end
section
variable {P:Program} {B N:Nat} {w1 w:World} {ι:Io} {h:zam} {env:List V} {a:Act}
variable{o:Oper}{c:Call}{t t' el el':TypeId}{y:Operand}{base ad:Option Addr}{n:Nat}{us:List Value}
theorem zcW{x:Operand}(ho:o.op=.call c)(hc:c.callee=.builtin .append)(h1:c.argTypes.toList=[t,t'])(h2:c.args.toList=[x,y])(ht:P.underlying t=some (.slice el))(ht':P.underlying t'=some (.slice el'))(hty:zdM P el=true){zv:Value}(hz:(P.info? el).bind (·.zero)=some zv)(hzc:P.cellsOf el=zv.cells.size)(hbytes:0<P.bytesOf el){sLen sCap xc:Nat}{os:List Value}(hx:a.eval x=.slice base sLen sCap)(hy:a.eval y=.slice ad n xc)(hg:sCap<sLen+n)(hfit:(sLen+n)* P.bytesOf el<=140737488355328)(hos:∀ w',Below w.heap.size w w'->(Builtin.firstCells (P.cellsOf el) sLen (.slice base sLen sCap)).run P w'=.ok os.toArray w')(hus:∀ w',Below w.heap.size w w'->(Builtin.firstCells (P.cellsOf el) n (.slice ad n xc)).run P w'=.ok us.toArray w'):
  ∃ newCap zs,(execOp a.eval o).run P w=.ok (.value (.slice (some ⟨w.heap.size,0,none⟩) (sLen+n) newCap)) (zbI { w with drawn:=w.drawn+1 } (.cells (os.toArray ++ us.toArray ++ zs) el (0,0)))/\
   sLen+n<=newCap/\newCap<2 ^ 63/\zs.size=(newCap - (sLen+n))* P.cellsOf el:=by
 have h1':c.argTypes = #[t,t']:=by rw[<- qbr (xs:=c.argTypes),h1]
 have h2':c.args = #[x,y]:=by rw[<- qbr (xs:=c.args),h2]
 simp only[zdM,qai]at hty;obtain⟨ti,hti⟩:=qa5.1 hty.1;have hbt:P.bytesOf el=ti.bytes:=by simp[Program.bytesOf,hti]
 rw[hbt]at hbytes hfit;have hn:¬ (sLen+n<=sCap):=by omega
 have hfits:=growslice_fits hg hfit;have h48:¬ (281474976710656<Builtin.nextslicecap (sLen+n) sCap * ti.bytes):=by omega
 have hneed:sLen+n<=140737488355328:=qaq (qaI _ hbytes) hfit;have hb0:¬ (ti.bytes=0):=by omega
 have hbel:Below w.heap.size w { w with drawn:=w.drawn+1 }:=⟨rfl,rfl,rfl,qap _,λ_ _=>rfl⟩;have e1:(Builtin.firstCells (P.cellsOf el) sLen (.slice base sLen sCap)).run P w.drew=.ok os.toArray w.drew:=hos _ hbel;have e2:(Builtin.firstCells (P.cellsOf el) n (.slice ad n xc)).run P w.drew=.ok us.toArray w.drew:=hus _ hbel;refine⟨(Question.appendCap (sLen+n) sCap el).cut (w.tape w.drawn (.appendCap (sLen+n) sCap el)),Builtin.zeroCells zv.cells ((Question.appendCap (sLen+n) sCap el).cut (w.tape w.drawn (.appendCap (sLen+n) sCap el)) - (sLen+n)),?_,?_,?_,?_⟩
 .rw[zbM ho hc];simp[builtin,Builtin.append_,h1',h2',hx,hy,zag ht,zag ht',zaY hty.1,Builtin.lenOf,hn,zf3 hti,hb0,h48,Question.forced,e1,e2,zbz hz,newRow];rw[<- List.append_toArray,Array.append_assoc];rfl
 .simp[Question.cut]
 .simp only[Question.cut];have:w.tape w.drawn (.appendCap (sLen+n) sCap el) % (2 ^ 63 - (sLen+n))<2 ^ 63 - (sLen+n):=qa7 _ (by omega);omega
 simp[Builtin.zeroCells,hzc]
theorem run_append_room{x:Operand}(ho:o.op=.call c)(hc:c.callee=.builtin .append)(h1:c.argTypes.toList=[t,t'])(h2:c.args.toList=[x,y])(ht:P.underlying t=some (.slice el))(ht':P.underlying t'=some (.slice el'))(hty:zdM P el=true){sLen sCap xc:Nat}(hx:a.eval x=.slice base sLen sCap)(hy:a.eval y=.slice ad n xc)(hg:sLen+n<=sCap)(hus:(Builtin.firstCells (P.cellsOf el) n (.slice ad n xc)).run P w=.ok us.toArray w){w':World}(hst:∀ b,base=some b->(storeCells (b.add (sLen * P.cellsOf el)) us 0).run P w=.ok () w')(hno:base=none->w'=w):
  (execOp a.eval o).run P w=.ok (.value (.slice base (sLen+n) sCap)) w':=by
 have h1':c.argTypes = #[t,t']:=by rw[<- qbr (xs:=c.argTypes),h1]
 have h2':c.args = #[x,y]:=by rw[<- qbr (xs:=c.args),h2]
 simp only[zdM,qai]at hty;rw[zbM ho hc];cases base with
 | none=>
  rw[hno rfl];simp[builtin,Builtin.append_,h1',h2',hx,hy,zag ht,zag ht',zaY hty.1,Builtin.lenOf,hg,hus]
 | some b=>
  simp[builtin,Builtin.append_,h1',h2',hx,hy,zag ht,zag ht',zaY hty.1,Builtin.lenOf,hg,hus,hst b rfl]
theorem zb4(size:Nat)(ad:Option Addr)(len cap:Nat)(w':World):(Builtin.firstCells size 0 (.slice ad len cap)).run P w'=.ok #[] w':=by
 cases ad with
 | none=>simp[Builtin.firstCells]
 | some b=>simp[Builtin.firstCells,loadCells,loadCellsFrom]
variable{l:List V}
theorem Sim.zmJ(hS:Sim P B w1 ι h w){β o m:Nat}{cs:List V}(hβ:zax h β=some cs)(hl:slot o m cs=some l){b s sz:Nat}(hι:ι β=some (b,s,sz)):
  ∃ us:List Value,us.length=m/\zfj ι l us.toArray/\∀ j,j<=m->∀ w',Below w.heap.size w w'->(loadCells ⟨b,s+o,none⟩ j).run P w'=.ok (us.take j).toArray w':=by
 obtain⟨h1,h2,h3⟩:=znD hl;obtain⟨b',s',sz',arr,T,fr,k1,k2,k3,k4,k5,k6⟩:=hS.cells hβ;rw[hι]at k1; cases k1;have hget:∀(k:Nat) x,l[k]? = some x->∃ u,(arr.toList.drop (s+o)|>.take m)[k]? = some u/\VRel ι x u/\u.oneCell'=true:=by
  grind
 have hlen:(arr.toList.drop (s+o)|>.take m).length=m:=by simp; omega
 refine⟨(arr.toList.drop (s+o)|>.take m),hlen,⟨by simpa [h2]using hlen,λk x u hx hu=>?_⟩,λj hj w' hw'=>?_⟩
 .grind
 have:=run_loadCells_list (P:=P) (w:=w') ⟨b,s+o,none⟩ ((arr.toList.drop (s+o)|>.take m).take j) (λk v hk=>by
  have hkj:k<j:=by
   grind
  rw[qbm,if_pos hkj,qbm,if_pos (by omega),qbp]at hk;rw[zeu]
  exact zer ((hw'.block _ (zbr k2)).trans k2) (by simpa using hk))
 simp_all
variable{v:V}
theorem zfJ(hS:Sim P B w1 ι h w){k:Nat}{u:Value}(hs:zgj h n v=some (k,l))(hv:VRel ι v u):
  ∃(ad:Option Addr) (xc:Nat) (us:List Value),u=.slice ad k xc/\us.length=k * n/\zfj ι l us.toArray/\∀ j,j<=k->∀ w',Below w.heap.size w w'->(Builtin.firstCells n j u).run P w'=.ok (us.take (j * n)).toArray w':=by
 have hnil:zfj ι [] #[]:=⟨rfl,by simp⟩;unfold zgj at hs;split at hs
 .simp only[qae,qan]at hs;obtain⟨rfl,rfl⟩:=hs
  grind [zb4,VRel.zc7]
 .rename_i β o n' len cap;cases hb:(n == n')with
  | false=>simp_all
  | true=>
   simp only[hb,qdt]at hs;have hn:n=n':=by simpa using hb
   subst hn;cases hl0:(len == 0)with
   | true=>
    simp only[hl0,qdt,qae,qan]at hs;obtain⟨rfl,rfl⟩:=hs;have hl0:len=0:=by simpa using hl0
    subst hl0;have key:∀ ad xc,u=.slice ad 0 xc->∃(ad:Option Addr) (xc:Nat) (us:List Value),u=.slice ad 0 xc/\us.length=0 * n/\zfj ι [] us.toArray/\∀ j,j<=0->∀ w',Below w.heap.size w w'->(Builtin.firstCells n j u).run P w'=.ok (us.take (j * n)).toArray w':=by
     intro ad xc hu
     exact⟨ad,xc,[],hu,by simp,hnil,λj hj w' _=>by
      have:j=0:=by omega
      subst this;rw[hu]
      simpa using zb4 n ad 0 xc w'⟩
    cases hv with
    | sl=>exact key _ _ rfl
    | sl0=>exact key _ _ rfl
   | false=>
    simp only[hl0,qdu,qal,qan]at hs;obtain⟨l',hsl,rfl,rfl⟩:=hs;obtain⟨cs,hcs,hsl⟩:=qaY.1 hsl;cases hv with
    | sl0=>simp at hl0
    | sl _ _ _ _ _ b s sz cap' hι k1 k2 k3 k4 k5 k6=>
     obtain⟨us,g1,g2,g3⟩:=hS.zmJ hcs hsl hι;refine⟨_,cap',us,rfl,g1,g2,λj hj w' hw'=>?_⟩;simp only[Builtin.firstCells];exact g3 (j * n) (qas n hj) w' hw'
 cases hs
theorem zfj.append{l':List V}{arr arr':Array Value}(h1:zfj ι l arr)(h2:zfj ι l' arr'):zfj ι (l ++ l') (arr ++ arr'):=by
 grind [Go.Mx.zfj]
theorem zi5(w:World)(b:Option Nat):w.grownBy { w with drawn:=w.drawn+1 } b:=⟨rfl,rfl,rfl,qap _,λ_ _ _=>rfl⟩
theorem zfS(w:World):Below w.heap.size w { w with drawn:=w.drawn+1 }:=⟨rfl,rfl,rfl,qap _,λ_ _=>rfl⟩
theorem Sim.zkt(hS:Sim P B w1 ι h w){len k newCap:Nat}{os us:List V}{vs ws:List Value}{zs:Array Value}{T:TypeId}(h1:zfj ι os vs.toArray)(h2:zfj ι us ws.toArray)(hl1:vs.length=len * n)(hl2:ws.length=k * n)(hn:0<n)(hc:len+k<=newCap)(hc2:newCap<2 ^ 63)(hz:zs.size=(newCap - (len+k))* n):
  ∃ ι',Io.le ι ι'/\Sim P B w1 ι' (h ++ [.blk (os ++ us)]) (zbI { w with drawn:=w.drawn+1 } (.cells (vs.toArray ++ ws.toArray ++ zs) T (0,0)))/\VRel ι' (.sl h.length 0 n (len+k) none) (.slice (some ⟨w.heap.size,0,none⟩) (len+k) newCap):=by
 have hS1:=hS.grown (zi5 w none);have hL:=h1.append h2;generalize harr:vs.toArray ++ ws.toArray ++ zs=arr;have hsz:arr.size=newCap * n:=by
  rw[<- harr];simp only[Array.size_append,List.size_toArray,hl1,hl2,hz];rw[<- qaQ,<- qaQ];congr 1; omega
 have hS2:=hS1.alloc (o:=.blk (os ++ us)) (s:=0) (sz:=arr.size) (.cells arr T (0,0)) ⟨w.heap.size,0,arr.size,arr,T,(0,0),Io.zbf _ _ _,zdt { w with drawn:=w.drawn+1 } _,rfl,by
  have:=hL.1;rw[<- harr];simp only[Array.size_append]at this ⊢;omega,λi v hi=>by
  obtain⟨u,g1,g2,g3⟩:=hL.get hi;refine⟨u,?_,g2.mono (hS1.zdQ _),g3⟩;rw[qaO,<- harr,qby (qbg.1 g1).1]
  exact g1,λ_=>rfl⟩
 refine⟨_,hS1.zdQ _,hS2,?_⟩;have:=VRel.sl (ι:=ι.ext h.length (w.heap.size,0,arr.size)) h.length 0 n (len+k) none w.heap.size 0 arr.size newCap (Io.zbf _ _ _) (by rw[hsz]; omega) hc hc2 hn (by simp) (by rw[hsz]; omega);simpa using this
theorem zlU{o:Nat}{cs:List V}(hle:o+n<=cs.length):slot o n cs=some ((cs.drop o).take n):=by
 grind [slot,qat]
theorem zvx(cs:List V)(o:Nat):zbT cs o []=cs:=by simp[zbT]
theorem Sim.extend(hS:Sim P B w1 ι h w){β o:Nat}{cs:List V}(hβ:zax h β=some cs)(hB:B<=β)(hL:zfj ι l us.toArray){b s sz:Nat}(hι:ι β=some (b,s,sz))(ho:o<=cs.length)(hroom:s+cs.length+l.length<=sz):
  ∃ w',(storeCells ⟨b,s+cs.length,none⟩ us 0).run P w=.ok () w'/\Sim P B w1 (ι.ext h.length (b,s+o,sz)) (h.set β .dead ++ [.blk (cs.drop o ++ l)]) w'/\∀ γ,γ≠b->w'.heap[γ]? = w.heap[γ]?:=by
 obtain⟨b',s',sz',arr,T,fr,k1,k2,k3,k4,k5,k6⟩:=hS.cells hβ;rw[hι]at k1; cases k1;have hfr:=k6 hB;subst hfr;have hll:us.length=l.length:=by simpa using hL.1
 have hones:∀ v∈us,v.oneCell'=true:=by simpa using hL.zx1
 have hrun:=zfs (P:=P) (b:=b) (off:=s+cs.length) (T:=T) us 0 arr w k2 hones (by omega);refine⟨_,hrun,?_,λγ hγ=>by unfold zhH; exact qbK (Ne.symm hγ)⟩;obtain⟨p1,p2⟩:=zlN arr (s+cs.length) us (by omega);have hb:=zdF hβ;have hK:=hS.kill β;have hlen:(h.set β .dead).length=h.length:=by simp
 have hown:=hS.own β _ b s sz hb trivial hB hι;rw[<- hlen];refine hK.zwR (zcs _ _ _) hown (λγ p b' s' sz' h1 h2 h3 h4 he=>?_) ?_
 .subst he;by_cases hγ:β=γ
  .grind [Go.Mx.Ob.live]
  grind [Go.Mx.Sim,Go.Mx.Ob.live]
 refine⟨b,s+o,sz,_,T,(0,0),Io.zbf _ _ _,zee _ (zbr k2),p1.trans k3,by simp; omega,λk v hk=>?_,λ_=>rfl⟩;have hp:=p2 (s+o+k);unfold zpt at hp;rw[hp,hll];rw[qch]at hk;simp only[qct]at hk;have hle:Io.le ι (ι.ext (h.set β .dead).length (b,s+o,sz)):=hK.zdQ _;split at hk
 .rename_i hc;rw[if_neg (by omega)];rw[qbp]at hk;obtain⟨u,g1,g2,g3⟩:=k5 (o+k) v hk;exact⟨u,by rw[qb1]; exact g1,g2.mono hle,g3⟩
 rename_i hc;have hkl:k - (cs.length - o)<l.length:=(qab.1 hk).1;rw[if_pos (by omega)];obtain⟨u,g1,g2,g3⟩:=hL.get hk
 exact⟨u,by
   have:s+o+k - (s+cs.length)=k - (cs.length - o):=by omega
   rw[this]; simpa using g1,g2.mono hle,g3⟩
variable{z:List Value}{h':zam}
theorem zGq(hS:Sim P B w1 ι h w)(hE:zcq ι N env a){x:Operand}(ho:o.op=.call c)(hc:c.callee=.builtin .append)(h1:c.argTypes.toList=[t,t'])(h2:c.args.toList=[x,y])(ht:P.underlying t=some (.slice el))(ht':P.underlying t'=some (.slice el'))(hty:zdM P el=true)(hn:0<P.cellsOf el)(hby:0<P.bytesOf el)(hz:zgY P el=some z)(hzl:z.length=P.cellsOf el)(he:eff B h env (.app (P.cellsOf el) (P.bytesOf el) (opX x) (opX y))=some (v,h')):EOk P B w1 ι a w o v h' false h ((ev env (opX x)).bind zum):=by
 obtain⟨zv,hzv,hzc⟩:=zdu hz;have hzs:P.cellsOf el=zv.cells.size:=by rw[<- hzl,<- hzc]; simp
 have hmb:zah=140737488355328:=rfl;simp only[eff]at he;split at he
 .rename_i k l hx1 hs1;obtain⟨vy,hy1,hsrc⟩:=qaY.1 hs1;have hx:=(zae hE hx1).zc7;obtain⟨ad,xc,us,hu,hul,hUL,hfirst⟩:=zfJ hS hsrc (zae hE hy1);rw[hu]at hfirst;have hf:=hfirst k (qap _);have htk:us.take (k * P.cellsOf el)=us:=qaM (by omega);rw[htk]at hf;cases hk:(k == 0)with
  | true=>
   simp only[hk,qdt,qae,qan]at he;obtain⟨rfl,rfl⟩:=he;have hk0:k=0:=by simpa using hk
   subst hk0;have hrun:=run_append_room (w:=w) (w':=w) ho hc h1 h2 ht ht' hty hx hu (by omega) (hf w (Below.refl _ _)) (by simp) (λ_=>rfl);exact⟨_,_,ι,.inl hrun,Io.le.refl _,hS,.lit _,by simp,.zbX (Below.refl _ _)⟩
  | false=>
   simp only[hk,qdu]at he;have hk0:k≠0:=by simpa using hk
   cases hb:Nat.ble (k * P.bytesOf el) zah with
   | false=>simp_all
   | true=>
    simp only[hb,qdt,qae,qan]at he;obtain⟨rfl,rfl⟩:=he;have hfit:=qad hb;obtain⟨newCap,zs,r1,r2,r3,r4⟩:=zcW (os:=[]) ho hc h1 h2 ht ht' hty hzv hzs hby hx hu (by omega) (by rw[qaO]; omega) (λw' _=>by simpa using zb4 _ none 0 0 w') hf;obtain⟨ι',g1,g2,g3⟩:=hS.zkt (n:=P.cellsOf el) (len:=0) (k:=k) (newCap:=newCap) (os:=[]) (vs:=[]) (us:=l) (ws:=us) (zs:=zs) (T:=el) ⟨rfl,by simp⟩ hUL (by simp) hul hn (by omega) r3 (by simpa using r4);refine⟨_,_,ι',.inl r1,g1,?_,?_,by simp,.zbX ((zfS w).trans (zbb { w with drawn:=w.drawn+1 } _))⟩<;> simp_all
 .rename_i β off n' len cap k l hx1 hs1;obtain⟨vy,hy1,hsrc⟩:=qaY.1 hs1;cases hnn:(P.cellsOf el == n')with
  | false=>grind
  | true=>
   simp only[hnn,qbs,qdu]at he;have hn':P.cellsOf el=n':=by simpa using hnn
   subst hn';have hx:=zae hE hx1;obtain⟨ad,xc,us,hu,hul,hUL,hfirst⟩:=zfJ hS hsrc (zae hE hy1);rw[hu]at hfirst;have hf:=hfirst k (qap _);have htk:us.take (k * P.cellsOf el)=us:=qaM (by omega);rw[htk]at hf;have hll:l.length=us.length:=by simpa using hUL.1.symm
   cases hk:(k == 0)with
   | true=>
    simp only[hk,qdt,qae,qan]at he;obtain⟨rfl,rfl⟩:=he;have hk0:k=0:=by simpa using hk
    subst hk0;have hus:us=[]:=qbf (by omega);subst hus;generalize hu0:a.eval x=u0 at hx;cases hx with
    | sl _ _ _ _ _ b s sz cap' hι k1 k2 k3 k4 k5 k6=>
     have hrun:=run_append_room (w:=w) (w':=w) ho hc h1 h2 ht ht' hty hu0 hu (by omega) (hf w (Below.refl _ _)) (λb _=>by simp[storeCells]) (by simp);exact⟨_,_,ι,.inl hrun,Io.le.refl _,hS,.sl _ _ _ _ _ b s sz cap' hι k1 (by omega) k3 k4 k5 k6,by simp,.zbX (Below.refl _ _)⟩
    | sl0 _ _ _ _ ad' k4 k5 k6=>
     have hrun:=run_append_room (w:=w) (w':=w) ho hc h1 h2 ht ht' hty hu0 hu (by omega) (hf w (Below.refl _ _)) (λb _=>by simp[storeCells]) (by simp);exact⟨_,_,ι,.inl hrun,Io.le.refl _,hS,.sl0 _ _ _ _ ad' k4 k5 k6,by simp,.zbX (Below.refl _ _)⟩
   | false=>
    simp only[hk,qdu]at he;have hk0:k≠0:=by simpa using hk
    split at he
    .rename_i cs c0 hcs;cases hroom:Nat.ble (len+k) c0 with
     | true=>
      simp only[hroom,qdt]at he;have hroom:=qad hroom;cases hb:Nat.ble B β && Nat.ble (off+(len+k)* P.cellsOf el) cs.length with
      | false=>simp only[hb,qdu]at he; cases he
      | true=>
       simp only[hb,qdt,qae,qan]at he;obtain⟨rfl,rfl⟩:=he;simp only[qai]at hb;have hB:=qad hb.1;have hle:=qad hb.2;rw[qaQ]at hle;generalize hu0:a.eval x=u0 at hx;cases hx with
       | sl0 _ _ _ _ ad' k4 k5 k6=>have:=k5 c0 rfl; omega
       | sl _ _ _ _ _ b s sz cap' hι k1 k2 k3 k4 k5 k6=>
        have hcc:=k5 c0 rfl;subst hcc;obtain⟨w',r1,r2,r3⟩:=hS.ziA hcs hB hUL (o:=off+len * P.cellsOf el) (by omega) hι
        have hrun:=run_append_room (w:=w) (w':=w') ho hc h1 h2 ht ht' hty hu0 hu hroom (hf w (Below.refl _ _)) (λb' hb'=>by
         cases hb';rw[zeu,qb1]
         simpa using r1) (by simp)
        exact⟨_,_,ι,.inl hrun,Io.le.refl _,r2,.sl _ _ _ _ _ b s sz c0 hι k1 hroom k3 k4 k5 k6,by simp,.zld r3 (by rw[hx1]; rfl) hι hcs hB⟩
     | false=>
      simp only[hroom,qdu]at he;have hroom:c0<len+k:=by
       rcases qa0 c0 (len+k)with h0 | h0
       .exact h0
       rw[qat h0]at hroom; cases hroom
      cases hb:Nat.ble (off+len * P.cellsOf el) cs.length && Nat.ble ((len+k)* P.bytesOf el) zah with
      | false=>simp only[hb,qdu]at he; cases he
      | true=>
       simp only[hb,qdt,qae,qan]at he;obtain⟨rfl,rfl⟩:=he;simp only[qai]at hb;have hle:=qad hb.1;have hfit:=qad hb.2;generalize hu0:a.eval x=u0 at hx;cases hx with
       | sl0 _ _ _ _ ad' k4 k5 k6=>
        obtain⟨newCap,zs,r1,r2,r3,r4⟩:=zcW (w:=w) (os:=[]) ho hc h1 h2 ht ht' hty hzv hzs hby hu0 hu (by omega) (by omega) (λw' _=>by simpa using zb4 _ (some ad') 0 0 w') hf;obtain⟨ι',g1,g2,g3⟩:=hS.zkt (n:=P.cellsOf el) (len:=0) (k:=k) (newCap:=newCap) (os:=[]) (vs:=[]) (us:=l) (ws:=us) (zs:=zs) (T:=el) ⟨rfl,by simp⟩ hUL (by simp) hul hn (by omega) r3 (by simpa using r4);refine⟨_,_,ι',.inl r1,g1,?_,?_,by simp,.zbX ((zfS w).trans (zbb { w with drawn:=w.drawn+1 } _))⟩
        .simpa using g2
        .simpa using g3
       | sl _ _ _ _ _ b s sz cap' hι k1 k2 k3 k4 k5 k6=>
        have hcc:=k5 c0 rfl;subst hcc;obtain⟨vs,v1,v2,v3⟩:=hS.zmJ hcs (zlU hle) hι;have hfo:∀ w',Below w.heap.size w w'->(Builtin.firstCells (P.cellsOf el) len (.slice (some ⟨b,s+off,none⟩) len c0)).run P w'=.ok vs.toArray w':=λw' hw'=>by
         simp only[Builtin.firstCells];have:=v3 (len * P.cellsOf el) (qap _) w' hw';rw[qaM (by omega)]at this;exact this
        obtain⟨newCap,zs,r1,r2,r3,r4⟩:=zcW (w:=w) (os:=vs) ho hc h1 h2 ht ht' hty hzv hzs hby hu0 hu hroom (by omega) hfo hf;obtain⟨ι',g1,g2,g3⟩:=hS.zkt (n:=P.cellsOf el) (len:=len) (k:=k) (newCap:=newCap) (os:=(cs.drop off).take (len * P.cellsOf el)) (vs:=vs) (us:=l) (ws:=us) (zs:=zs) (T:=el) v2 hUL v1 hul hn r2 r3 r4;exact⟨_,_,ι',.inl r1,g1,g2,g3,by simp,.zbX ((zfS w).trans (zbb { w with drawn:=w.drawn+1 } _))⟩
    .rename_i cs hcs;cases hin:Nat.ble (off+(len+k)* P.cellsOf el) cs.length with
     | true=>
      simp only[hin,qdt]at he;cases hBb:Nat.ble B β with
      | false=>simp only[hBb,qdu]at he; cases he
      | true=>
       simp only[hBb,qdt,qae,qan]at he;obtain⟨rfl,rfl⟩:=he;have hB:=qad hBb;have hle:=qad hin;have hkp:0<k * P.cellsOf el:=qc1 (by omega) hn;have hle2:=hle;rw[qaQ]at hle;obtain⟨b0,s0,sz0,arr0,T0,fr0,q1,q2,q3,q4,q5,q6⟩:=hS.cells hcs;generalize hu0:a.eval x=u0 at hx;cases hx with
       | sl0 _ _ _ _ ad' k4 k5 k6=>
        obtain⟨b,s,sz,g1,g2⟩:=k6 rfl;have q1':some (b,s,sz)=some (b0,s0,sz0):=g1.symm.trans q1;simp only[qae,qan]at q1';obtain⟨rfl,rfl,rfl⟩:=q1';omega
       | sl _ _ _ _ _ b s sz cap' hι k1 k2 k3 k4 k5 k6=>
        have g2:=k6 rfl;have q1':some (b,s,sz)=some (b0,s0,sz0):=hι.symm.trans q1;simp only[qae,qan]at q1';obtain⟨rfl,rfl,rfl⟩:=q1';have hroom:len+k<=cap':=by
         refine qcr ?_ hn;omega
        obtain⟨w',r1,r2,r3⟩:=hS.ziA hcs hB hUL (o:=off+len * P.cellsOf el) (by omega) hι
        have hrun:=run_append_room (w:=w) (w':=w') ho hc h1 h2 ht ht' hty hu0 hu hroom (hf w (Below.refl _ _)) (λb' hb'=>by
         cases hb';rw[zeu,qb1]
         simpa using r1) (by simp)
        exact⟨_,_,ι,.inl hrun,Io.le.refl _,r2,.sl _ _ _ _ _ b s sz cap' hι k1 hroom k3 k4 k5 k6,by simp,.zld r3 (by rw[hx1]; rfl) hι hcs hB⟩
     | false=>
      simp only[hin,qdu]at he;cases hb:Nat.ble B β && (off+len * P.cellsOf el == cs.length) && Nat.ble ((len+k)* P.bytesOf el) zah with
      | false=>simp only[hb,qdu]at he; cases he
      | true=>
       simp only[hb,qdt,qae,qan]at he;obtain⟨rfl,rfl⟩:=he;simp only[qai,qdz]at hb;have hB:=qad hb.1.1;have htail:=hb.1.2;have hfit:=qad hb.2;have hlenk:(h.set β .dead).length=h.length:=by simp
       have hdrop:(cs.drop off).take (len * P.cellsOf el)=cs.drop off:=qaM (by simp; omega);generalize hu0:a.eval x=u0 at hx;cases hx with
       | sl0 _ _ _ _ ad' k4 k5 k6=>
        have hd0:cs.drop off=[]:=by
         rw[List.drop_eq_nil_iff]; omega
        obtain⟨newCap,zs,r1,r2,r3,r4⟩:=zcW (w:=w) (os:=[]) ho hc h1 h2 ht ht' hty hzv hzs hby hu0 hu (by omega) (by omega) (λw' _=>by simpa using zb4 _ (some ad') 0 0 w') hf;obtain⟨ι',g1,g2,g3⟩:=(hS.kill β).zkt (n:=P.cellsOf el) (len:=0) (k:=k) (newCap:=newCap) (os:=[]) (vs:=[]) (us:=l) (ws:=us) (zs:=zs) (T:=el) ⟨rfl,by simp⟩ hUL (by simp) hul hn (by omega) r3 (by simpa using r4);refine⟨_,_,ι',.inl r1,g1,?_,?_,by simp,.zbX ((zfS w).trans (zbb { w with drawn:=w.drawn+1 } _))⟩
        .rw[hd0]; simpa using g2
        .rw[hlenk]at g3; simpa using g3
       | sl _ _ _ _ _ b s sz cap' hι k1 k2 k3 k4 k5 k6=>
        rcases qa0 cap' (len+k)with hroom | hroom
        .obtain⟨vs,v1,v2,v3⟩:=hS.zmJ hcs (zlU (o:=off) (n:=len * P.cellsOf el) (by omega)) hι;have hfo:∀ w',Below w.heap.size w w'->(Builtin.firstCells (P.cellsOf el) len (.slice (some ⟨b,s+off,none⟩) len cap')).run P w'=.ok vs.toArray w':=λw' hw'=>by
          simp only[Builtin.firstCells];have:=v3 (len * P.cellsOf el) (qap _) w' hw';rw[qaM (by omega)]at this;exact this
         obtain⟨newCap,zs,r1,r2,r3,r4⟩:=zcW (w:=w) (os:=vs) ho hc h1 h2 ht ht' hty hzv hzs hby hu0 hu hroom (by omega) hfo hf;rw[hdrop]at v2;obtain⟨ι',g1,g2,g3⟩:=(hS.kill β).zkt (n:=P.cellsOf el) (len:=len) (k:=k) (newCap:=newCap) (os:=cs.drop off) (vs:=vs) (us:=l) (ws:=us) (zs:=zs) (T:=el) v2 hUL v1 hul hn r2 r3 r4;rw[hlenk]at g3;exact⟨_,_,ι',.inl r1,g1,g2,g3,by simp,.zbX ((zfS w).trans (zbb { w with drawn:=w.drawn+1 } _))⟩
        have hcap:(len+k)* P.cellsOf el<=cap' * P.cellsOf el:=qas _ hroom;rw[qaQ]at hcap;obtain⟨w',r1,r2,r3⟩:=hS.extend hcs hB hUL (o:=off) hι (by omega) (by omega)
        have hrun:=run_append_room (w:=w) (w':=w') ho hc h1 h2 ht ht' hty hu0 hu hroom (hf w (Below.refl _ _)) (λb' hb'=>by
         cases hb';rw[zeu];have:s+off+len * P.cellsOf el=s+cs.length:=by omega
         rw[this]; exact r1) (by simp)
        refine⟨_,_,_,.inl hrun,hS.zdQ _,r2,?_,by simp,.zld r3 (by rw[hx1]; rfl) hι hcs hB⟩;have:=VRel.sl (ι:=ι.ext h.length (b,s+off,sz)) h.length 0 (P.cellsOf el) (len+k) none b (s+off) sz cap' (Io.zbf _ _ _) (by omega) hroom k3 k4 (by simp) (λ_=>by have:=k6 rfl; omega);simpa using this
    cases he
 cases he
theorem zFV(hS:Sim P B w1 ι h w)(hE:zcq ι N env a){x:Operand}(ho:o.op=.call c)(hc:c.callee=.builtin .copy)(h1:c.argTypes.toList=[t,t'])(h2:c.args.toList=[x,y])(ht:P.underlying t=some (.slice el))(hty:zdM P el=true)(hn:0<P.cellsOf el)(he:eff B h env (.copy (P.cellsOf el) (opX x) (opX y))=some (v,h')):EOk P B w1 ι a w o v h' false h ((ev env (opX x)).bind zum):=by
 have h1':c.argTypes = #[t,t']:=by rw[<- qbr (xs:=c.argTypes),h1]
 have h2':c.args = #[x,y]:=by rw[<- qbr (xs:=c.args),h2]
 simp only[zdM,qai]at hty;simp only[eff]at he;split at he
 .rename_i β off n' len cap vy hx1 hy1;split at he
  .rename_i k l hsrc;split at he
   .rename_i cs hcs;cases hb:(P.cellsOf el == n') && Nat.ble B β && Nat.ble (off+min k len * P.cellsOf el) cs.length with
    | false=>simp_all
    | true=>
     simp only[hb,qdt,qae,qan]at he;obtain⟨rfl,rfl⟩:=he;simp only[qai,qdz]at hb;obtain⟨⟨hn',hB⟩,hle⟩:=hb;subst hn';have hB:=qad hB;have hle:=qad hle;have hx:=zae hE hx1;obtain⟨ad,xc,us,hu,hul,hUL,hfirst⟩:=zfJ hS hsrc (zae hE hy1);rw[hu]at hfirst;have hf:=hfirst (min k len) (Nat.min_le_left _ _) w (Below.refl _ _);have hrun:∀(base:Option Addr) (cap':Nat) (w':World),a.eval x=.slice base len cap'->(∀ b,base=some b->(storeCells b (us.take (min k len * P.cellsOf el)) 0).run P w=.ok () w')->base.isSome=true ->
       (execOp a.eval o).run P w=.ok (.value (.int .i64 (min k len:Nat))) w':=by
      intro base cap' w' hx hst hsome;obtain⟨b,rfl⟩:=qa5.1 hsome;rw[zbM ho hc];have hmin:Nat.min k len=min k len:=rfl
      simp_all [builtin,Builtin.copy_,zag,zaY,Builtin.lenOf,goInt]
     have hL':zfj ι (l.take (min k len * P.cellsOf el)) (us.take (min k len * P.cellsOf el)).toArray:=by
      grind [Go.Mx.zfj]
     generalize hu0:a.eval x=u0 at hx;cases hx with
     | sl _ _ _ _ _ b s sz cap' hι k1 k2 k3 k4 k5 k6=>
      obtain⟨w',r1,r2,r3⟩:=hS.ziA hcs hB hL' (o:=off) (by simp; omega) hι;exact⟨_,w',ι,.inl (hrun _ _ w' hu0 (λb' hb'=>by cases hb'; simpa using r1) rfl),Io.le.refl _,r2,.lit _,by simp,.zld r3 (by rw[hx1]; rfl) hι hcs hB⟩
     | sl0 _ _ _ _ ad' k4 k5 k6=>
      have hm:min k 0=0:=by omega
      have hset:h.set β (.blk (zbT cs off (l.take (min k 0 * P.cellsOf el))))=h:=by
       rw[hm,qci,qb0,zvx];have hb:=zdF hcs;have hlt:=(qab.1 hb).1;apply qdb;intro i;by_cases hi:β=i
       .subst hi; rw[qa1 hlt,hb]
       rw[qaD hi]
      rw[hset];exact⟨_,w,ι,.inl (hrun _ _ w hu0 (λb' hb'=>by rw[hm]; simp[storeCells]) rfl),Io.le.refl _,hS,.lit _,by simp,.zbX (Below.refl _ _)⟩
   cases he
  cases he
 cases he
theorem zG9(hS:Sim P B w1 ι h w)(hE:zcq ι N env a){x:Operand}(ho:o.op=.call c)(hc:c.callee=.builtin .clear)(h1:c.argTypes.toList=[t])(h2:c.args.toList=[x])(ht:P.underlying t=some (.slice el))(hty:zdM P el=true)(hn:0<P.cellsOf el)(hz:zgY P el=some z)(hone:z.all zhm=true)(hzl:z.length=P.cellsOf el)(he:eff B h env (.clr (P.cellsOf el) z (opX x))=some (v,h')):EOk P B w1 ι a w o v h' false h ((ev env (opX x)).bind zum):=by
 have h1':c.argTypes = #[t]:=by rw[<- qbr (xs:=c.argTypes),h1]
 have h2':c.args = #[x]:=by rw[<- qbr (xs:=c.args),h2]
 obtain⟨zv,hzv,hzc⟩:=zdu hz;simp only[eff]at he;split at he
 .rename_i hx1;simp only[qae,qan]at he;obtain⟨rfl,rfl⟩:=he;have hx:=(zae hE hx1).zc7;refine⟨_,w,ι,.inl ?_,Io.le.refl _,hS,.lit _,by simp,.zbX (Below.refl _ _)⟩
  simp_all [zbM,builtin,Builtin.clear_,zag]
 .rename_i β off n' len cap hx1;cases hnn:(P.cellsOf el == n')with
  | false=>simp_all
  | true=>
   simp only[hnn,qbs,qdu]at he;have hn':P.cellsOf el=n':=by simpa using hnn
   subst hn';have hx:=zae hE hx1;cases hl0:(len == 0)with
   | true=>
    simp only[hl0,qdt,qae,qan]at he;obtain⟨rfl,rfl⟩:=he;have hl:len=0:=by simpa using hl0
    subst hl;have hrun:∀(base:Option Addr) (cap':Nat),a.eval x=.slice base 0 cap'->(execOp a.eval o).run P w=.ok (.value (.tuple #[])) w:=by
     intro base cap' hu;rw[zbM ho hc];cases base<;>simp[builtin,Builtin.clear_,h1',h2',hu,zag ht]
    generalize hu0:a.eval x=u0 at hx;cases hx with
    | sl _ _ _ _ _ b s sz cap' hι k1 k2 k3 k4 k5 k6=>exact⟨_,w,ι,.inl (hrun _ _ hu0),Io.le.refl _,hS,.lit _,by simp,.zbX (Below.refl _ _)⟩
    | sl0 _ _ _ _ ad' k4 k5 k6=>exact⟨_,w,ι,.inl (hrun _ _ hu0),Io.le.refl _,hS,.lit _,by simp,.zbX (Below.refl _ _)⟩
   | false=>
    simp only[hl0,qdu]at he;have hl:len≠0:=by simpa using hl0
    split at he
    .rename_i cs hcs;cases hb:Nat.ble B β && Nat.ble (off+len * P.cellsOf el) cs.length with
     | false=>simp_all
     | true=>
      simp only[hb,qdt,qae,qan]at he;obtain⟨rfl,rfl⟩:=he;simp only[qai]at hb;have hB:=qad hb.1;have hle:=qad hb.2;have hL:=zir (ι:=ι) hone len zv.cells hzc;have hll:(zm7 len (z.map V.lit)).length=len * P.cellsOf el:=by simp[zm7,hzl]
      generalize hu0:a.eval x=u0 at hx;cases hx with
      | sl0 _ _ _ _ ad' k4 k5 k6=>exact absurd rfl hl
      | sl _ _ _ _ _ b s sz cap' hι k1 k2 k3 k4 k5 k6=>
       obtain⟨w',r1,r2,r3⟩:=hS.ziA hcs hB hL (o:=off) (by omega) hι;refine⟨_,w',ι,.inl ?_,Io.le.refl _,r2,.lit _,by simp,.zld r3 (by rw[hx1]; rfl) hι hcs hB⟩
       simp_all [zbM,builtin,Builtin.clear_,Builtin.zeroCells,zag,zbz]
    cases he
 cases he
theorem zhw{b:Bool}{i:I}{r:V×zam}(he:eff B h env (bif b then i else .bad)=some r):b=true/\eff B h env i=some r:=by
 grind [eff]
theorem zvO(hS:Sim P B w1 ι h w)(hE:zcq ι N env a)(o:Oper)(he:eff B h env (za1 P o)=some (v,h')):EOk P B w1 ι a w o v h' (zgr false (za1 P o)) h (zzy env (za1 P o)):=by
 obtain⟨dst,op,type,pos,after,guard⟩:=o;cases op with
 | alloc t=>
  grind [za1,zBI,eff]
 | box t x=>exact zHB hS hE rfl he
 | build t parts=>
  grind [za1,eff]
 | buildSlice t len parts=>
  simp only[za1]at he;split at he
  .rename_i el hs;obtain⟨hb,he⟩:=zhw he;simp only[qai]at hb;split at he
   .rename_i z hz;obtain⟨hone,he⟩:=zhw he;simp only[qai,qdz]at hone;exact zGL hS hE rfl hs hb.1.1 (qbU.mp hb.1.2) (qad hb.2) hz hone.1 hone.2 he
   simp[eff]at he
  .simp[eff]at he
 | load t x=>
  grind [za1,eff]
 | store t x y=>
  simp only[za1]at he;obtain⟨ht,he⟩:=zhw he;have:=zBA (o:=⟨dst,.store t x y,type,pos,after,guard⟩) hS hE rfl ht he;simp only[za1,ht,qdt,zgr,zak];exact this
 | fieldAddr s x f=>
  grind [za1,eff]
 | field s x f=>
  grind [za1,eff]
 | indexAddr t x i=>
  grind [za1,eff]
 | index t x i=>
  grind [za1,eff]
 | makeFunc fn first cap=>cases fn<;>simp[za1,eff]at he
 | makeInterface t x=>
  grind [za1,eff]
 | binOp op t x y ty=>
  grind [za1,eff]
 | convert s d x=>
  grind [za1,eff]
 | makeSlice t l c=>
  simp only[za1]at he;split at he
  .rename_i el hs;obtain⟨hb,he⟩:=zhw he;simp only[qai]at hb;split at he
   .rename_i z hz;obtain⟨hone,he⟩:=zhw he;simp only[qai,qdz]at hone;exact zIK hS hE rfl hs hb.1.1 (qbU.mp hb.1.2) (qbU.mp hb.2) hz hone.1 hone.2 he
   simp[eff]at he
  .simp[eff]at he
 | slice t x lo hi mx=>
  grind [za1,eff]
 | call c=>
  have hfalse:∀ {b:Bool} {t0:Option Nat},b=false->(∀ {v:V} {h':zam},EOk P B w1 ι a w ⟨dst,.call c,type,pos,after,guard⟩ v h' false h t0->EOk P B w1 ι a w ⟨dst,.call c,type,pos,after,guard⟩ v h' b h t0):=by
   simp_all
  simp only[za1,zj3]at he ⊢;split at he
  .grind [eff]
  .simp[eff]at he
  .rename_i b hc;split at he
   .split at he<;>simp[eff]at he
   .simp[eff]at he
   .simp[eff]at he
   .rename_i t t' x y h1 h2;split at he
    .rename_i el el' hs hs';obtain⟨hb,he⟩:=zhw he;split at he
     .rename_i z hz;obtain⟨hzl,he⟩:=zhw he;have hb':=hb;simp only[qai]at hb;simp only[hb',hzl,qdt,zgr,zak,zzy,zty,qaa];refine hfalse ?_ (zGq (o:=⟨dst,.call c,type,pos,after,guard⟩) hS hE rfl hc h1 h2 hs hs' hb.1.1 (qbU.mp hb.1.2) (qbU.mp hb.2) hz (by simpa using hzl) he);rfl
     simp[eff]at he
    simp[eff]at he
   .rename_i t t' x y h1 h2;split at he
    .rename_i el el' hs hs';obtain⟨hb,he⟩:=zhw he;have hb':=hb;simp only[qai]at hb;simp only[hb',qdt,zgr,zak,zzy,zty,qaa];refine hfalse ?_ (zFV (o:=⟨dst,.call c,type,pos,after,guard⟩) hS hE rfl hc h1 h2 hs hb.1 (qbU.mp hb.2) he);rfl
    simp[eff]at he
   .rename_i t x h1 h2;split at he
    .rename_i el hs;obtain⟨hb,he⟩:=zhw he;split at he
     .rename_i z hz;obtain⟨hzl,he⟩:=zhw he;have hb':=hb;have hzl':=hzl;simp only[qai,qdz]at hb hzl;simp only[hb',hzl',qdt,zgr,zak,zzy,zty,qaa];refine hfalse ?_ (zG9 (o:=⟨dst,.call c,type,pos,after,guard⟩) hS hE rfl hc h1 h2 hs hb.1 (qbU.mp hb.2) hz hzl.1 hzl.2 he);rfl
     simp[eff]at he
    simp[eff]at he
   .simp[eff]at he
   simp[eff]at he
  .simp[eff]at he
 | defer c=>
  grind [za1,eff]
 | _=>simp[za1,eff]at he
end
end Go.Mx
