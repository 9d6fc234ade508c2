/-
 slices.Insert at []int, and what else makes a list of one's own out of another: the library's own walk stands for the plain machine's step. Conditions: none.
-/
import Derived.Test.YtbjogdohfhdaiaaGreatErMxF
import Derived.Test.YtbjogdohfhdaiaaGreatProg
import Derived.Shelf.Spec.SlicesInsertGrow
import Derived.Shelf.Slices.Clone
set_option linter.unusedSimpArgs false
set_option linter.unusedVariables false
namespace Go.Mx
open Go Go.RowKit Go.Shelf Go.Proofs
section
variable {P:Program} {B:Nat} {w1 w w':World} {ι:Io} {h:zam}
theorem zcA{b:Nat}{T:TypeId}:∀(vs:List Value) (o:Nat) (arr:Array Value) (w:World),w.heap[b]? = some (.cells arr T (0,0))->o+vs.length<=arr.size ->
  ∃ arr',w.setCells b o vs=zhH w b (.cells arr' T (0,0))/\arr'.size=arr.size/\∀ i,arr'[i]? = if o<=i/\i<o+vs.length then vs[i - o]? else arr[i]?
 | [],o,arr,w,hb,_=>⟨arr,(zoc hb).symm,rfl,λi=>by rw[if_neg (by simp)]⟩
 | v :: vs,o,arr,w,hb,hl=>by
  simp only[qaB]at hl;obtain⟨arr',h1,h2,h3⟩:=zcA vs (o+1) (arr.setIfInBounds o v) (zhH w b (.cells (arr.setIfInBounds o v) T (0,0))) (zee _ (zbr hb)) (by simp; omega);refine⟨arr',?_,by simpa using h2,λi=>?_⟩
  .rw[World.setCells,zlI hb,h1,zkT]
  rw[h3];by_cases hi:i=o
  .subst hi;rw[if_neg (by omega),if_pos (by simp)];simp[show i<arr.size by omega]
  rw[qbK (Ne.symm hi)];by_cases hc:o+1<=i/\i<o+1+vs.length
  .rw[if_pos hc,if_pos (by simp; omega)];have:i - o=(i - (o+1))+1:=by omega
   rw[this]; rfl
  rw[if_neg hc,if_neg (by simp; omega)]
theorem zeq(w:World)(b:Option Nat):w.grownBy w.drew b:=zi5 w b
theorem zck{a b c:World}{r:Option Nat}(h:a.grownBy b r)(h':b.grownBy c r):a.grownBy c r:=
 ⟨h'.1.trans h.1,h'.2.trans h.2,h'.3.trans h.3,qaq h.4 h'.4,λk hk hne=>(h'.5 k (qb2 hk h.4) hne).trans (h.5 k hk hne)⟩
variable{arr:Array Value}
theorem Sim.renew(hS:Sim P B w1 ι h w){β:Nat}{cs ns:List V}(hβ:zax h β=some cs)(hB:B<=β){b s sz b' s':Nat}(hι:ι β=some (b,s,sz))(hb:b'=b\/b'=w.heap.size){T:TypeId}(hg:w.grownBy w' (some b'))(harr:w'.heap[b']? = some (.cells arr T (0,0)))(hle:s'+ns.length<=arr.size)(hns:∀(k:Nat) v,ns[k]? = some v->∃ u,arr[s'+k]? = some u/\VRel ι v u/\u.oneCell'=true):
  Io.le ι (ι.ext h.length (b',s',arr.size))/\Sim P B w1 (ι.ext h.length (b',s',arr.size)) (h.set β .dead ++ [.blk ns]) w':=by
 have hb0:=zdF hβ;have hK:=hS.kill β;have hlen:(h.set β .dead).length=h.length:=by simp
 have hown:=hS.own β _ b s sz hb0 trivial hB hι;have hlt:=hS.lt hb0 trivial hι;have hle':Io.le ι (ι.ext h.length (b',s',arr.size)):=hS.zdQ _;refine⟨hle',?_⟩;rw[<- hlen];have hsz:=hS.below.size;refine hK.zwR hg (by rcases hb with rfl | rfl<;>omega) (λγ p b2 s2 sz2 h1 h2 h3 h4 he=>?_) ⟨b',s',arr.size,arr,T,(0,0),Io.zbf _ _ _,harr,rfl,hle,λk v hk=>?_,λ_=>rfl⟩
 .by_cases hγ:β=γ
  .subst hγ;have hl:β<h.length:=(qab.1 hb0).1;rw[qa1 hl]at h1; cases h1; exact h2.elim
  rw[qaD hγ]at h1;subst he;rcases hb with rfl | rfl
  .exact hγ (hS.inj β γ _ p _ s sz s2 sz2 hb0 h1 trivial h2 hB h3 hι h4)
  have:=hS.lt h1 h2 h4; omega
 obtain⟨u,g1,g2,g3⟩:=hns k v hk;exact⟨u,g1,g2.mono (by rw[hlen]; exact hle'),g3⟩
theorem Sim.fresh(hS:Sim P B w1 ι h w){ns:List V}{b' s':Nat}{T:TypeId}(hb:w.heap.size<=b')(hg:w.grownBy w' (some b'))(harr:w'.heap[b']? = some (.cells arr T (0,0)))(hle:s'+ns.length<=arr.size)(hns:∀(k:Nat) v,ns[k]? = some v->∃ u,arr[s'+k]? = some u/\VRel ι v u/\u.oneCell'=true):
  Io.le ι (ι.ext h.length (b',s',arr.size))/\Sim P B w1 (ι.ext h.length (b',s',arr.size)) (h ++ [.blk ns]) w':=by
 have hle':Io.le ι (ι.ext h.length (b',s',arr.size)):=hS.zdQ _;refine⟨hle',hS.zwR hg (qaq hS.below.size hb) (λγ p b2 s2 sz2 h1 h2 h3 h4 he=>?_) ⟨b',s',arr.size,arr,T,(0,0),Io.zbf _ _ _,harr,rfl,hle,λk v hk=>?_,λ_=>rfl⟩⟩
 .have:=hS.lt h1 h2 h4; omega
 obtain⟨u,g1,g2,g3⟩:=hns k v hk;exact⟨u,g1,g2.mono hle',g3⟩
theorem Sim.read(hS:Sim P B w1 ι h w){β o n:Nat}{cs:List V}(hβ:zax h β=some cs)(hB:B<=β)(ho:o+n<=cs.length){b s sz:Nat}(hι:ι β=some (b,s,sz)):
  ∃ arr T,w.heap[b]? = some (.cells arr T (0,0))/\arr.size=sz/\s+cs.length<=sz/\∃ vs:List Value,vs.length=n/\(∀ j v,vs[j]? = some v->arr[s+o+j]? = some v)/\
   (∀(k:Nat) v,(((cs.drop o).take n)[k]?)=some v->∃ u,vs[k]? = some u/\VRel ι v u/\u.oneCell'=true)/\∀ v∈vs,v.oneCell'=true:=by
 obtain⟨b',s',sz',arr,T,fr,k1,k2,k3,k4,k5,k6⟩:=hS.cells hβ;rw[hι]at k1; cases k1;have hfr:=k6 hB;subst hfr;have hget:∀ k,k<n->∃ x,cs[o+k]? = some x/\∃ u,arr[s+o+k]? = some u/\VRel ι x u/\u.oneCell'=true:=λk hk=>by
  have hlt:o+k<cs.length:=by omega
  obtain⟨u,g1,g2,g3⟩:=k5 (o+k) _ (qac hlt);exact⟨_,qac hlt,u,by rw[qb1]; exact g1,g2,g3⟩
 refine⟨arr,T,k2,k3,k4,(arr.toList.drop (s+o)).take n,by simp; omega,λj v hj=>?_,λk v hk=>?_,λv hv=>?_⟩
 .rw[qbm]at hj;split at hj
  .rw[qbp]at hj; simpa using hj
  cases hj
 .rw[qbm]at hk;split at hk
  .rename_i hkn;rw[qbp]at hk;obtain⟨x,g0,u,g1,g2,g3⟩:=hget k hkn;rw[hk]at g0; cases g0;refine⟨u,?_,g2,g3⟩;rw[qbm,if_pos hkn,qbp];simpa using g1
  cases hk
 obtain⟨j,hj⟩:=qbO hv;rw[qbm]at hj;split at hj
 .rename_i hkn;rw[qbp]at hj;obtain⟨x,g0,u,g1,g2,g3⟩:=hget j hkn;have:arr[s+o+j]? = some v:=by simpa using hj
  rw[g1]at this; cases this; exact g3
 cases hj
end
def zib:Ren:=⟨λn=>if n=21 then 123 else if n=27 then 136 else if n=28 then 137 else if n=35 then 141 else 144,
 λn=>if n=0 then 0 else if n=3 then 3 else if n=4 then 4 else 31,λn=>n⟩
theorem zt2:Lays2.n21 Tryz.prog zib where
 mixed:=by kernel_rfl
 f21:=Tryz.func123.trans (congrArg some (by kernel_rfl))
 f27:=Tryz.func136.trans (congrArg some (by kernel_rfl))
 f28:=Tryz.func137.trans (congrArg some (by kernel_rfl))
 f35:=Tryz.func141.trans (congrArg some (by kernel_rfl))
 f39:=Tryz.func144.trans (congrArg some (by kernel_rfl))
 t0:=Tryz.underlying0
 a0:=Tryz.isAgg0
 z0:=Tryz.sizeOf0
 v0:=Tryz.zeroValue0
 t3:=Tryz.underlying3
 a3:=Tryz.isAgg3
 z3:=Tryz.sizeOf3
 v3:=Tryz.zeroValue3
 t4:=Tryz.underlying4
 a4:=Tryz.isAgg4
 z4:=Tryz.sizeOf4
 v4:=Tryz.zeroValue4
 t22:=Tryz.underlying31
 a22:=Tryz.isAgg31
 z22:=Tryz.sizeOf31
 v22:=Tryz.zeroValue31
 i3:=by kernel_rfl
section
variable {B:Nat} {w1 w w':World} {ι:Io} {h:zam}
theorem zCo{α:Type}{cs vs:List α}{i k:Nat}{x:α}(hi:i<=cs.length)(hk:(cs.take i ++ vs ++ cs.drop i)[k]? = some x):
  (k<i/\cs[k]? = some x)\/(i<=k/\k<i+vs.length/\vs[k - i]? = some x)\/(i+vs.length<=k/\k<cs.length+vs.length/\cs[k - vs.length]? = some x):=by
 rw[qaE,qch]at hk;have hl:(cs.take i).length=i:=by simp; omega
 rw[hl]at hk;split at hk
 .rename_i h1;rw[qbm,if_pos h1]at hk;exact .inl ⟨h1,hk⟩
 rw[qch]at hk;split at hk
 .exact .inr (.inl ⟨by omega,by omega,hk⟩)
 rw[qbp]at hk;have:=(qab.1 hk).1;refine .inr (.inr ⟨by omega,by omega,?_⟩);rw[<- hk]; congr 1; omega
variable{vs:Array Value}
theorem zvK(hS:Sim Tryz.prog B w1 ι h w){β o len i γ o2 n2 m:Nat}{c2:Option Nat}{cs us:List V}(ha:zgq ι [.sl β o 1 len none,.lit (.int .i64 i),.sl γ o2 n2 m c2] vs)(hβ:zax h β=some cs)(hγ:zax h γ=some us)(hB:B<=β)(hB2:B<=γ)(hne:β≠γ)(hl:o+len=cs.length)(hm:0<m)(hu:o2+m<=us.length)(hn2:n2=1)(hi:i<=len)(hbig:(len+m)* 8<=140737488355328):
  CallsIn (FW none) 0 Tryz.prog 123 vs w (zfw Tryz.prog B w1 ι (.ret (.sl h.length 0 1 (len+m) none)) (h.set β .dead ++ [.blk ((cs.drop o).take i ++ (us.drop o2).take m ++ (cs.drop o).drop i)])):=by
 subst hn2;obtain⟨x0,x1,x2,rfl⟩:∃ x0 x1 x2,vs = #[x0,x1,x2]:=by
  have:=ha.1;obtain⟨l⟩:=vs
  match l,this with
  | [a,b,c],_=>exact⟨a,b,c,rfl⟩
 have r0:=ha.2 0 _ _ rfl rfl;have r1:=ha.2 1 _ _ rfl rfl;have r2:=ha.2 2 _ _ rfl rfl;cases r1;cases r2 with
 | sl0=>omega
 | sl _ _ _ _ _ vb vs0 vsz vc hιγ v2 v3 v4 v5 v6 v7=>
 have hall:((cs.drop o).take i ++ (us.drop o2).take m ++ (cs.drop o).drop i).length=len+m:=by simp; omega
 have hml:((us.drop o2).take m).length=m:=by simp; omega
 cases r0 with
 | sl0 _ _ _ _ ad q1 q2 q3=>
  obtain⟨b,s,sz,hι,hsz⟩:=q3 rfl;have hi0:i=0:=by omega
  subst hi0;obtain⟨brr,T2,b1,b2,b3,ys,b4,b5,b6,b7⟩:=hS.read hγ hB2 (show o2+m<=us.length by omega) hιγ;have hvs:∀ j v,ys[j]? = some v->w.cell? ⟨vb,vs0+o2+j,none⟩=some v:=λj v hj=>zer b1 (b5 j v hj)
  have hG:=grownCap_ge w (0+m) 0 (zib.t 3);have hG2:grownCap w (0+m) 0 (zib.t 3)<2 ^ 63:=by
   have:=grownCap_le_maxLen w (0+m) 0 (zib.t 3) (by unfold maxLen; omega);unfold maxLen at this;omega
  refine callsIn_wide.2 ?_;refine Calls.mono (Any2.slices_Insert_int_end_grow zt2 (some ad) 0 0 vb (vs0+o2) m vc [] ys w hm (qap _) (by omega) (by omega) rfl b4 (λ_=>rfl) (λa ha j v hj=>by simp at hj) hvs b7) λe w' hp=>?_
  obtain⟨rfl,rfl⟩:=hp;generalize hrow:([]++ ys).toArray ++ Builtin.zeroCells (Value.int .i64 0).cells (grownCap w (0+m) 0 (zib.t 3) - (0+m))=row;have hG3:m<=grownCap w m 0 (zib.t 3):=by simpa using hG
  have hrs:row.size=grownCap w (0+m) 0 (zib.t 3):=by rw[<- hrow]; simp only[qaU,Array.size_append,List.size_toArray,b4,Builtin.zeroCells,Value.cells,Array.size_map,Array.size_range]; simp; omega
  obtain⟨g1,g2⟩:=hS.renew (ns:=(cs.drop o).take 0 ++ (us.drop o2).take m ++ (cs.drop o).drop 0) (s':=0) hβ hB hι (.inr rfl) (zck (zeq w _) (zc0 w.drew (.cells row (zib.t 3)) _)) (zdt w.drew _) (by rw[hall]; omega) (λk v hk=>by
   have hd:(cs.drop o)=[]:=qbn (by omega);rw[hd]at hk;simp only[List.take_nil,List.drop_nil,qaU,qaP]at hk;obtain⟨u,q1,q2,q3⟩:=b6 k v hk;refine⟨u,?_,q2,q3⟩;have hkl:=(qab.1 q1).1;rw[<- hrow,qby (by simp; omega)]
   simpa using q1)
  exact⟨_,g1,g2,_,rfl,.sl h.length 0 1 (0+m) none w.heap.size 0 row.size (grownCap w (0+m) 0 (zib.t 3)) (Io.zbf _ _ _) (by omega) hG hG2 (by omega) (λc hc=>by cases hc) (λ_=>by omega)⟩
 | sl _ _ _ _ _ b s sz cap hι k2 k3 k4 k5 k6 k7=>
 have k7:=k7 rfl;obtain⟨arr,T,a1,a2,a3,xs,a4,a5,a6,a7⟩:=hS.read hβ hB (show o+len<=cs.length by omega) hι;obtain⟨brr,T2,b1,b2,b3,ys,b4,b5,b6,b7⟩:=hS.read hγ hB2 (show o2+m<=us.length by omega) hιγ;have htk:(cs.drop o).take len=cs.drop o:=qaM (by simp; omega);rw[htk]at a6;have hbv:vb≠b:=λhe=>hne (hS.inj β γ _ _ b s sz vs0 vsz (zdF hβ) (zdF hγ) trivial trivial hB hB2 hι (by rw[<- he]; exact hιγ))
 have hcs:∀ j v,xs[j]? = some v->w.cell? ⟨b,s+o+j,none⟩=some v:=λj v hj=>zer a1 (a5 j v hj)
 have hvs:∀ j v,ys[j]? = some v->w.cell? ⟨vb,vs0+o2+j,none⟩=some v:=λj v hj=>zer b1 (b5 j v hj)
 have hsp:∀ j,s+o+j<arr.size->(w.cell? ⟨b,s+o+j,none⟩).isSome=true:=λj hj=>by rw[zer a1 (qbd hj)]; rfl
 have hfz:∀ j,w.frozen? ⟨b,j,none⟩=false:=λj=>by simp[World.frozen?,a1]
 have hfz2:∀ j,w.frozen? ⟨vb,j,none⟩=false:=λj=>by simp[World.frozen?,b1]
 have hdl:(cs.drop o).length=len:=by simp; omega
 have key:∀(arr':Array Value) (s':Nat),(∀ k,k<i->arr'[s'+k]? = xs[k]?)->(∀ k,k<m->arr'[s'+i+k]? = ys[k]?)->(∀ k,i<=k->k<len->arr'[s'+m+k]? = xs[k]?)->
   ∀(k:Nat) v,((cs.drop o).take i ++ (us.drop o2).take m ++ (cs.drop o).drop i)[k]? = some v->∃ u,arr'[s'+k]? = some u/\VRel ι v u/\u.oneCell'=true:=by
  intro arr' s' q1 q2 q3 k v hk;rcases zCo (by omega) hk with⟨c1,c2⟩| ⟨c1,c2,c3⟩| ⟨c1,c2,c3⟩
  .obtain⟨u,g1,g2,g3⟩:=a6 k v c2;exact⟨u,by rw[q1 k c1]; exact g1,g2,g3⟩
  .obtain⟨u,g1,g2,g3⟩:=b6 (k - i) v c3;refine⟨u,?_,g2,g3⟩;have:=q2 (k - i) (by omega);rw[show s'+i+(k - i)=s'+k by omega]at this;rw[this]; exact g1
  rw[hml]at c1 c3 c2;obtain⟨u,g1,g2,g3⟩:=a6 (k - m) v c3;refine⟨u,?_,g2,g3⟩;have:=q3 (k - m) (by omega) (by omega);rw[show s'+m+(k - m)=s'+k by omega]at this;rw[this]; exact g1
 have hpost:∀(w':World) (b' s':Nat) (arr':Array Value) (T':TypeId) (cap':Nat),(b'=b\/b'=w.heap.size)->w.grownBy w' (some b')->w'.heap[b']? = some (.cells arr' T' (0,0))->
   (∀ k,k<i->arr'[s'+k]? = xs[k]?)->(∀ k,k<m->arr'[s'+i+k]? = ys[k]?)->(∀ k,i<=k->k<len->arr'[s'+m+k]? = xs[k]?)->s'+cap'=arr'.size->len+m<=cap'->cap'<2 ^ 63 ->
   zfw Tryz.prog B w1 ι (.ret (.sl h.length 0 1 (len+m) none)) (h.set β .dead ++ [.blk ((cs.drop o).take i ++ (us.drop o2).take m ++ (cs.drop o).drop i)]) (.returned (.slice (some ⟨b',s',none⟩) (len+m) cap')) w':=by
  intro w' b' s' arr' T' cap' hb hg hw q1 q2 q3 hc hlc hc63;obtain⟨g1,g2⟩:=hS.renew hβ hB hι hb hg hw (by rw[hall]; omega) (key arr' s' q1 q2 q3);exact⟨_,g1,g2,_,rfl,.sl h.length 0 1 (len+m) none b' s' arr'.size cap' (Io.zbf _ _ _) (by omega) hlc hc63 (by omega) (λc hc=>by cases hc) (λ_=>by omega)⟩
 have hxk:∀ k,k<len->arr[s+o+k]? = xs[k]?:=λk hk=>by
  rw[qac (by omega)];exact a5 k _ (qac (by omega))
 refine callsIn_wide.2 ?_;by_cases hroom:len+m<=cap
 .by_cases hin:i=len
  .subst hin;obtain⟨arr',p1,p2,p3⟩:=zcA ys (s+o+i) arr w a1 (by omega);refine Calls.mono (Any2.slices_Insert_int_end_room zt2 b (s+o) i cap vb (vs0+o2) m vc ys w hm hroom (by omega) b4 (λj hj=>by rw[qb1]; exact hsp _ (by omega)) (λj _=>hfz _) hvs b7) λe w' hp=>?_
   obtain⟨rfl,rfl⟩:=hp;rw[p1];refine hpost _ b (s+o) arr' T cap (.inl rfl) (zcs _ _ _) (zee _ (zbr a1)) (λk hk=>?_) (λk hk=>?_) (λk h1 h2=>by omega) (by omega) hroom k4
   .rw[p3,if_neg (by omega)]; exact hxk k hk
   rw[p3,if_pos (by omega)]; congr 1; omega
  obtain⟨arr1,p1,p2,p3⟩:=zcA (xs.drop i) (s+o+(i+m)) arr w.drew a1 (by simp; omega);obtain⟨arr2,p4,p5,p6⟩:=zcA ys (s+o+i) arr1 (zhH w.drew b (.cells arr1 T (0,0))) (zee _ (zbr a1)) (by omega)
  refine Calls.mono (Any2.slices_Insert_int_shift zt2 b (s+o) len cap i vb (vs0+o2) m vc xs ys w (by omega) hm hroom (by omega) hbv a4 b4 hcs (λj hj=>hsp _ (by omega)) (λj _=>hfz _) hvs a7 b7 T2 T brr.size arr.size
   (by simp[World.shape?,b1]) (by simp[World.shape?,a1]) (by omega) (hfz2 _) (hfz2 _)) λe w' hp=>?_
  obtain⟨rfl,rfl⟩:=hp;rw[p1,p4,zkT];refine hpost _ b (s+o) arr2 T cap (.inl rfl) (zck (zeq w _) (zcs _ _ _)) (zee _ (zbr (w:=w.drew) a1)) (λk hk=>?_) (λk hk=>?_) (λk h1 h2=>?_) (by omega) hroom k4
  .rw[p6,if_neg (by omega),p3,if_neg (by simp; omega)]; exact hxk k (by omega)
  .rw[p6,if_pos (by omega)]; congr 1; omega
  rw[p6,if_neg (by omega),p3,if_pos (by simp; omega),qbp]; congr 1; omega
 have hG:=grownCap_ge w (len+m) cap (zib.t 3);have hG2:grownCap w (len+m) cap (zib.t 3)<2 ^ 63:=by
  have:=grownCap_le_maxLen w (len+m) cap (zib.t 3) (by unfold maxLen; omega);unfold maxLen at this;omega
 by_cases hin:i=len
 .subst hin;refine Calls.mono (Any2.slices_Insert_int_end_grow zt2 (some ⟨b,s+o,none⟩) i cap vb (vs0+o2) m vc xs ys w hm k3 (by omega) hbig a4 b4 (by simp) (λa ha j v hj=>by cases ha; rw[Addr.add_lit]; exact hcs j v hj) hvs b7) λe w' hp=>?_
  obtain⟨rfl,rfl⟩:=hp;refine hpost _ w.heap.size 0 _ _ _ (.inr rfl) (zck (zeq w _) (zc0 _ _ _)) (zdt w.drew _) (λk hk=>?_) (λk hk=>?_) (λk h1 h2=>by omega) (by simp[Builtin.zeroCells,Value.cells]; omega) hG hG2
  .rw[qby (by simp; omega)];simp[qar (show k<xs.length by omega)]
  rw[qby (by simp; omega)];simp[qaV (show xs.length<=i+k by omega),a4]
 generalize hrow:(xs.take i).toArray ++ Builtin.zeroCells (Value.int .i64 0).cells (len+m - i)++ Builtin.zeroCells (Value.int .i64 0).cells (grownCap w (len+m) cap (zib.t 3) - (len+m))=row;have hrs:row.size=grownCap w (len+m) cap (zib.t 3):=by rw[<- hrow]; simp[Builtin.zeroCells,Value.cells]; omega
 have hat:(w.alloc (.cells row (zib.t 3))).drew.heap[w.heap.size]? = some (.cells row (zib.t 3) (0,0)):=zdt w _;obtain⟨arr1,p1,p2,p3⟩:=zcA ys i row (w.alloc (.cells row (zib.t 3))).drew hat (by omega);obtain⟨arr2,p4,p5,p6⟩:=zcA (xs.drop i) (i+m) arr1 (zhH (w.alloc (.cells row (zib.t 3))).drew w.heap.size (.cells arr1 (zib.t 3) (0,0))).drew (zee _ (zbr hat)) (by simp; omega);refine Calls.mono (Any2.slices_Insert_int_grow zt2 b (s+o) len cap i vb (vs0+o2) m vc xs ys w (by omega) hm k3 (by omega) hbig a4 b4 hcs hvs a7 b7) λe w' hp=>?_
 obtain⟨rfl,rfl⟩:=hp;rw[hrow,p1,p4];refine hpost _ w.heap.size 0 arr2 (zib.t 3) _ (.inr rfl) (zck (zc0 w (.cells row (zib.t 3) (0,0)) _) (zck (zeq _ _) (zck (zcs _ _ _) (zck (zeq _ _) (zcs _ _ _)))))
  (zee _ (zbr (zee _ (zbr hat)))) (λk hk=>?_) (λk hk=>?_) (λk h1 h2=>?_) (by omega) hG hG2
 .rw[p6,if_neg (by omega),p3,if_neg (by omega),<- hrow,Array.append_assoc,qby (by simp; omega)];simp[qbm,hk]
 .rw[p6,if_neg (by omega),p3,if_pos (by omega)]; congr 1; omega
 rw[p6,if_pos (by simp; omega),qbp]; congr 1; omega
def zky:V->Bool
 | .lit (.slice none 0 0)=>true
 | .sl _ _ _ 0 (some 0)=>true
 | _=>false
theorem ztK{v:V}(he:zky v=true){u:Value}(hr:VRel ι v u):∃ base,u=.slice base 0 0:=by
 unfold zky at he;split at he
 .cases hr; exact⟨_,rfl⟩
 .cases hr with
  | sl _ _ _ _ _ b s sz cap' _ _ _ _ _ h6 _=>have:=h6 0 rfl; subst this; exact⟨_,rfl⟩
  | sl0=>exact⟨_,rfl⟩
 cases he
theorem ztU(hS:Sim Tryz.prog B w1 ι h w){v:V}{γ o2 n2 m:Nat}{c2:Option Nat}{us:List V}(ha:zgq ι [v,.lit (.int .i64 0),.sl γ o2 n2 m c2] vs)(hv:zky v=true)(hγ:zax h γ=some us)(hB2:B<=γ)(hm:0<m)(hu:o2+m<=us.length)(hn2:n2=1)(hbig:m * 8<=140737488355328):
  CallsIn (FW none) 0 Tryz.prog 123 vs w (zfw Tryz.prog B w1 ι (.ret (.sl h.length 0 1 m none)) (h ++ [.blk ((us.drop o2).take m)])):=by
 subst hn2;obtain⟨x0,x1,x2,rfl⟩:∃ x0 x1 x2,vs = #[x0,x1,x2]:=by
  have:=ha.1;obtain⟨l⟩:=vs
  match l,this with
  | [a,b,c],_=>exact⟨a,b,c,rfl⟩
 have r0:=ha.2 0 _ _ rfl rfl;have r1:=ha.2 1 _ _ rfl rfl;have r2:=ha.2 2 _ _ rfl rfl;cases r1;obtain⟨base,rfl⟩:=ztK hv r0;cases r2 with
 | sl0=>omega
 | sl _ _ _ _ _ vb vs0 vsz vc hιγ v2 v3 v4 v5 v6 v7=>
 obtain⟨brr,T2,b1,b2,b3,ys,b4,b5,b6,b7⟩:=hS.read hγ hB2 (show o2+m<=us.length by omega) hιγ;have hvs:∀ j v,ys[j]? = some v->w.cell? ⟨vb,vs0+o2+j,none⟩=some v:=λj v hj=>zer b1 (b5 j v hj)
 have hml:((us.drop o2).take m).length=m:=by simp; omega
 refine callsIn_wide.2 ?_;have hG:=grownCap_ge w (0+m) 0 (zib.t 3);have hG2:grownCap w (0+m) 0 (zib.t 3)<2 ^ 63:=by
  have:=grownCap_le_maxLen w (0+m) 0 (zib.t 3) (by unfold maxLen; omega);unfold maxLen at this;omega
 refine Calls.mono (Any2.slices_Insert_int_end_grow zt2 base 0 0 vb (vs0+o2) m vc [] ys w hm (qap _) (by omega) (by omega) rfl b4 (λ_=>rfl) (λa ha j v hj=>by simp at hj) hvs b7) λe w' hp=>?_
 obtain⟨rfl,rfl⟩:=hp
 obtain⟨g1,g2⟩:=hS.fresh (ns:=(us.drop o2).take m) (s':=0) (qap _) (zck (zeq w _) (zc0 w.drew (.cells (([]++ ys).toArray ++ Builtin.zeroCells (Value.int .i64 0).cells (grownCap w (0+m) 0 (zib.t 3) - (0+m))) (zib.t 3)) _)) (zdt w.drew _) (by rw[hml]; simp[b4]) (λk v hk=>by
  obtain⟨u,q1,q2,q3⟩:=b6 k v hk;refine⟨u,?_,q2,q3⟩;have hkl:=(qab.1 q1).1;rw[qby (by simp; omega)]
  simpa using q1)
 refine⟨_,g1,g2,_,rfl,?_⟩;have hG3:m<=grownCap w m 0 (zib.t 3):=by simpa using hG
 have:=VRel.sl (ι:=ι.ext h.length (w.heap.size,0,(([]++ ys).toArray ++ Builtin.zeroCells (Value.int .i64 0).cells (grownCap w (0+m) 0 (zib.t 3) - (0+m))).size)) h.length 0 1 (0+m) none w.heap.size 0 _ (grownCap w (0+m) 0 (zib.t 3)) (Io.zbf _ _ _) (by simp[Builtin.zeroCells,Value.cells,b4]; omega) hG hG2 (by omega) (λc hc=>by cases hc) (λ_=>by simp[Builtin.zeroCells,Value.cells,b4]; omega);simpa using this
def zna:Orc:=λB f args h=>
 if f=123 then
  match args with
  | [s,.lit (.int .i64 z),.sl γ o2 n2 m c2]=>
   match zax h γ with
   | some us=>
    if B<=γ/\0<m/\o2+m<=us.length/\n2=1/\0<=z then
     if zky s=true then
      if z=0/\m * 8<=140737488355328 then some (.ret (.sl h.length 0 1 m none),h ++ [.blk ((us.drop o2).take m)])else none
     else
      match s with
      | .sl β o n len none=>
       match zax h β with
       | some cs=>
        if n=1/\B<=β/\β≠γ/\o+len=cs.length/\z.toNat<=len/\(len+m)* 8<=140737488355328 then
         some (.ret (.sl h.length 0 1 (len+m) none),h.set β .dead ++ [.blk ((cs.drop o).take z.toNat ++ (us.drop o2).take m ++ (cs.drop o).drop z.toNat)])
        else none
       | none=>none
      | _=>none
    else none
   | none=>none
  | _=>none
 else none
theorem zCs:zhv Tryz.prog zna:=by
 intro B f args h cr h' ho;unfold zna at ho;split at ho
 .rename_i hf;subst hf;split at ho
  .rename_i s z γ o2 n2 m c2;split at ho
   .rename_i us hus;split at ho
    .rename_i hc;obtain⟨h1,h2,h3,h4,h5⟩:=hc;split at ho
     .rename_i he;split at ho
      .rename_i hz;obtain⟨rfl,hbig⟩:=hz;cases ho;exact⟨.of (λw1 ι w vs hS ha=>⟨by kernel_rfl,ztU hS ha he hus h1 h2 h3 h4 hbig⟩) rfl,zaG.snoc _ _ _⟩
      cases ho
     split at ho
     .rename_i β o n len _;split at ho
      .rename_i cs hcs;split at ho
       .rename_i hd;obtain⟨rfl,g1,g2,g3,g5,g6⟩:=hd;cases ho;obtain⟨i,rfl⟩:∃ i:Nat,z=(i:Int):=⟨z.toNat,by omega⟩;rw[qax]at g5 ⊢;exact⟨.of (λw1 ι w vs hS ha=>⟨by kernel_rfl,zvK hS ha hcs hus g1 h1 g2 g3 h2 h3 h4 g5 g6⟩) rfl,(zaG.set h .dead g1).trans (zaG.snoc _ _ _)⟩
       cases ho
      cases ho
     cases ho
    cases ho
   cases ho
  cases ho
 cases ho
end
def zIB:Ren:=⟨λn=>109,λn=>if n=3 then 3 else if n=4 then 4 else 31,λn=>n⟩
theorem zzq:Lays2.n15 Tryz.prog zIB where
 mixed:=by kernel_rfl
 f15:=Tryz.func109.trans (congrArg some (by kernel_rfl))
 t3:=Tryz.underlying3
 a3:=Tryz.isAgg3
 z3:=Tryz.sizeOf3
 v3:=Tryz.zeroValue3
 t4:=Tryz.underlying4
 a4:=Tryz.isAgg4
 z4:=Tryz.sizeOf4
 v4:=Tryz.zeroValue4
 t22:=Tryz.underlying31
 a22:=Tryz.isAgg31
 z22:=Tryz.sizeOf31
 v22:=Tryz.zeroValue31
 i3:=by kernel_rfl
section
variable {B:Nat} {w1 w w':World} {ι:Io} {h:zam}
theorem zqX{a b:World}(hb:Below a.heap.size a b)(r:Option Nat):a.grownBy b r:=⟨hb.os,hb.tape,hb.output,hb.size,λk hk _=>hb.block k hk⟩
def zj6:V->Option Int
 | .lit (.int .i64 z)=>some z
 | _=>none
theorem zrS{v:V}{z:Int}(hv:zj6 v=some z):v=.lit (.int .i64 z):=by
 unfold zj6 at hv;split at hv
 .cases hv; rfl
 cases hv
variable{zs:List Int}
theorem znI(hS:Sim Tryz.prog B w1 ι h w){v':Value}{ns:List V}{T:TypeId}(ho:w'.ownsRow w.heap.size T 1 v' zs.length (zs.map (Value.int .i64)))(hnil:v'≠.slice none 0 0)(hb:Below w.heap.size w w')(hz:ns=zs.map λz=>.lit (.int .i64 z)):
  zfw Tryz.prog B w1 ι (.ret (.sl h.length 0 1 zs.length none)) (h ++ [.blk ns]) (.returned v') w':=by
 obtain⟨h1,⟨h2,_⟩| ⟨g,cap,cur,rfl,h3,h4,h5,h6,h7,h8⟩⟩:=ho
 .exact(hnil h2).elim
 have hm:maxLen=9223372036854775807:=rfl;have hnl:ns.length=zs.length:=by rw[hz]; simp
 obtain⟨g1,g2⟩:=hS.fresh (ns:=ns) (s':=0) h3 (zqX hb _) h4 (by omega) (λk v hk=>by
  rw[hz]at hk;simp only[qa6,qal]at hk;obtain⟨z,hk,rfl⟩:=hk;refine⟨.int .i64 z,?_,.lit _,rfl⟩;have hkl:=(qab.1 hk).1;have hq:(cur.toList.take (zs.length * 1))[k]? = some (Value.int .i64 z):=by rw[h8]; simp[hk]
  rw[qbm,if_pos (by omega)]at hq;rw[qaO]
  simpa using hq)
 exact⟨_,g1,g2,_,rfl,.sl h.length 0 1 zs.length none g 0 cur.size cap (Io.zbf _ _ _) (by omega) h5 (by omega) (by omega) (λc hc=>by cases hc) (λ_=>by omega)⟩
variable{cap:Option Nat}{vs:Array Value}
theorem zq9(hS:Sim Tryz.prog B w1 ι h w){γ o n len:Nat}{cs:List V}(ha:zgq ι [.sl γ o n len cap] vs)(hn:n=1)(hγ:zax h γ=some cs)(ho:o+len<=cs.length)(hz:((cs.drop o).take len).mapM zj6=some zs)(hbig:len * 8<=140737488355328):
  CallsIn (FW none) 0 Tryz.prog 109 vs w (zfw Tryz.prog B w1 ι (.ret (.sl h.length 0 1 len none)) (h ++ [.blk ((cs.drop o).take len)])):=by
 subst hn;obtain⟨x0,rfl⟩:∃ x0,vs = #[x0]:=by
  have:=ha.1;obtain⟨l⟩:=vs
  match l,this with
  | [a],_=>exact⟨a,rfl⟩
 have r0:=ha.2 0 _ _ rfl rfl;have hzz:(cs.drop o).take len=zs.map λz=>.lit (.int .i64 z):=by
  generalize (cs.drop o).take len=l at hz;induction l generalizing zs with
  | nil=>simp at hz; subst hz; rfl
  | cons a r ih=>
   rw[qcZ]at hz;cases h1:zj6 a with
   | none=>rw[h1]at hz; cases hz
   | some z=>
    cases h2:r.mapM zj6 with
    | none=>rw[h1,h2]at hz; cases hz
    | some zr=>
     rw[h1,h2]at hz;cases hz;rw[qaL,<- ih h2,zrS h1]
 have hzl:zs.length=len:=by
  have:=congrArg List.length hzz;simp at this;omega
 refine callsIn_wide.2 ?_;cases r0 with
 | sl0 _ _ _ _ ad q1 q2 q3=>
  have hz0:zs=[]:=qbf hzl;subst hz0;refine Calls.mono (Any.slices_Clone_int_zero zzq ad 0 w) λe w' hp=>?_
  obtain⟨v',rfl,h1,h2,h3⟩:=hp;have:=znI (ns:=(cs.drop o).take 0) (zs:=[]) hS h1 h2 h3 (by simp);simpa using this
 | sl _ _ _ _ _ b s sz cap' hι k2 k3 k4 k5 k6 k7=>
  obtain⟨b',s',sz',arr,T,fr,a1,a2,a3,a4,a5,a6⟩:=hS.cells hγ;rw[hι]at a1; cases a1;refine Calls.mono (Any.slices_Clone_int zzq b (s+o) len cap' zs w (by omega) hbig (λj hj=>?_)) λe w' hp=>?_
  .have hjl:((cs.drop o).take len)[j]? = some (.lit (.int .i64 (zs.getD j 0))):=by rw[hzz]; simp[List.getD,qac hj]
   rw[qbm,if_pos (by omega),qbp]at hjl;obtain⟨u,g1,g2,g3⟩:=a5 (o+j) _ hjl;cases g2;exact zer a2 (by rw[qb1]; exact g1)
  obtain⟨v',rfl,h1,h2,h3⟩:=hp;rw[qaM (by omega)]at h1;have:=znI (ns:=(cs.drop o).take len) (zs:=zs) hS (by rw[hzl]; exact h1) h2 h3 hzz;rw[hzl]at this;exact this
theorem zo3(hS:Sim Tryz.prog B w1 ι h w){γ o n:Nat}(ha:zgq ι [.sl γ o n 0 cap] vs):
  CallsIn (FW none) 0 Tryz.prog 109 vs w (zfw Tryz.prog B w1 ι (.ret (.sl h.length 0 1 0 none)) (h ++ [.blk []])):=by
 obtain⟨x0,rfl⟩:∃ x0,vs = #[x0]:=by
  have:=ha.1;obtain⟨l⟩:=vs
  match l,this with
  | [a],_=>exact⟨a,rfl⟩
 have r0:=ha.2 0 _ _ rfl rfl;obtain⟨ad,c,rfl⟩:∃ ad c,x0=.slice (some ad) 0 c:=by
  cases r0 with
  | sl0=>exact⟨_,_,rfl⟩
  | sl=>exact⟨_,_,rfl⟩
 refine callsIn_wide.2 (Calls.mono (Any.slices_Clone_int_zero zzq ad c w) λe w' hp=>?_);obtain⟨v',rfl,h1,h2,h3⟩:=hp;have:=znI (ns:=[]) (zs:=[]) hS h1 h2 h3 (by simp);simpa using this
theorem zpj(hS:Sim Tryz.prog B w1 ι h w)(ha:zgq ι [.lit (.slice none 0 0)] vs):
  CallsIn (FW none) 0 Tryz.prog 109 vs w (zfw Tryz.prog B w1 ι (.ret (.lit (.slice none 0 0))) h):=by
 obtain⟨x0,rfl⟩:∃ x0,vs = #[x0]:=by
  have:=ha.1;obtain⟨l⟩:=vs
  match l,this with
  | [a],_=>exact⟨a,rfl⟩
 have r0:=ha.2 0 _ _ rfl rfl;cases r0;refine callsIn_wide.2 (Calls.mono (Any.slices_Clone_int_nil zzq 0 0 w) λe w' hp=>?_);obtain⟨rfl,rfl⟩:=hp;exact⟨ι,Io.le.refl _,hS,_,rfl,.lit _⟩
def zec:Orc:=λB f args h=>
 if f=109 then
  match args with
  | [.lit (.slice none 0 0)]=>some (.ret (.lit (.slice none 0 0)),h)
  | [.sl γ o n 0 cap]=>some (.ret (.sl h.length 0 1 0 none),h ++ [.blk []])
  | [.sl γ o n (len+1) cap]=>
   match zax h γ with
   | some cs=>if n=1/\o+(len+1)<=cs.length/\(len+1)* 8<=140737488355328 then
     match ((cs.drop o).take (len+1)).mapM zj6 with
     | some _=>some (.ret (.sl h.length 0 1 (len+1) none),h ++ [.blk ((cs.drop o).take (len+1))])
     | none=>none
    else none
   | none=>none
  | _=>none
 else none
theorem zvW:zhv Tryz.prog zec:=by
 intro B f args h cr h' ho;unfold zec at ho;split at ho
 .rename_i hf;subst hf;split at ho
  .cases ho;exact⟨.of (λw1 ι w vs hS ha=>⟨by kernel_rfl,zpj hS ha⟩) rfl,zaG.refl _ _⟩
  .cases ho;exact⟨.of (λw1 ι w vs hS ha=>⟨by kernel_rfl,zo3 hS ha⟩) rfl,zaG.snoc _ _ _⟩
  .split at ho
   .rename_i cs hcs;split at ho
    .rename_i hc;split at ho
     .rename_i zs hzs;cases ho;exact⟨.of (λw1 ι w vs hS ha=>⟨by kernel_rfl,zq9 hS ha hc.1 hcs hc.2.1 hzs hc.2.2⟩) rfl,zaG.snoc _ _ _⟩
     cases ho
    cases ho
   cases ho
  cases ho
 cases ho
end
end Go.Mx
