/-
 Drafts of nets as arguments. Conditions: none.
-/
import Derived.Test.YtnfgibomhkbcpaaNfSa
import Derived.Test.YtnfgibomhkbcpaaNfFn1
import Derived.Test.YtnfgibomhkbcpaaNfJ18
set_option linter.unusedSimpArgs false
set_option linter.unusedVariables false
set_option maxRecDepth 100000
namespace Go.Proofs.Ytnfgibomhkbcpaa.S
open Go Go.Mx Go.Lx Go.Dc Go.ChangeShapes Go.WideShapes Go.ChangeAt Go.RowKit
theorem zrW{xs:List Int}(h:okL (okI .u8) xs):∃ ns:List Nat,(∀ x∈ns,x≤255)∧xs=iL ns:=by
 obtain⟨ns,h1,h2⟩:=Dc.znF (l:=xs) (f:=fun n:Nat=>(n:Int)) (T:=fun n=>n≤255) fun y hy=>by
  have:=zh0 (h.2 y hy);exact⟨y.toNat,by omega,by omega⟩
 exact⟨ns,h1,h2⟩
theorem zqM:Dec zaj [.int .u8,.int .u8,.sl [.int .u8]] (fun x=>okI .u8 x.card∧okI .u8 x.parents∧okL (okI .u8) x.w):=
 Dec.iso (Dec.pair (Dec.int .u8) (Dec.pair (Dec.int .u8) (Dec.list (Dec.int .u8)))) (fun x:S_haruspexref05_Piece=>(x.card,x.parents,x.w)) (fun a=>⟨a.1,a.2.1,a.2.2⟩) (fun _=>rfl)
theorem zrF:Dec zcb [.int .u8,.sl [.int .u8,.int .u8,.sl [.int .u8]],.sl [.int .u8]]
  (fun x=>okI .u8 x.grain∧okL (fun x=>okI .u8 x.card∧okI .u8 x.parents∧okL (okI .u8) x.w) x.nodes∧okL (okI .u8) x.order):=
 Dec.iso (Dec.pair (Dec.int .u8) (Dec.pair (Dec.list zqM) (Dec.list (Dec.int .u8)))) (fun x:S_haruspexref05_Draft=>(x.grain,x.nodes,x.order)) (fun a=>⟨a.1,a.2.1,a.2.2⟩) (fun _=>rfl)
theorem zth{x:S_haruspexref05_Draft}(h:okI .u8 x.grain∧okL (fun x=>okI .u8 x.card∧okI .u8 x.parents∧okL (okI .u8) x.w) x.nodes∧okL (okI .u8) x.order):∃ d:DraftN,DraftOk d∧x=zcF d:=by
 obtain⟨grain,nodes,order⟩:=x;obtain⟨h1,h2,h3⟩:=h;have hg:=zh0 h1;obtain⟨os,o1,o2⟩:=zrW h3;obtain⟨ps,p1,p2⟩:=Dc.znF (l:=nodes) (f:=zn3) (T:=fun n=>n.card≤255) fun y hy=>by
  obtain⟨g1,g2,g3⟩:=h2.2 y hy;have k1:=zh0 g1;have k2:=zh0 g2;obtain⟨ws,w1,w2⟩:=zrW g3;refine⟨⟨y.card.toNat,y.parents.toNat,ws⟩,by simp only; omega,?_⟩;obtain⟨a,b,c⟩:=y;simp only at k1 k2 w2;subst w2;simp only[zn3,qby k1.1,qby k2.1]
 refine⟨⟨grain.toNat,ps,os⟩,⟨by simp only at hg ⊢; omega,p1,o1⟩,?_⟩;simp only at o2 p2 hg;subst o2 p2;simp only[zcF,qby hg.1]
theorem zuB:zdS Try.prog 8 28=some [.int .u8,.sl [.int .u8,.int .u8,.sl [.int .u8]],.sl [.int .u8]]:=by kernel_rfl
theorem zze:zpH Try.prog 28=true:=by kernel_rfl
theorem zye:Try.prog.readableRec 28=true:=by kernel_rfl
theorem ztz{d:D}(h:ShA Try.prog 8 28 d):∃ dr:DraftN,DraftOk dr∧d=.agg (zcb.c false (zcF dr)):=by
 obtain⟨x,h1,h2⟩:=zrF.agg zze zuB h;obtain⟨dr,h3,rfl⟩:=zth h1;exact⟨dr,h3,h2⟩
theorem zgu{H:Type}{enc:TypeId×Value→H}{W W':World}(hb:Below W.heap.size W W'):∀ {ts:List TypeId} {vs:List Value} {ds:List (DataW H)} {ps:List MemPlace},
  DataW.TrodAll enc Try.prog W 0 (fun _=>true) true ts vs ds ps→(∀ t∈ts,Try.prog.readableRec t=true∧t<Try.prog.types.size)→(∀ x∈ps,x.block<W.heap.size)→
  DataW.TrodAll enc Try.prog W' 0 (fun b=>decide (b<W.heap.size)) true ts vs ds ps
 | [],vs,ds,ps,h,_,_=>by
  obtain⟨rfl,rfl,rfl⟩:=trodAll_nil h;exact trodAll_mk0
 | t :: ts,vs,ds,ps,h,ht,hlt=>by
  obtain⟨v,vs',d,ds',p,q,rfl,rfl,rfl,h1,h2⟩:=trodAll_cons h;obtain⟨r1,r2⟩:=ht t qap;exact⟨p,q,Below.trod laidOut r1 r2 h1 hb (fun x hx=>hlt x (List.mem_append_left _ hx)),zgu hb h2 (fun t h=>ht t (qal _ h)) (fun x hx=>hlt x (List.mem_append_right _ hx)),rfl⟩
theorem zsW:Dec zaa [.int .i64,.sl [.int .i64],.sl [.sl [.int .i64]]] (fun x=>okI .i64 x.card∧okL (okI .i64) x.parents∧okL (okL (okI .i64)) x.rows):=
 Dec.iso (Dec.pair (Dec.int .i64) (Dec.pair (Dec.list (Dec.int .i64)) (Dec.list (Dec.list (Dec.int .i64))))) (fun x:S_api_Node=>(x.card,x.parents,x.rows)) (fun a=>⟨a.1,a.2.1,a.2.2⟩) (fun _=>rfl)
theorem zvV:Dec zcU [.int .i64,.sl [.int .i64,.sl [.int .i64],.sl [.sl [.int .i64]]]] (fun x=>okI .i64 x.grain∧okL (fun x=>okI .i64 x.card∧okL (okI .i64) x.parents∧okL (okL (okI .i64)) x.rows) x.nodes):=
 Dec.iso (Dec.pair (Dec.int .i64) (Dec.list zsW)) (fun x:S_api_Net=>(x.grain,x.nodes)) (fun a=>⟨a.1,a.2⟩) (fun _=>rfl)
theorem zsV:Dec zcn [.int .u8,.int .u8,.int .u8,.int .i64] (fun x=>okI .u8 x.what∧okI .u8 x.at_∧okI .u8 x.row∧okI .i64 x.n):=
 Dec.iso (Dec.pair (Dec.int .u8) (Dec.pair (Dec.int .u8) (Dec.pair (Dec.int .u8) (Dec.int .i64)))) (fun x:S_haruspexref05_Bend=>(x.what,x.at_,x.row,x.n)) (fun a=>⟨a.1,a.2.1,a.2.2.1,a.2.2.2⟩) (fun _=>rfl)
theorem zus:zdS Try.prog 8 24=some [.int .i64,.sl [.int .i64,.sl [.int .i64],.sl [.sl [.int .i64]]]]:=by kernel_rfl
theorem zy5:zpH Try.prog 24=true:=by kernel_rfl
theorem zuj:zdS Try.prog 8 30=some [.int .u8,.int .u8,.int .u8,.int .i64]:=by kernel_rfl
theorem zzt:zpH Try.prog 30=true:=by kernel_rfl
theorem zwA{d:D}(h:ShA Try.prog 8 24 d):∃ x:S_api_Net,d=.agg (zcU.c false x):=by
 obtain⟨x,_,h2⟩:=zvV.agg zy5 zus h;exact⟨x,h2⟩
theorem zu8{d:D}(h:ShA Try.prog 8 30 d):∃ x:S_haruspexref05_Bend,((0≤x.what∧x.what≤255)∧(0≤x.at_∧x.at_≤255)∧(0≤x.row∧x.row≤255))∧d=.agg (zcn.c false x):=by
 obtain⟨x,⟨h1,h2,h3,_⟩,h4⟩:=zsV.agg zzt zuj h;exact⟨x,⟨zh0 h1,zh0 h2,zh0 h3⟩,h4⟩
theorem zyb:Try.prog.readableRec 24=true:=by kernel_rfl
theorem zxz:Try.prog.readableRec 30=true:=by kernel_rfl
theorem zqS:(232:Nat)<Try.prog.types.size:=of_decide_eq_true (by kernel_rfl)
theorem zwv:∀ t∈[24,28,30],(zdS Try.prog 8 t).isSome=true:=by
 intro t ht;simp only[qaL,List.not_mem_nil,or_false]at ht;rcases ht with rfl | rfl | rfl
 ·rw[zus]; rfl
 ·rw[zuB]; rfl
 rw[zuj]; rfl
theorem zw9:∀ t∈[24,28,30],Try.prog.readableRec t=true∧t<Try.prog.types.size:=by
 intro t ht;simp only[qaL,List.not_mem_nil,or_false]at ht;rcases ht with rfl | rfl | rfl
 ·exact⟨zyb,qbC (m:=232) (by decide) zqS⟩
 ·exact⟨zye,qbC (m:=232) (by decide) zqS⟩
 exact⟨zxz,qbC (m:=232) (by decide) zqS⟩
theorem zkl{H:Type}{enc:TypeId×Value→H}{w:World}{b0:Nat}{args:Array Value}{ds:List (DataW H)}{ps:List MemPlace}
  (hv:∀(j:Nat) t v,[24,28,30][j]? = some t→args[j]? = some v→Value.okWide Try.prog w .any b0 t v) (hd:DataW.TrodAll enc Try.prog w 0 (fun _=>true) true [24,28,30] args.toList ds ps):
  Calls Try.prog 3 args w fun e w'=>e=.returned (.bool true)∧Below w.heap.size w w':=by
 refine zAV (g:=8) hv hd zwv fun es hes=>?_
 obtain⟨x0,r,rfl,h0,hes⟩:=Dc.ShAs.inv hes;obtain⟨x1,r,rfl,h1,hes⟩:=Dc.ShAs.inv hes;obtain⟨x2,r,rfl,h2,hes⟩:=Dc.ShAs.inv hes;obtain rfl:=Dc.ShAs.none hes;obtain⟨a0,rfl⟩:=zwA h0;obtain⟨a1,k1,rfl⟩:=ztz h1;obtain⟨a2,⟨b21,b22,b23⟩,rfl⟩:=zu8 h2;exact zgM (zjl (raw:=a0) k1 ⟨b21,b22,b23⟩)
theorem zij(os:Os)(started:os.Started)(H:Type)(enc:TypeId×Value→H):
  ReturnsInHanded {} Try.checked os 3 .any (Rows.netFactorsSpec.pre6 enc Try.prog Try.f3 Rows.netFactorsRow.domain false) (Rows.netFactorsSpec.post enc Try.prog Try.f3 false true false false):=by
 refine returnsInHanded_of_change (C:=Try.checked) own started (by kernel_rfl) Try.func3
  (ChangeSpec.witness6 (enc:=enc) (C:=Try.checked) false ⟨#[],#[.agg #[.int .i64 0,.slice none 0 0],.agg #[.int .u8 0,.slice none 0 0,.slice none 0 0],.agg #[.int .u8 0,.int .u8 0,.int .u8 0,.int .i64 0]],[]⟩ 8 (by kernel_rfl) (by kernel_rfl) (by kernel_rfl) (by kernel_rfl)) ?_
 intro W base args ds gs before hval0 hW hcnd _;have hval:∀(j:Nat) t v,Try.f3.params[j]? = some t→args[j]? = some v→Value.okWide Try.prog W .any base t v:=hval0;have hlt:∀ x∈before,x.block<W.heap.size:=fun x hx=>hW.lt x hx
 have hW':=hW;obtain⟨p,q,hA0,hV,rfl,hfz,hnd⟩:=hW;have hA:DataW.TrodAll enc Try.prog W 0 (fun _=>true) true Try.f3.params.toList args.toList ds p:=hA0;rw[Try.params3]at hA hval;have hcalls:=zkl (fun j t v h1 h2=>hval j t v (by simpa using h1) h2) hA;obtain⟨rfl,rfl⟩:=trodVars_none hV;have hA1:DataW.TrodAll enc Try.prog W 0 (fun _=>true) true [24,28,30] args.toList ds p:=hA;have hds:∃ d0 d1 d2:DataW H,ds=[d0,d1,d2]:=by
  obtain⟨_,_,d0,ds0,_,_,_,e0,_,_,r0⟩:=trodAll_cons hA1;obtain⟨_,_,d1,ds1,_,_,_,e1,_,_,r1⟩:=trodAll_cons r0;obtain⟨_,_,d2,ds2,_,_,_,e2,_,_,r2⟩:=trodAll_cons r1;obtain⟨_,e3,_⟩:=trodAll_nil r2;exact⟨d0,d1,d2,by rw[e0,e1,e2,e3]⟩
 obtain⟨d0,d1,d2,rfl⟩:=hds;clear hA0 hval0;simp only[qaN]at hW' hlt;refine hcalls.mono fun e W' ⟨he,hb⟩=>?_
 subst he
 exact⟨_,rfl,_,_,_,[],_,[],hW',trodAll_mk1 (shut_bool Try.underlying4 true),
  (by rw[Try.params3]; exact zgu hb hA1 zw9 hlt),
  rfl,hb.frame _,fun h=>by cases h⟩
theorem factors_said:Rows.NetFactorsSaid:=
 OpenClaim.holds_of_wide 3 Try.f3 rfl rfl rfl rfl rfl rfl rfl ⟨rfl,rfl,rfl,rfl,rfl⟩ rfl rfl rfl rfl rfl zy7 Try.func3 zvf
  zyP (by unfold Func.isWrapper; first | (rw[if_pos (by decide +kernel)]; kernel_rfl)| (rw[if_neg (by decide +kernel)]; exact⟨rfl,rfl⟩))
  (fun os started H enc _=>zij os started H enc)
end Go.Proofs.Ytnfgibomhkbcpaa.S
namespace Go.Proofs.Ytnfgibomhkbcpaa
theorem factors_said:Rows.NetFactorsSaid:=S.factors_said
end Go.Proofs.Ytnfgibomhkbcpaa
