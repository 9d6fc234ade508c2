/-
 Drafts of nets as arguments. Conditions: none.
-/
import Derived.Test.YtnfgibomhkbcpaaNtSa
import Derived.Test.YtnfgibomhkbcpaaNtFn3
import Derived.Test.YtnfgibomhkbcpaaNtPn9
set_option linter.unusedSimpArgs false
set_option linter.unusedVariables false
set_option maxRecDepth 100000
namespace Go.Proofs.Ytnfgibomhkbcpaa.S
open Go Go.Mx Go.Lx Go.Dc Go.ChangeShapes Go.WideShapes Go.ChangeAt Go.RowKit
theorem ztf{xs:List Int}(h:okL (okI .u8) xs):∃ ns:List Nat,(∀ x∈ns,x≤255)∧xs=iL ns:=by
 obtain⟨ns,h1,h2⟩:=Dc.zoW (l:=xs) (f:=fun n:Nat=>(n:Int)) (T:=fun n=>n≤255) fun y hy=>by
  have:=zor (h.2 y hy);exact⟨y.toNat,by omega,by omega⟩
 exact⟨ns,h1,h2⟩
theorem zsC:Dec zaj [.int .u8,.int .u8,.sl [.int .u8]] (fun x=>okI .u8 x.zaE∧okI .u8 x.parents∧okL (okI .u8) x.w):=
 Dec.iso (Dec.pair (Dec.int .u8) (Dec.pair (Dec.int .u8) (Dec.list (Dec.int .u8)))) (fun x:S_haruspexref05_Piece=>(x.zaE,x.parents,x.w)) (fun a=>⟨a.1,a.2.1,a.2.2⟩) (fun _=>rfl)
theorem zrH:Dec zde [.int .u8,.sl [.int .u8,.int .u8,.sl [.int .u8]],.sl [.int .u8]]
  (fun x=>okI .u8 x.grain∧okL (fun x=>okI .u8 x.zaE∧okI .u8 x.parents∧okL (okI .u8) x.w) x.nodes∧okL (okI .u8) x.order):=
 Dec.iso (Dec.pair (Dec.int .u8) (Dec.pair (Dec.list zsC) (Dec.list (Dec.int .u8)))) (fun x:S_haruspexref05_Draft=>(x.grain,x.nodes,x.order)) (fun a=>⟨a.1,a.2.1,a.2.2⟩) (fun _=>rfl)
theorem zuI{x:S_haruspexref05_Draft}(h:okI .u8 x.grain∧okL (fun x=>okI .u8 x.zaE∧okI .u8 x.parents∧okL (okI .u8) x.w) x.nodes∧okL (okI .u8) x.order):∃ d:DraftN,DraftOk d∧x=zcY d:=by
 obtain⟨grain,nodes,order⟩:=x;obtain⟨h1,h2,h3⟩:=h;have hg:=zor h1;obtain⟨os,o1,o2⟩:=ztf h3;obtain⟨ps,p1,p2⟩:=Dc.zoW (l:=nodes) (f:=zps) (T:=fun n=>n.zaE≤255) fun y hy=>by
  obtain⟨g1,g2,g3⟩:=h2.2 y hy;have k1:=zor g1;have k2:=zor g2;obtain⟨ws,w1,w2⟩:=ztf g3;refine⟨⟨y.zaE.toNat,y.parents.toNat,ws⟩,by simp only; omega,?_⟩;obtain⟨a,b,c⟩:=y;simp only at k1 k2 w2;subst w2;simp only[zps,qb4 k1.1,qb4 k2.1]
 refine⟨⟨grain.toNat,ps,os⟩,⟨by simp only at hg ⊢; omega,p1,o1⟩,?_⟩;simp only at o2 p2 hg;subst o2 p2;simp only[zcY,qb4 hg.1]
theorem zvL:zee Try.prog 8 28=some [.int .u8,.sl [.int .u8,.int .u8,.sl [.int .u8]],.sl [.int .u8]]:=by kernel_rfl
theorem zAr:zuS Try.prog 28=true:=by kernel_rfl
theorem zzp:Try.prog.readableRec 28=true:=by kernel_rfl
theorem zuo{d:D}(h:ShA Try.prog 8 28 d):∃ dr:DraftN,DraftOk dr∧d=.agg (zde.c false (zcY dr)):=by
 obtain⟨x,h1,h2⟩:=zrH.agg zAr zvL h;obtain⟨dr,h3,rfl⟩:=zuI h1;exact⟨dr,h3,h2⟩
theorem zgH{H:Type}{enc:TypeId×Value→H}{W W':World}(hb:Below W.heap.size W W'):∀ {ts:List TypeId} {vs:List Value} {ds:List (DataW H)} {ps:List MemPlace},
  DataW.TrodAll enc Try.prog W 0 (fun _=>true) true ts vs ds ps→(∀ t∈ts,Try.prog.readableRec t=true∧t<Try.prog.types.size)→(∀ x∈ps,x.block<W.heap.size)→
  DataW.TrodAll enc Try.prog W' 0 (fun b=>decide (b<W.heap.size)) true ts vs ds ps
 | [],vs,ds,ps,h,_,_=>by
  obtain⟨rfl,rfl,rfl⟩:=trodAll_nil h;exact trodAll_mk0
 | t :: ts,vs,ds,ps,h,ht,hlt=>by
  obtain⟨v,vs',d,ds',p,q,rfl,rfl,rfl,h1,h2⟩:=trodAll_cons h;obtain⟨r1,r2⟩:=ht t qan;exact⟨p,q,Below.trod laidOut r1 r2 h1 hb (fun x hx=>hlt x (qbP _ hx)),zgH hb h2 (fun t h=>ht t (qaj _ h)) (fun x hx=>hlt x (List.mem_append_right _ hx)),rfl⟩
theorem zyB:(232:Nat)<Try.prog.types.size:=of_decide_eq_true (by kernel_rfl)
theorem zyL:∀ t∈[28],(zee Try.prog 8 t).isSome=true:=by
 intro t ht;simp only[qaK,List.not_mem_nil,or_false]at ht;rcases ht with rfl
 rw[zvL]; rfl
theorem zyW:∀ t∈[28],Try.prog.readableRec t=true∧t<Try.prog.types.size:=by
 intro t ht;simp only[qaK,List.not_mem_nil,or_false]at ht;rcases ht with rfl
 exact⟨zzp,qca (m:=232) (by decide) zyB⟩
theorem zlx{H:Type}{enc:TypeId×Value→H}{w:World}{b0:Nat}{args:Array Value}{ds:List (DataW H)}{ps:List MemPlace}
  (hv:∀(j:Nat) t v,[28][j]? = some t→args[j]? = some v→Value.okWide Try.prog w .any b0 t v) (hd:DataW.TrodAll enc Try.prog w 0 (fun _=>true) true [28] args.toList ds ps):
  Calls Try.prog 13 args w fun e w'=>e=.returned (.bool true)∧Below w.heap.size w w':=by
 refine zB6 (g:=8) hv hd zyL fun es hes=>?_
 obtain⟨x0,r,rfl,h0,hes⟩:=Dc.ShAs.inv hes;obtain rfl:=Dc.ShAs.none hes;obtain⟨a0,k0,rfl⟩:=zuo h0;exact zhv (zl6 k0)
theorem zkg(os:Os)(started:os.Started)(H:Type)(enc:TypeId×Value→H):
  ReturnsInHanded {} Try.checked os 13 .any (Rows.netTotalsSpec.pre6 enc Try.prog Try.f13 Rows.netTotalsRow.domain false) (Rows.netTotalsSpec.post enc Try.prog Try.f13 false true false false):=by
 refine returnsInHanded_of_change (C:=Try.checked) own started (by kernel_rfl) Try.func13
  (ChangeSpec.witness6 (enc:=enc) (C:=Try.checked) false ⟨#[],#[.agg #[.int .u8 0,.slice none 0 0,.slice none 0 0]],[]⟩ 8 (by kernel_rfl) (by kernel_rfl) (by kernel_rfl) (by kernel_rfl)) ?_
 intro W base args ds gs before hval0 hW hcnd _;have hval:∀(j:Nat) t v,Try.f13.params[j]? = some t→args[j]? = some v→Value.okWide Try.prog W .any base t v:=hval0;have hlt:∀ x∈before,x.block<W.heap.size:=fun x hx=>hW.lt x hx
 have hW':=hW;obtain⟨p,q,hA0,hV,rfl,hfz,hnd⟩:=hW;have hA:DataW.TrodAll enc Try.prog W 0 (fun _=>true) true Try.f13.params.toList args.toList ds p:=hA0;rw[Try.params13]at hA hval;have hcalls:=zlx (fun j t v h1 h2=>hval j t v (by simpa using h1) h2) hA;obtain⟨rfl,rfl⟩:=trodVars_none hV;have hA1:DataW.TrodAll enc Try.prog W 0 (fun _=>true) true [28] args.toList ds p:=hA;have hds:∃ d0:DataW H,ds=[d0]:=by
  obtain⟨_,_,d0,ds0,_,_,_,e0,_,_,r0⟩:=trodAll_cons hA1;obtain⟨_,e1,_⟩:=trodAll_nil r0;exact⟨d0,by rw[e0,e1]⟩
 obtain⟨d0,rfl⟩:=hds;clear hA0 hval0;simp only[qaT]at hW' hlt;refine hcalls.mono fun e W' ⟨he,hb⟩=>?_
 subst he
 exact⟨_,rfl,_,_,_,[],_,[],hW',trodAll_mk1 (shut_bool Try.underlying4 true),
  (by rw[Try.params13]; exact zgH hb hA1 zyW hlt),
  rfl,hb.frame _,fun h=>by cases h⟩
theorem totals_said:Rows.NetTotalsSaid:=
 OpenClaim.holds_of_wide 13 Try.f13 rfl rfl rfl rfl rfl rfl rfl ⟨rfl,rfl,rfl,rfl,rfl⟩ rfl rfl rfl rfl rfl zzY Try.func13 zxj
  zzU (by unfold Func.isWrapper; first | (rw[if_pos (by decide +kernel)]; kernel_rfl)| (rw[if_neg (by decide +kernel)]; exact⟨rfl,rfl⟩))
  (fun os started H enc _=>zkg os started H enc)
end Go.Proofs.Ytnfgibomhkbcpaa.S
namespace Go.Proofs.Ytnfgibomhkbcpaa
theorem totals_said:Rows.NetTotalsSaid:=S.totals_said
end Go.Proofs.Ytnfgibomhkbcpaa
