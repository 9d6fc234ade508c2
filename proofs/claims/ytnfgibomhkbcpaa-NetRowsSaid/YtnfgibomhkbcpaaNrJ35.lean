/-
 Drafts of nets as arguments. Conditions: none.
-/
import Derived.Test.YtnfgibomhkbcpaaNrSa
import Derived.Test.YtnfgibomhkbcpaaNrFn2
import Derived.Test.YtnfgibomhkbcpaaNrJ17
set_option linter.unusedSimpArgs false
set_option linter.unusedVariables false
set_option maxRecDepth 100000
namespace Go.Proofs.Ytnfgibomhkbcpaa.S
open Go Go.Mx Go.Lx Go.Dc Go.ChangeShapes Go.WideShapes Go.ChangeAt Go.RowKit
theorem zr1{xs:List Int}(h:okL (okI .u8) xs):∃ ns:List Nat,(∀ x∈ns,x≤255)∧xs=iL ns:=by
 obtain⟨ns,h1,h2⟩:=Dc.znX (l:=xs) (f:=fun n:Nat=>(n:Int)) (T:=fun n=>n≤255) fun y hy=>by
  have:=zoF (h.2 y hy);exact⟨y.toNat,by omega,by omega⟩
 exact⟨ns,h1,h2⟩
theorem zqW:Dec zah [.int .u8,.int .u8,.sl [.int .u8]] (fun x=>okI .u8 x.card∧okI .u8 x.parents∧okL (okI .u8) x.w):=
 Dec.iso (Dec.pair (Dec.int .u8) (Dec.pair (Dec.int .u8) (Dec.list (Dec.int .u8)))) (fun x:S_haruspexref05_Piece=>(x.card,x.parents,x.w)) (fun a=>⟨a.1,a.2.1,a.2.2⟩) (fun _=>rfl)
theorem zrM:Dec zc1 [.int .u8,.sl [.int .u8,.int .u8,.sl [.int .u8]],.sl [.int .u8]]
  (fun x=>okI .u8 x.grain∧okL (fun x=>okI .u8 x.card∧okI .u8 x.parents∧okL (okI .u8) x.w) x.nodes∧okL (okI .u8) x.order):=
 Dec.iso (Dec.pair (Dec.int .u8) (Dec.pair (Dec.list zqW) (Dec.list (Dec.int .u8)))) (fun x:S_haruspexref05_Draft=>(x.grain,x.nodes,x.order)) (fun a=>⟨a.1,a.2.1,a.2.2⟩) (fun _=>rfl)
theorem ztI{x:S_haruspexref05_Draft}(h:okI .u8 x.grain∧okL (fun x=>okI .u8 x.card∧okI .u8 x.parents∧okL (okI .u8) x.w) x.nodes∧okL (okI .u8) x.order):∃ d:DraftN,DraftOk d∧x=zcM d:=by
 obtain⟨grain,nodes,order⟩:=x;obtain⟨h1,h2,h3⟩:=h;have hg:=zoF h1;obtain⟨os,o1,o2⟩:=zr1 h3;obtain⟨ps,p1,p2⟩:=Dc.znX (l:=nodes) (f:=zoS) (T:=fun n=>n.card≤255) fun y hy=>by
  obtain⟨g1,g2,g3⟩:=h2.2 y hy;have k1:=zoF g1;have k2:=zoF g2;obtain⟨ws,w1,w2⟩:=zr1 g3;refine⟨⟨y.card.toNat,y.parents.toNat,ws⟩,by simp only; omega,?_⟩;obtain⟨a,b,c⟩:=y;simp only at k1 k2 w2;subst w2;simp only[zoS,qb2 k1.1,qb2 k2.1]
 refine⟨⟨grain.toNat,ps,os⟩,⟨by simp only at hg ⊢; omega,p1,o1⟩,?_⟩;simp only at o2 p2 hg;subst o2 p2;simp only[zcM,qb2 hg.1]
theorem zuL:zd2 Try.prog 8 28=some [.int .u8,.sl [.int .u8,.int .u8,.sl [.int .u8]],.sl [.int .u8]]:=by kernel_rfl
theorem zyX:zt7 Try.prog 28=true:=by kernel_rfl
theorem zx1:Try.prog.readableRec 28=true:=by kernel_rfl
theorem zt1{d:D}(h:ShA Try.prog 8 28 d):∃ dr:DraftN,DraftOk dr∧d=.agg (zc1.c false (zcM dr)):=by
 obtain⟨x,h1,h2⟩:=zrM.agg zyX zuL h;obtain⟨dr,h3,rfl⟩:=ztI h1;exact⟨dr,h3,h2⟩
theorem zgd{H:Type}{enc:TypeId×Value→H}{W W':World}(hb:Below W.heap.size W W'):∀ {ts:List TypeId} {vs:List Value} {ds:List (DataW H)} {ps:List MemPlace},
  DataW.TrodAll enc Try.prog W 0 (fun _=>true) true ts vs ds ps→(∀ t∈ts,Try.prog.readableRec t=true∧t<Try.prog.types.size)→(∀ x∈ps,x.block<W.heap.size)→
  DataW.TrodAll enc Try.prog W' 0 (fun b=>decide (b<W.heap.size)) true ts vs ds ps
 | [],vs,ds,ps,h,_,_=>by
  obtain⟨rfl,rfl,rfl⟩:=trodAll_nil h;exact trodAll_mk0
 | t :: ts,vs,ds,ps,h,ht,hlt=>by
  obtain⟨v,vs',d,ds',p,q,rfl,rfl,rfl,h1,h2⟩:=trodAll_cons h;obtain⟨r1,r2⟩:=ht t qar;exact⟨p,q,Below.trod laidOut r1 r2 h1 hb (fun x hx=>hlt x (qc2 _ hx)),zgd hb h2 (fun t h=>ht t (qak _ h)) (fun x hx=>hlt x (List.mem_append_right _ hx)),rfl⟩
theorem zxt:(232:Nat)<Try.prog.types.size:=of_decide_eq_true (by kernel_rfl)
theorem zxp:∀ t∈[28],(zd2 Try.prog 8 t).isSome=true:=by
 intro t ht;simp only[qaP,List.not_mem_nil,or_false]at ht;rcases ht with rfl
 rw[zuL]; rfl
theorem zwR:∀ t∈[28],Try.prog.readableRec t=true∧t<Try.prog.types.size:=by
 intro t ht;simp only[qaP,List.not_mem_nil,or_false]at ht;rcases ht with rfl
 exact⟨zx1,qca (m:=232) (by decide) zxt⟩
theorem zjq{H:Type}{enc:TypeId×Value→H}{w:World}{b0:Nat}{args:Array Value}{ds:List (DataW H)}{ps:List MemPlace}
  (hv:∀(j:Nat) t v,[28][j]? = some t→args[j]? = some v→Value.okWide Try.prog w .any b0 t v) (hd:DataW.TrodAll enc Try.prog w 0 (fun _=>true) true [28] args.toList ds ps):
  Calls Try.prog 12 args w fun e w'=>e=.returned (.bool true)∧Below w.heap.size w w':=by
 refine zzT (g:=8) hv hd zxp fun es hes=>?_
 obtain⟨x0,r,rfl,h0,hes⟩:=Dc.ShAs.inv hes;obtain rfl:=Dc.ShAs.none hes;obtain⟨a0,k0,rfl⟩:=zt1 h0;exact ziw (zkc k0)
theorem zis(os:Os)(started:os.Started)(H:Type)(enc:TypeId×Value→H):
  ReturnsInHanded {} Try.checked os 12 .any (Rows.netRowsSpec.pre6 enc Try.prog Try.f12 Rows.netRowsRow.domain false) (Rows.netRowsSpec.post enc Try.prog Try.f12 false true false false):=by
 refine returnsInHanded_of_change (C:=Try.checked) own started (by kernel_rfl) Try.func12
  (ChangeSpec.witness6 (enc:=enc) (C:=Try.checked) false ⟨#[],#[.agg #[.int .u8 0,.slice none 0 0,.slice none 0 0]],[]⟩ 8 (by kernel_rfl) (by kernel_rfl) (by kernel_rfl) (by kernel_rfl)) ?_
 intro W base args ds gs before hval0 hW hcnd _;have hval:∀(j:Nat) t v,Try.f12.params[j]? = some t→args[j]? = some v→Value.okWide Try.prog W .any base t v:=hval0;have hlt:∀ x∈before,x.block<W.heap.size:=fun x hx=>hW.lt x hx
 have hW':=hW;obtain⟨p,q,hA0,hV,rfl,hfz,hnd⟩:=hW;have hA:DataW.TrodAll enc Try.prog W 0 (fun _=>true) true Try.f12.params.toList args.toList ds p:=hA0;rw[Try.params12]at hA hval;have hcalls:=zjq (fun j t v h1 h2=>hval j t v (by simpa using h1) h2) hA;obtain⟨rfl,rfl⟩:=trodVars_none hV;have hA1:DataW.TrodAll enc Try.prog W 0 (fun _=>true) true [28] args.toList ds p:=hA;have hds:∃ d0:DataW H,ds=[d0]:=by
  obtain⟨_,_,d0,ds0,_,_,_,e0,_,_,r0⟩:=trodAll_cons hA1;obtain⟨_,e1,_⟩:=trodAll_nil r0;exact⟨d0,by rw[e0,e1]⟩
 obtain⟨d0,rfl⟩:=hds;clear hA0 hval0;simp only[qa2]at hW' hlt;refine hcalls.mono fun e W' ⟨he,hb⟩=>?_
 subst he
 exact⟨_,rfl,_,_,_,[],_,[],hW',trodAll_mk1 (shut_bool Try.underlying4 true),
  (by rw[Try.params12]; exact zgd hb hA1 zwR hlt),
  rfl,hb.frame _,fun h=>by cases h⟩
theorem netrows_said:Rows.NetRowsSaid:=
 OpenClaim.holds_of_wide 12 Try.f12 rfl rfl rfl rfl rfl rfl rfl ⟨rfl,rfl,rfl,rfl,rfl⟩ rfl rfl rfl rfl rfl zyJ Try.func12 zwj
  zy3 (by unfold Func.isWrapper; first | (rw[if_pos (by decide +kernel)]; kernel_rfl)| (rw[if_neg (by decide +kernel)]; exact⟨rfl,rfl⟩))
  (fun os started H enc _=>zis os started H enc)
end Go.Proofs.Ytnfgibomhkbcpaa.S
namespace Go.Proofs.Ytnfgibomhkbcpaa
theorem netrows_said:Rows.NetRowsSaid:=S.netrows_said
end Go.Proofs.Ytnfgibomhkbcpaa
