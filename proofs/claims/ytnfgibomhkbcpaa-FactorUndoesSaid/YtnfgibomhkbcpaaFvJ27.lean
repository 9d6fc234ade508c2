/-
 Factors and drafts of factors as arguments; arguments behind a call. Conditions: none.
-/
import Derived.Test.YtnfgibomhkbcpaaFvSa
import Derived.Test.YtnfgibomhkbcpaaFvFcV
import Derived.Test.YtnfgibomhkbcpaaFvJ11
set_option linter.unusedSimpArgs false
set_option linter.unusedVariables false
set_option maxRecDepth 100000
namespace Go.Proofs.Ytnfgibomhkbcpaa.S
open Go Go.Mx Go.Lx Go.Dc Go.ChangeShapes Go.WideShapes Go.ChangeAt Go.RowKit
theorem zfP{H:Type}{enc:TypeId×Value→H}{W W':World}(hb:Below W.heap.size W W'):∀ {ts:List TypeId} {vs:List Value} {ds:List (DataW H)} {ps:List MemPlace},
  DataW.TrodAll enc Try.prog W 0 (fun _=>true) true ts vs ds ps→(∀ t∈ts,Try.prog.readableRec t=true∧t<Try.prog.types.size)→(∀ x∈ps,x.block<W.heap.size)→
  DataW.TrodAll enc Try.prog W' 0 (fun b=>decide (b<W.heap.size)) true ts vs ds ps
 | [],vs,ds,ps,h,_,_=>by
  obtain⟨rfl,rfl,rfl⟩:=trodAll_nil h;exact trodAll_mk0
 | t :: ts,vs,ds,ps,h,ht,hlt=>by
  obtain⟨v,vs',d,ds',p,q,rfl,rfl,rfl,h1,h2⟩:=trodAll_cons h;obtain⟨r1,r2⟩:=ht t qao;exact⟨p,q,Below.trod laidOut r1 r2 h1 hb (fun x hx=>hlt x (qcb _ hx)),zfP hb h2 (fun t h=>ht t (qal _ h)) (fun x hx=>hlt x (List.mem_append_right _ hx)),rfl⟩
theorem zqO{xs:List Int}(h:okL (okI .u8) xs):∃ ns:List Nat,(∀ x∈ns,x≤255)∧xs=iL ns:=by
 obtain⟨ns,h1,h2⟩:=Dc.znU (l:=xs) (f:=fun n:Nat=>(n:Int)) (T:=fun n=>n≤255) fun y hy=>by
  have:=zqm (h.2 y hy);exact⟨y.toNat,by omega,by omega⟩
 exact⟨ns,h1,h2⟩
theorem zrh:Dec zcL [.int .u8,.sl [.int .u8],.bool] (fun x=>okI .u8 x.which∧okL (okI .u8) x.n∧True):=
 Dec.iso (Dec.pair (Dec.int .u8) (Dec.pair (Dec.list (Dec.int .u8)) Dec.bool)) (fun x:S_haruspexref03_Draft=>(x.which,x.n,x.large)) (fun a=>⟨a.1,a.2.1,a.2.2⟩) (fun _=>rfl)
theorem zqW:zdJ Try.prog 8 46=some [.int .u8,.sl [.int .u8],.bool]:=by kernel_rfl
theorem ztE:zpK Try.prog 46=true:=by kernel_rfl
theorem zql{d:D}(h:ShA Try.prog 8 46 d):∃ x:S_haruspexref03_Draft,DrOk x∧d=.agg (zcL.c false x):=by
 obtain⟨x,⟨h1,h2,_⟩,h4⟩:=zrh.agg ztE zqW h;have hw:=zqm h1;obtain⟨ns,_,h3⟩:=zqO h2;exact⟨x,⟨⟨x.which.toNat,by omega,by omega⟩,⟨ns,h3⟩⟩,h4⟩
theorem zs1:(232:Nat)<Try.prog.types.size:=of_decide_eq_true (by kernel_rfl)
theorem zqe{t:Nat}(ht:t≤232):t<Try.prog.types.size:=qb4 ht zs1
theorem zrP:Try.prog.readableRec 46=true:=by kernel_rfl
theorem zr6:∀ t∈[46,46],(zdJ Try.prog 8 t).isSome=true:=by
 intro t ht;simp only[qaB,List.not_mem_nil,or_false]at ht;rcases ht with rfl | rfl
 ·rw[zqW]; rfl
 rw[zqW]; rfl
theorem zrX:∀ t∈[46,46],Try.prog.readableRec t=true∧t<Try.prog.types.size:=by
 intro t ht;simp only[qaB,List.not_mem_nil,or_false]at ht;rcases ht with rfl | rfl
 ·exact⟨zrP,zqe (by decide)⟩
 exact⟨zrP,zqe (by decide)⟩
theorem zjD{H:Type}{enc:TypeId×Value→H}{w:World}{b0:Nat}{args:Array Value}{ds:List (DataW H)}{ps:List MemPlace}
  (hv:∀(j:Nat) t v,[46,46][j]? = some t→args[j]? = some v→Value.okWide Try.prog w .any b0 t v) (hd:DataW.TrodAll enc Try.prog w 0 (fun _=>true) true [46,46] args.toList ds ps):
  Calls Try.prog 10 args w fun e w'=>e=.returned (.bool true)∧Below w.heap.size w w':=by
 refine ztC (g:=8) hv hd zr6 fun es hes=>?_
 obtain⟨x0,r,rfl,h0,hes⟩:=Dc.ShAs.inv hes;obtain⟨x1,r,rfl,h1,hes⟩:=Dc.ShAs.inv hes;obtain rfl:=Dc.ShAs.none hes;obtain⟨a0,k0,rfl⟩:=zql h0;obtain⟨a1,k1,rfl⟩:=zql h1;exact ze6 (zjA zsm k0 k1)
theorem zi2(os:Os)(started:os.Started)(H:Type)(enc:TypeId×Value→H):
  ReturnsInHanded {} Try.checked os 10 .any (Rows.factorUndoesSpec.pre6 enc Try.prog Try.f10 Rows.factorUndoesRow.domain false) (Rows.factorUndoesSpec.post enc Try.prog Try.f10 false true false false):=by
 refine returnsInHanded_of_change (C:=Try.checked) own started (by kernel_rfl) Try.func10
  (ChangeSpec.witness6 (enc:=enc) (C:=Try.checked) false ⟨#[],#[.agg #[.int .u8 0,.slice none 0 0,.bool false],.agg #[.int .u8 0,.slice none 0 0,.bool false]],[]⟩ 8 (by kernel_rfl) (by kernel_rfl) (by kernel_rfl) (by kernel_rfl)) ?_
 intro W base args ds gs before hval0 hW hcnd _;have hval:∀(j:Nat) t v,Try.f10.params[j]? = some t→args[j]? = some v→Value.okWide Try.prog W .any base t v:=hval0;have hlt:∀ x∈before,x.block<W.heap.size:=fun x hx=>hW.lt x hx
 have hW':=hW;obtain⟨p,q,hA0,hV,rfl,hfz,hnd⟩:=hW;have hA:DataW.TrodAll enc Try.prog W 0 (fun _=>true) true Try.f10.params.toList args.toList ds p:=hA0;rw[Try.params10]at hA hval;have hcalls:=zjD (fun j t v h1 h2=>hval j t v (by simpa using h1) h2) hA;obtain⟨rfl,rfl⟩:=trodVars_none hV;have hA1:DataW.TrodAll enc Try.prog W 0 (fun _=>true) true [46,46] args.toList ds p:=hA;have hds:∃ d0 d1:DataW H,ds=[d0,d1]:=by
  obtain⟨_,_,d0,ds0,_,_,_,e0,_,_,r0⟩:=trodAll_cons hA1;obtain⟨_,_,d1,ds1,_,_,_,e1,_,_,r1⟩:=trodAll_cons r0;obtain⟨_,e2,_⟩:=trodAll_nil r1;exact⟨d0,d1,by rw[e0,e1,e2]⟩
 obtain⟨d0,d1,rfl⟩:=hds;clear hA0 hval0;simp only[qa9]at hW' hlt;refine hcalls.mono fun e W' ⟨he,hb⟩=>?_
 subst he
 exact⟨_,rfl,_,_,_,[],_,[],hW',trodAll_mk1 (shut_bool Try.underlying4 true),
  (by rw[Try.params10]; exact zfP hb hA1 zrX hlt),
  rfl,hb.frame _,fun h=>by cases h⟩
theorem undoes_said:Rows.FactorUndoesSaid:=
 OpenClaim.holds_of_wide 10 Try.f10 rfl rfl rfl rfl rfl rfl rfl ⟨rfl,rfl,rfl,rfl,rfl⟩ rfl rfl rfl rfl rfl zs6 Try.func10 zq6
  zth (by unfold Func.isWrapper; first | (rw[if_pos (by decide +kernel)]; kernel_rfl)| (rw[if_neg (by decide +kernel)]; exact⟨rfl,rfl⟩))
  (fun os started H enc _=>zi2 os started H enc)
end Go.Proofs.Ytnfgibomhkbcpaa.S
namespace Go.Proofs.Ytnfgibomhkbcpaa
theorem undoes_said:Rows.FactorUndoesSaid:=S.undoes_said
end Go.Proofs.Ytnfgibomhkbcpaa
