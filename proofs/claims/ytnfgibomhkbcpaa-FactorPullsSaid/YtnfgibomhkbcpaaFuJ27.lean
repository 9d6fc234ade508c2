/-
 Factors and drafts of factors as arguments; arguments behind a call. Conditions: none.
-/
import Derived.Test.YtnfgibomhkbcpaaFuSa
import Derived.Test.YtnfgibomhkbcpaaFuFcU
import Derived.Test.YtnfgibomhkbcpaaFuJ11
set_option linter.unusedSimpArgs false
set_option linter.unusedVariables false
set_option maxRecDepth 100000
namespace Go.Proofs.Ytnfgibomhkbcpaa.S
open Go Go.Mx Go.Lx Go.Dc Go.ChangeShapes Go.WideShapes Go.ChangeAt Go.RowKit
theorem zf6{H:Type}{enc:TypeId×Value→H}{W W':World}(hb:Below W.heap.size W W'):∀ {ts:List TypeId} {vs:List Value} {ds:List (DataW H)} {ps:List MemPlace},
  DataW.TrodAll enc Try.prog W 0 (fun _=>true) true ts vs ds ps→(∀ t∈ts,Try.prog.readableRec t=true∧t<Try.prog.types.size)→(∀ x∈ps,x.block<W.heap.size)→
  DataW.TrodAll enc Try.prog W' 0 (fun b=>decide (b<W.heap.size)) true ts vs ds ps
 | [],vs,ds,ps,h,_,_=>by
  obtain⟨rfl,rfl,rfl⟩:=trodAll_nil h;exact trodAll_mk0
 | t :: ts,vs,ds,ps,h,ht,hlt=>by
  obtain⟨v,vs',d,ds',p,q,rfl,rfl,rfl,h1,h2⟩:=trodAll_cons h;obtain⟨r1,r2⟩:=ht t qap;exact⟨p,q,Below.trod laidOut r1 r2 h1 hb (fun x hx=>hlt x (qcq _ hx)),zf6 hb h2 (fun t h=>ht t (qak _ h)) (fun x hx=>hlt x (List.mem_append_right _ hx)),rfl⟩
theorem zr8{xs:List Int}(h:okL (okI .u8) xs):∃ ns:List Nat,(∀ x∈ns,x≤255)∧xs=iL ns:=by
 obtain⟨ns,h1,h2⟩:=Dc.zn5 (l:=xs) (f:=fun n:Nat=>(n:Int)) (T:=fun n=>n≤255) fun y hy=>by
  have:=zow (h.2 y hy);exact⟨y.toNat,by omega,by omega⟩
 exact⟨ns,h1,h2⟩
theorem zsi:Dec zcT [.int .u8,.sl [.int .u8],.bool] (fun x=>okI .u8 x.which∧okL (okI .u8) x.n∧True):=
 Dec.iso (Dec.pair (Dec.int .u8) (Dec.pair (Dec.list (Dec.int .u8)) Dec.bool)) (fun x:S_haruspexref03_Draft=>(x.which,x.n,x.large)) (fun a=>⟨a.1,a.2.1,a.2.2⟩) (fun _=>rfl)
theorem zsj:zdJ Try.prog 8 46=some [.int .u8,.sl [.int .u8],.bool]:=by kernel_rfl
theorem zu1:zpW Try.prog 46=true:=by kernel_rfl
theorem ztJ:zdJ Try.prog 8 5=some [.int .u8]:=by kernel_rfl
theorem zuZ:zpW Try.prog 5=false:=by kernel_rfl
theorem zqO{d:D}(h:ShA Try.prog 8 46 d):∃ x:S_haruspexref03_Draft,DrOk x∧d=.agg (zcT.c false x):=by
 obtain⟨x,⟨h1,h2,_⟩,h4⟩:=zsi.agg zu1 zsj h;have hw:=zow h1;obtain⟨ns,_,h3⟩:=zr8 h2;exact⟨x,⟨⟨x.which.toNat,by omega,by omega⟩,⟨ns,h3⟩⟩,h4⟩
theorem zuu{d:D}(h:ShA Try.prog 8 5 d):∃ n:Nat,n<256∧d=dU8 (n:Int):=by
 obtain⟨x,h1,h2⟩:=(Dec.int .u8).one zuZ ztJ h;have:=zow h1;refine⟨x.toNat,by omega,?_⟩;rw[Int.toNat_of_nonneg this.1];injection h2
theorem zt2:(232:Nat)<Try.prog.types.size:=of_decide_eq_true (by kernel_rfl)
theorem zog{t:Nat}(ht:t≤232):t<Try.prog.types.size:=qcf ht zt2
theorem ztq:Try.prog.readableRec 46=true:=by kernel_rfl
theorem zuf:Try.prog.readableRec 5=true:=by kernel_rfl
theorem ztL:∀ t∈[46,46,5],(zdJ Try.prog 8 t).isSome=true:=by
 intro t ht;simp only[qaD,List.not_mem_nil,or_false]at ht;rcases ht with rfl | rfl | rfl
 ·rw[zsj]; rfl
 ·rw[zsj]; rfl
 rw[ztJ]; rfl
theorem ztB:∀ t∈[46,46,5],Try.prog.readableRec t=true∧t<Try.prog.types.size:=by
 intro t ht;simp only[qaD,List.not_mem_nil,or_false]at ht;rcases ht with rfl | rfl | rfl
 ·exact⟨ztq,zog (by decide)⟩
 ·exact⟨ztq,zog (by decide)⟩
 exact⟨zuf,zog (by decide)⟩
theorem zla{H:Type}{enc:TypeId×Value→H}{w:World}{b0:Nat}{args:Array Value}{ds:List (DataW H)}{ps:List MemPlace}
  (hv:∀(j:Nat) t v,[46,46,5][j]? = some t→args[j]? = some v→Value.okWide Try.prog w .any b0 t v) (hd:DataW.TrodAll enc Try.prog w 0 (fun _=>true) true [46,46,5] args.toList ds ps):
  Calls Try.prog 9 args w fun e w'=>e=.returned (.bool true)∧Below w.heap.size w w':=by
 refine zuQ (g:=8) hv hd ztL fun es hes=>?_
 obtain⟨x0,r,rfl,h0,hes⟩:=Dc.ShAs.inv hes;obtain⟨x1,r,rfl,h1,hes⟩:=Dc.ShAs.inv hes;obtain⟨x2,r,rfl,h2,hes⟩:=Dc.ShAs.inv hes;obtain rfl:=Dc.ShAs.none hes;obtain⟨a0,k0,rfl⟩:=zqO h0;obtain⟨a1,k1,rfl⟩:=zqO h1;obtain⟨a2,k2,rfl⟩:=zuu h2;exact zfW (zlw zts k0 k1 k2)
theorem zkb(os:Os)(started:os.Started)(H:Type)(enc:TypeId×Value→H):
  ReturnsInHanded {} Try.checked os 9 .any (Rows.factorPullsSpec.pre6 enc Try.prog Try.f9 Rows.factorPullsRow.domain false) (Rows.factorPullsSpec.post enc Try.prog Try.f9 false true false false):=by
 refine returnsInHanded_of_change (C:=Try.checked) own started (by kernel_rfl) Try.func9
  (ChangeSpec.witness6 (enc:=enc) (C:=Try.checked) false ⟨#[],#[.agg #[.int .u8 0,.slice none 0 0,.bool false],.agg #[.int .u8 0,.slice none 0 0,.bool false],.int .u8 0],[]⟩ 8 (by kernel_rfl) (by kernel_rfl) (by kernel_rfl) (by kernel_rfl)) ?_
 intro W base args ds gs before hval0 hW hcnd _;have hval:∀(j:Nat) t v,Try.f9.params[j]? = some t→args[j]? = some v→Value.okWide Try.prog W .any base t v:=hval0;have hlt:∀ x∈before,x.block<W.heap.size:=fun x hx=>hW.lt x hx
 have hW':=hW;obtain⟨p,q,hA0,hV,rfl,hfz,hnd⟩:=hW;have hA:DataW.TrodAll enc Try.prog W 0 (fun _=>true) true Try.f9.params.toList args.toList ds p:=hA0;rw[Try.params9]at hA hval;have hcalls:=zla (fun j t v h1 h2=>hval j t v (by simpa using h1) h2) hA;obtain⟨rfl,rfl⟩:=trodVars_none hV;have hA1:DataW.TrodAll enc Try.prog W 0 (fun _=>true) true [46,46,5] args.toList ds p:=hA;have hds:∃ d0 d1 d2:DataW H,ds=[d0,d1,d2]:=by
  obtain⟨_,_,d0,ds0,_,_,_,e0,_,_,r0⟩:=trodAll_cons hA1;obtain⟨_,_,d1,ds1,_,_,_,e1,_,_,r1⟩:=trodAll_cons r0;obtain⟨_,_,d2,ds2,_,_,_,e2,_,_,r2⟩:=trodAll_cons r1;obtain⟨_,e3,_⟩:=trodAll_nil r2;exact⟨d0,d1,d2,by rw[e0,e1,e2,e3]⟩
 obtain⟨d0,d1,d2,rfl⟩:=hds;clear hA0 hval0;simp only[qba]at hW' hlt;refine hcalls.mono fun e W' ⟨he,hb⟩=>?_
 subst he
 exact⟨_,rfl,_,_,_,[],_,[],hW',trodAll_mk1 (shut_bool Try.underlying4 true),
  (by rw[Try.params9]; exact zf6 hb hA1 ztB hlt),
  rfl,hb.frame _,fun h=>by cases h⟩
theorem pulls_said:Rows.FactorPullsSaid:=
 OpenClaim.holds_of_wide 9 Try.f9 rfl rfl rfl rfl rfl rfl rfl ⟨rfl,rfl,rfl,rfl,rfl⟩ rfl rfl rfl rfl rfl zt6 Try.func9 zrI
  zug (by unfold Func.isWrapper; first | (rw[if_pos (by decide +kernel)]; kernel_rfl)| (rw[if_neg (by decide +kernel)]; exact⟨rfl,rfl⟩))
  (fun os started H enc _=>zkb os started H enc)
end Go.Proofs.Ytnfgibomhkbcpaa.S
namespace Go.Proofs.Ytnfgibomhkbcpaa
theorem pulls_said:Rows.FactorPullsSaid:=S.pulls_said
end Go.Proofs.Ytnfgibomhkbcpaa
