/-
 Factors and drafts of factors as arguments; arguments behind a call. Conditions: none.
-/
import Derived.Test.YtnfgibomhkbcpaaFrSa
import Derived.Test.YtnfgibomhkbcpaaFrJ8
import Derived.Test.YtnfgibomhkbcpaaFrFcR
set_option linter.unusedSimpArgs false
set_option linter.unusedVariables false
set_option maxRecDepth 100000
namespace Go.Proofs.Ytnfgibomhkbcpaa.S
open Go Go.Mx Go.Lx Go.Dc Go.ChangeShapes Go.WideShapes Go.ChangeAt Go.RowKit
theorem zgB{H:Type}{enc:TypeId×Value→H}{W W':World}(hb:Below W.heap.size W W'):∀ {ts:List TypeId} {vs:List Value} {ds:List (DataW H)} {ps:List MemPlace},
  DataW.TrodAll enc Try.prog W 0 (fun _=>true) true ts vs ds ps→(∀ t∈ts,Try.prog.readableRec t=true∧t<Try.prog.types.size)→(∀ x∈ps,x.block<W.heap.size)→
  DataW.TrodAll enc Try.prog W' 0 (fun b=>decide (b<W.heap.size)) true ts vs ds ps
 | [],vs,ds,ps,h,_,_=>by
  obtain⟨rfl,rfl,rfl⟩:=trodAll_nil h;exact trodAll_mk0
 | t :: ts,vs,ds,ps,h,ht,hlt=>by
  obtain⟨v,vs',d,ds',p,q,rfl,rfl,rfl,h1,h2⟩:=trodAll_cons h;obtain⟨r1,r2⟩:=ht t qay;exact⟨p,q,Below.trod laidOut r1 r2 h1 hb (fun x hx=>hlt x (qcf _ hx)),zgB hb h2 (fun t h=>ht t (qal _ h)) (fun x hx=>hlt x (List.mem_append_right _ hx)),rfl⟩
theorem zs4{xs:List Int}(h:okL (okI .u8) xs):∃ ns:List Nat,(∀ x∈ns,x≤255)∧xs=iL ns:=by
 obtain⟨ns,h1,h2⟩:=Dc.zpu (l:=xs) (f:=fun n:Nat=>(n:Int)) (T:=fun n=>n≤255) fun y hy=>by
  have:=zp6 (h.2 y hy);exact⟨y.toNat,by omega,by omega⟩
 exact⟨ns,h1,h2⟩
theorem zso:Dec zak [.sl [.int .i64],.sl [.int .i64],.sl [.int .i64]] (fun x=>okL (okI .i64) x.vars∧okL (okI .i64) x.cards∧okL (okI .i64) x.w):=
 Dec.iso (Dec.pair (Dec.list (Dec.int .i64)) (Dec.pair (Dec.list (Dec.int .i64)) (Dec.list (Dec.int .i64)))) (fun x:S_api_Factor=>(x.vars,x.cards,x.w)) (fun a=>⟨a.1,a.2.1,a.2.2⟩) (fun _=>rfl)
theorem zsd:Dec zc8 [.int .u8,.sl [.int .u8],.bool] (fun x=>okI .u8 x.which∧okL (okI .u8) x.n∧True):=
 Dec.iso (Dec.pair (Dec.int .u8) (Dec.pair (Dec.list (Dec.int .u8)) Dec.bool)) (fun x:S_haruspexref03_Draft=>(x.which,x.n,x.large)) (fun a=>⟨a.1,a.2.1,a.2.2⟩) (fun _=>rfl)
theorem zut:zdI Try.prog 8 43=some [.sl [.int .i64],.sl [.int .i64],.sl [.int .i64]]:=by kernel_rfl
theorem zvn:zon Try.prog 43=true:=by kernel_rfl
theorem zun:zdI Try.prog 8 46=some [.int .u8,.sl [.int .u8],.bool]:=by kernel_rfl
theorem zvr:zon Try.prog 46=true:=by kernel_rfl
theorem zsG:zdI Try.prog 8 3=some [.int .i64]:=by kernel_rfl
theorem zvA:zon Try.prog 3=false:=by kernel_rfl
theorem ztH:zdI Try.prog 8 5=some [.int .u8]:=by kernel_rfl
theorem zvx:zon Try.prog 5=false:=by kernel_rfl
theorem zt9{d:D}(h:ShA Try.prog 8 43 d):∃ x:S_api_Factor,d=.agg (zak.c false x):=by
 obtain⟨x,_,h2⟩:=zso.agg zvn zut h;exact⟨x,h2⟩
theorem ztV{d:D}(h:ShA Try.prog 8 46 d):∃ x:S_haruspexref03_Draft,DrOk x∧d=.agg (zc8.c false x):=by
 obtain⟨x,⟨h1,h2,_⟩,h4⟩:=zsd.agg zvr zun h;have hw:=zp6 h1;obtain⟨ns,_,h3⟩:=zs4 h2;exact⟨x,⟨⟨x.which.toNat,by omega,by omega⟩,⟨ns,h3⟩⟩,h4⟩
theorem zrT{d:D}(h:ShA Try.prog 8 3 d):∃ n:Int,okI .i64 n∧d=dI n:=by
 obtain⟨x,h1,h2⟩:=(Dec.int .i64).one zvA zsG h;exact⟨x,h1,by injection h2⟩
theorem zu8{d:D}(h:ShA Try.prog 8 5 d):∃ n:Nat,n<256∧d=dU8 (n:Int):=by
 obtain⟨x,h1,h2⟩:=(Dec.int .u8).one zvx ztH h;have:=zp6 h1;refine⟨x.toNat,by omega,?_⟩;rw[Int.toNat_of_nonneg this.1];injection h2
theorem zu2:(232:Nat)<Try.prog.types.size:=of_decide_eq_true (by kernel_rfl)
theorem zlG{t:Nat}(ht:t≤232):t<Try.prog.types.size:=Nat.lt_of_le_of_lt ht zu2
theorem zuE:Try.prog.readableRec 43=true:=by kernel_rfl
theorem zuK:Try.prog.readableRec 46=true:=by kernel_rfl
theorem ztA:Try.prog.readableRec 3=true:=by kernel_rfl
theorem zuV:Try.prog.readableRec 5=true:=by kernel_rfl
theorem ztE:∀ t∈[43,3,3,46,5],(zdI Try.prog 8 t).isSome=true:=by
 intro t ht;simp only[qaJ,List.not_mem_nil,or_false]at ht;rcases ht with rfl | rfl | rfl | rfl | rfl
 ·rw[zut]; rfl
 ·rw[zsG]; rfl
 ·rw[zsG]; rfl
 ·rw[zun]; rfl
 rw[ztH]; rfl
theorem zuu:∀ t∈[43,3,3,46,5],Try.prog.readableRec t=true∧t<Try.prog.types.size:=by
 intro t ht;simp only[qaJ,List.not_mem_nil,or_false]at ht;rcases ht with rfl | rfl | rfl | rfl | rfl
 ·exact⟨zuE,zlG (by decide)⟩
 ·exact⟨ztA,zlG (by decide)⟩
 ·exact⟨ztA,zlG (by decide)⟩
 ·exact⟨zuK,zlG (by decide)⟩
 exact⟨zuV,zlG (by decide)⟩
theorem zjo{H:Type}{enc:TypeId×Value→H}{w:World}{b0:Nat}{args:Array Value}{ds:List (DataW H)}{ps:List MemPlace}
  (hv:∀(j:Nat) t v,[43,3,3,46,5][j]? = some t→args[j]? = some v→Value.okWide Try.prog w .any b0 t v) (hd:DataW.TrodAll enc Try.prog w 0 (fun _=>true) true [43,3,3,46,5] args.toList ds ps):
  Calls Try.prog 5 args w fun e w'=>e=.returned (.bool true)∧Below w.heap.size w w':=by
 refine zvq (g:=8) hv hd ztE fun es hes=>?_
 obtain⟨x0,r,rfl,h0,hes⟩:=Dc.ShAs.inv hes;obtain⟨x1,r,rfl,h1,hes⟩:=Dc.ShAs.inv hes;obtain⟨x2,r,rfl,h2,hes⟩:=Dc.ShAs.inv hes;obtain⟨x3,r,rfl,h3,hes⟩:=Dc.ShAs.inv hes;obtain⟨x4,r,rfl,h4,hes⟩:=Dc.ShAs.inv hes;obtain rfl:=Dc.ShAs.none hes;obtain⟨a0,rfl⟩:=zt9 h0;obtain⟨a1,k1,rfl⟩:=zrT h1;obtain⟨a2,k2,rfl⟩:=zrT h2;obtain⟨a3,k3,rfl⟩:=ztV h3;obtain⟨a4,k4,rfl⟩:=zu8 h4;exact zfJ (zjw ztw a0 a1 a2 k3 a4)
theorem zio(os:Os)(started:os.Started)(H:Type)(enc:TypeId×Value→H):
  ReturnsInHanded {} Try.checked os 5 .any (Rows.factorRemovesSpec.pre6 enc Try.prog Try.f5 Rows.factorRemovesRow.domain false) (Rows.factorRemovesSpec.post enc Try.prog Try.f5 false true false false):=by
 refine returnsInHanded_of_change (C:=Try.checked) own started (by kernel_rfl) Try.func5
  (ChangeSpec.witness6 (enc:=enc) (C:=Try.checked) false ⟨#[],#[.agg #[.slice none 0 0,.slice none 0 0,.slice none 0 0],.int .i64 0,.int .i64 0,.agg #[.int .u8 0,.slice none 0 0,.bool false],.int .u8 0],[]⟩ 8 (by kernel_rfl) (by kernel_rfl) (by kernel_rfl) (by kernel_rfl)) ?_
 intro W base args ds gs before hval0 hW hcnd _;have hval:∀(j:Nat) t v,Try.f5.params[j]? = some t→args[j]? = some v→Value.okWide Try.prog W .any base t v:=hval0;have hlt:∀ x∈before,x.block<W.heap.size:=fun x hx=>hW.lt x hx
 have hW':=hW;obtain⟨p,q,hA0,hV,rfl,hfz,hnd⟩:=hW;have hA:DataW.TrodAll enc Try.prog W 0 (fun _=>true) true Try.f5.params.toList args.toList ds p:=hA0;rw[Try.params5]at hA hval;have hcalls:=zjo (fun j t v h1 h2=>hval j t v (by simpa using h1) h2) hA;obtain⟨rfl,rfl⟩:=trodVars_none hV;have hA1:DataW.TrodAll enc Try.prog W 0 (fun _=>true) true [43,3,3,46,5] args.toList ds p:=hA;have hds:∃ d0 d1 d2 d3 d4:DataW H,ds=[d0,d1,d2,d3,d4]:=by
  obtain⟨_,_,d0,ds0,_,_,_,e0,_,_,r0⟩:=trodAll_cons hA1;obtain⟨_,_,d1,ds1,_,_,_,e1,_,_,r1⟩:=trodAll_cons r0;obtain⟨_,_,d2,ds2,_,_,_,e2,_,_,r2⟩:=trodAll_cons r1;obtain⟨_,_,d3,ds3,_,_,_,e3,_,_,r3⟩:=trodAll_cons r2;obtain⟨_,_,d4,ds4,_,_,_,e4,_,_,r4⟩:=trodAll_cons r3;obtain⟨_,e5,_⟩:=trodAll_nil r4;exact⟨d0,d1,d2,d3,d4,by rw[e0,e1,e2,e3,e4,e5]⟩
 obtain⟨d0,d1,d2,d3,d4,rfl⟩:=hds;clear hA0 hval0;simp only[qa1]at hW' hlt;refine hcalls.mono fun e W' ⟨he,hb⟩=>?_
 subst he
 exact⟨_,rfl,_,_,_,[],_,[],hW',trodAll_mk1 (shut_bool Try.underlying4 true),
  (by rw[Try.params5]; exact zgB hb hA1 zuu hlt),
  rfl,hb.frame _,fun h=>by cases h⟩
theorem removes_said:Rows.FactorRemovesSaid:=
 OpenClaim.holds_of_wide 5 Try.f5 rfl rfl rfl rfl rfl rfl rfl ⟨rfl,rfl,rfl,rfl,rfl⟩ rfl rfl rfl rfl rfl zu9 Try.func5 zr5
  zuL (by unfold Func.isWrapper; first | (rw[if_pos (by decide +kernel)]; kernel_rfl)| (rw[if_neg (by decide +kernel)]; exact⟨rfl,rfl⟩))
  (fun os started H enc _=>zio os started H enc)
end Go.Proofs.Ytnfgibomhkbcpaa.S
namespace Go.Proofs.Ytnfgibomhkbcpaa
theorem removes_said:Rows.FactorRemovesSaid:=S.removes_said
end Go.Proofs.Ytnfgibomhkbcpaa
