/-
 Factors and drafts of factors as arguments; arguments behind a call. Conditions: none.
-/
import Derived.Test.YtnfgibomhkbcpaaFkSa
import Derived.Test.YtnfgibomhkbcpaaFkFcK
import Derived.Test.YtnfgibomhkbcpaaFkJ9
set_option linter.unusedSimpArgs false
set_option linter.unusedVariables false
set_option maxRecDepth 100000
namespace Go.Proofs.Ytnfgibomhkbcpaa.S
open Go Go.Mx Go.Lx Go.Dc Go.ChangeShapes Go.WideShapes Go.ChangeAt Go.RowKit
theorem zge{H:Type}{enc:TypeId×Value→H}{W W':World}(hb:Below W.heap.size W W'):∀ {ts:List TypeId} {vs:List Value} {ds:List (DataW H)} {ps:List MemPlace},
  DataW.TrodAll enc Try.prog W 0 (fun _=>true) true ts vs ds ps→(∀ t∈ts,Try.prog.readableRec t=true∧t<Try.prog.types.size)→(∀ x∈ps,x.block<W.heap.size)→
  DataW.TrodAll enc Try.prog W' 0 (fun b=>decide (b<W.heap.size)) true ts vs ds ps
 | [],vs,ds,ps,h,_,_=>by
  obtain⟨rfl,rfl,rfl⟩:=trodAll_nil h;exact trodAll_mk0
 | t :: ts,vs,ds,ps,h,ht,hlt=>by
  obtain⟨v,vs',d,ds',p,q,rfl,rfl,rfl,h1,h2⟩:=trodAll_cons h;obtain⟨r1,r2⟩:=ht t qaB;exact⟨p,q,Below.trod laidOut r1 r2 h1 hb (fun x hx=>hlt x (qb8 _ hx)),zge hb h2 (fun t h=>ht t (qao _ h)) (fun x hx=>hlt x (List.mem_append_right _ hx)),rfl⟩
theorem zrB{xs:List Int}(h:okL (okI .u8) xs):∃ ns:List Nat,(∀ x∈ns,x≤255)∧xs=iL ns:=by
 obtain⟨ns,h1,h2⟩:=Dc.zph (l:=xs) (f:=fun n:Nat=>(n:Int)) (T:=fun n=>n≤255) fun y hy=>by
  have:=zpu (h.2 y hy);exact⟨y.toNat,by omega,by omega⟩
 exact⟨ns,h1,h2⟩
theorem zsl:Dec zak [.sl [.int .i64],.sl [.int .i64],.sl [.int .i64]] (fun x=>okL (okI .i64) x.vars∧okL (okI .i64) x.cards∧okL (okI .i64) x.w):=
 Dec.iso (Dec.pair (Dec.list (Dec.int .i64)) (Dec.pair (Dec.list (Dec.int .i64)) (Dec.list (Dec.int .i64)))) (fun x:S_api_Factor=>(x.vars,x.cards,x.w)) (fun a=>⟨a.1,a.2.1,a.2.2⟩) (fun _=>rfl)
theorem zru:Dec zcU [.int .u8,.sl [.int .u8],.bool] (fun x=>okI .u8 x.which∧okL (okI .u8) x.n∧True):=
 Dec.iso (Dec.pair (Dec.int .u8) (Dec.pair (Dec.list (Dec.int .u8)) Dec.bool)) (fun x:S_haruspexref03_Draft=>(x.which,x.n,x.large)) (fun a=>⟨a.1,a.2.1,a.2.2⟩) (fun _=>rfl)
theorem ztM:zdr Try.prog 8 43=some [.sl [.int .i64],.sl [.int .i64],.sl [.int .i64]]:=by kernel_rfl
theorem zuG:znP Try.prog 43=true:=by kernel_rfl
theorem zs0:zdr Try.prog 8 46=some [.int .u8,.sl [.int .u8],.bool]:=by kernel_rfl
theorem zuP:znP Try.prog 46=true:=by kernel_rfl
theorem zsR:zdr Try.prog 8 5=some [.int .u8]:=by kernel_rfl
theorem zuM:znP Try.prog 5=false:=by kernel_rfl
theorem zs8:zdr Try.prog 8 41=some [.sl [.int .i64]]:=by kernel_rfl
theorem zuQ:znP Try.prog 41=false:=by kernel_rfl
theorem ztI{d:D}(h:ShA Try.prog 8 43 d):∃ x:S_api_Factor,d=.agg (zak.c false x):=by
 obtain⟨x,_,h2⟩:=zsl.agg zuG ztM h;exact⟨x,h2⟩
theorem zsS{d:D}(h:ShA Try.prog 8 46 d):∃ x:S_haruspexref03_Draft,DrOk x∧d=.agg (zcU.c false x):=by
 obtain⟨x,⟨h1,h2,_⟩,h4⟩:=zru.agg zuP zs0 h;have hw:=zpu h1;obtain⟨ns,_,h3⟩:=zrB h2;exact⟨x,⟨⟨x.which.toNat,by omega,by omega⟩,⟨ns,h3⟩⟩,h4⟩
theorem zuw{d:D}(h:ShA Try.prog 8 5 d):∃ n:Nat,n<256∧d=dU8 (n:Int):=by
 obtain⟨x,h1,h2⟩:=(Dec.int .u8).one zuM zsR h;have:=zpu h1;refine⟨x.toNat,by omega,?_⟩;rw[Int.toNat_of_nonneg this.1];injection h2
theorem zsn{d:D}(h:ShA Try.prog 8 41 d):∃ xs:List Int,d=fzE false (eI .i64) xs:=by
 obtain⟨x,h1,h2⟩:=(Dec.list (Dec.int .i64)).one zuQ zs8 h;exact⟨x,by injection h2⟩
theorem zt2:(232:Nat)<Try.prog.types.size:=of_decide_eq_true (by kernel_rfl)
theorem zmB{t:Nat}(ht:t≤232):t<Try.prog.types.size:=Nat.lt_of_le_of_lt ht zt2
theorem zt6:Try.prog.readableRec 43=true:=by kernel_rfl
theorem zt5:Try.prog.readableRec 46=true:=by kernel_rfl
theorem zuc:Try.prog.readableRec 5=true:=by kernel_rfl
theorem zt3:Try.prog.readableRec 41=true:=by kernel_rfl
theorem ztD:∀ t∈[43,41,46,5],(zdr Try.prog 8 t).isSome=true:=by
 intro t ht;simp only[qaL,List.not_mem_nil,or_false]at ht;rcases ht with rfl | rfl | rfl | rfl
 ·rw[ztM]; rfl
 ·rw[zs8]; rfl
 ·rw[zs0]; rfl
 rw[zsR]; rfl
theorem zsU:∀ t∈[43,41,46,5],Try.prog.readableRec t=true∧t<Try.prog.types.size:=by
 intro t ht;simp only[qaL,List.not_mem_nil,or_false]at ht;rcases ht with rfl | rfl | rfl | rfl
 ·exact⟨zt6,zmB (by decide)⟩
 ·exact⟨zt3,zmB (by decide)⟩
 ·exact⟨zt5,zmB (by decide)⟩
 exact⟨zuc,zmB (by decide)⟩
theorem zln{H:Type}{enc:TypeId×Value→H}{w:World}{b0:Nat}{args:Array Value}{ds:List (DataW H)}{ps:List MemPlace}
  (hv:∀(j:Nat) t v,[43,41,46,5][j]? = some t→args[j]? = some v→Value.okWide Try.prog w .any b0 t v) (hd:DataW.TrodAll enc Try.prog w 0 (fun _=>true) true [43,41,46,5] args.toList ds ps):
  Calls Try.prog 6 args w fun e w'=>e=.returned (.bool true)∧Below w.heap.size w w':=by
 refine zuF (g:=8) hv hd ztD fun es hes=>?_
 obtain⟨x0,r,rfl,h0,hes⟩:=Dc.ShAs.inv hes;obtain⟨x1,r,rfl,h1,hes⟩:=Dc.ShAs.inv hes;obtain⟨x2,r,rfl,h2,hes⟩:=Dc.ShAs.inv hes;obtain⟨x3,r,rfl,h3,hes⟩:=Dc.ShAs.inv hes;obtain rfl:=Dc.ShAs.none hes;obtain⟨a0,rfl⟩:=ztI h0;obtain⟨a1,rfl⟩:=zsn h1;obtain⟨a2,k2,rfl⟩:=zsS h2;obtain⟨a3,k3,rfl⟩:=zuw h3;exact zgd (zlU ztf a0 a1 k2 a3)
theorem zkc(os:Os)(started:os.Started)(H:Type)(enc:TypeId×Value→H):
  ReturnsInHanded {} Try.checked os 6 .any (Rows.factorKeepsSpec.pre6 enc Try.prog Try.f6 Rows.factorKeepsRow.domain false) (Rows.factorKeepsSpec.post enc Try.prog Try.f6 false true false false):=by
 refine returnsInHanded_of_change (C:=Try.checked) own started (by kernel_rfl) Try.func6
  (ChangeSpec.witness6 (enc:=enc) (C:=Try.checked) false ⟨#[],#[.agg #[.slice none 0 0,.slice none 0 0,.slice none 0 0],.slice none 0 0,.agg #[.int .u8 0,.slice none 0 0,.bool false],.int .u8 0],[]⟩ 8 (by kernel_rfl) (by kernel_rfl) (by kernel_rfl) (by kernel_rfl)) ?_
 intro W base args ds gs before hval0 hW hcnd _;have hval:∀(j:Nat) t v,Try.f6.params[j]? = some t→args[j]? = some v→Value.okWide Try.prog W .any base t v:=hval0;have hlt:∀ x∈before,x.block<W.heap.size:=fun x hx=>hW.lt x hx
 have hW':=hW;obtain⟨p,q,hA0,hV,rfl,hfz,hnd⟩:=hW;have hA:DataW.TrodAll enc Try.prog W 0 (fun _=>true) true Try.f6.params.toList args.toList ds p:=hA0;rw[Try.params6]at hA hval;have hcalls:=zln (fun j t v h1 h2=>hval j t v (by simpa using h1) h2) hA;obtain⟨rfl,rfl⟩:=trodVars_none hV;have hA1:DataW.TrodAll enc Try.prog W 0 (fun _=>true) true [43,41,46,5] args.toList ds p:=hA;have hds:∃ d0 d1 d2 d3:DataW H,ds=[d0,d1,d2,d3]:=by
  obtain⟨_,_,d0,ds0,_,_,_,e0,_,_,r0⟩:=trodAll_cons hA1;obtain⟨_,_,d1,ds1,_,_,_,e1,_,_,r1⟩:=trodAll_cons r0;obtain⟨_,_,d2,ds2,_,_,_,e2,_,_,r2⟩:=trodAll_cons r1;obtain⟨_,_,d3,ds3,_,_,_,e3,_,_,r3⟩:=trodAll_cons r2;obtain⟨_,e4,_⟩:=trodAll_nil r3;exact⟨d0,d1,d2,d3,by rw[e0,e1,e2,e3,e4]⟩
 obtain⟨d0,d1,d2,d3,rfl⟩:=hds;clear hA0 hval0;simp only[qa8]at hW' hlt;refine hcalls.mono fun e W' ⟨he,hb⟩=>?_
 subst he
 exact⟨_,rfl,_,_,_,[],_,[],hW',trodAll_mk1 (shut_bool Try.underlying4 true),
  (by rw[Try.params6]; exact zge hb hA1 zsU hlt),
  rfl,hb.frame _,fun h=>by cases h⟩
theorem keeps_said:Rows.FactorKeepsSaid:=
 OpenClaim.holds_of_wide 6 Try.f6 rfl rfl rfl rfl rfl rfl rfl ⟨rfl,rfl,rfl,rfl,rfl⟩ rfl rfl rfl rfl rfl zum Try.func6 zsf
  zug (by unfold Func.isWrapper; first | (rw[if_pos (by decide +kernel)]; kernel_rfl)| (rw[if_neg (by decide +kernel)]; exact⟨rfl,rfl⟩))
  (fun os started H enc _=>zkc os started H enc)
end Go.Proofs.Ytnfgibomhkbcpaa.S
namespace Go.Proofs.Ytnfgibomhkbcpaa
theorem keeps_said:Rows.FactorKeepsSaid:=S.keeps_said
end Go.Proofs.Ytnfgibomhkbcpaa
