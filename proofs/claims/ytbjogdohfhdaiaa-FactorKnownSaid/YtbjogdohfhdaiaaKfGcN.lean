/-
 FactorKnown returns true for all arguments. Conditions: none.
-/
import Derived.Test.YtbjogdohfhdaiaaKfSa
import Derived.Test.YtbjogdohfhdaiaaKfFcN
import Derived.Test.YtbjogdohfhdaiaaKfJ4
set_option linter.unusedSimpArgs false
set_option linter.unusedVariables false
set_option maxRecDepth 100000
namespace Go.Proofs.Ytbjogdohfhdaiaa.S
open Go Go.Mx Go.Lx Go.Dc Go.ChangeShapes Go.WideShapes Go.ChangeAt Go.RowKit
theorem zhE{H:Type}{enc:TypeId×Value→H}{W W':World}(hb:Below W.heap.size W W'):∀ {ts:List TypeId} {vs:List Value} {ds:List (DataW H)} {ps:List MemPlace},
  DataW.TrodAll enc Try.prog W 0 (fun _=>true) true ts vs ds ps→(∀ t∈ts,Try.prog.readableRec t=true∧t<Try.prog.types.size)→(∀ x∈ps,x.block<W.heap.size)→
  DataW.TrodAll enc Try.prog W' 0 (fun b=>decide (b<W.heap.size)) true ts vs ds ps
 | [],vs,ds,ps,h,_,_=>by
  obtain⟨rfl,rfl,rfl⟩:=trodAll_nil h;exact trodAll_mk0
 | t :: ts,vs,ds,ps,h,ht,hlt=>by
  obtain⟨v,vs',d,ds',p,q,rfl,rfl,rfl,h1,h2⟩:=trodAll_cons h;obtain⟨r1,r2⟩:=ht t qau;exact⟨p,q,Below.trod laidOut r1 r2 h1 hb (fun x hx=>hlt x (qb6 _ hx)),zhE hb h2 (fun t h=>ht t (qan _ h)) (fun x hx=>hlt x (List.mem_append_right _ hx)),rfl⟩
theorem zrc:∀ t∈([]:List TypeId),(zdM Try.prog 8 t).isSome=true:=fun t ht=>by simp at ht
theorem zrp:∀ t∈([]:List TypeId),Try.prog.readableRec t=true∧t<Try.prog.types.size:=fun t ht=>by simp at ht
theorem zkA{H:Type}{enc:TypeId×Value→H}{w:World}{b0:Nat}{args:Array Value}{ds:List (DataW H)}{ps:List MemPlace}
  (hv:∀(j:Nat) t v,([]:List TypeId)[j]? = some t→args[j]? = some v→Value.okWide Try.prog w .any b0 t v) (hd:DataW.TrodAll enc Try.prog w 0 (fun _=>true) true ([]:List TypeId) args.toList ds ps):
  Calls Try.prog 6 args w fun e w'=>e=.returned (.bool true)∧Below w.heap.size w w':=by
 refine zsW (g:=8) hv hd zrc fun es hes=>?_
 obtain rfl:=Dc.ShAs.none hes;exact zfD (zkm)
theorem zjm(os:Os)(started:os.Started)(H:Type)(enc:TypeId×Value→H):
  ReturnsInHanded {} Try.checked os 6 .any (Rows.factorKnownSpec.pre6 enc Try.prog Try.f6 Rows.factorKnownRow.domain false) (Rows.factorKnownSpec.post enc Try.prog Try.f6 false true false false):=by
 refine returnsInHanded_of_change (C:=Try.checked) own started (by kernel_rfl) Try.func6
  (ChangeSpec.witness6 (enc:=enc) (C:=Try.checked) false ⟨#[],#[],[]⟩ 8 (by kernel_rfl) (by kernel_rfl) (by kernel_rfl) (by kernel_rfl)) ?_
 intro W base args ds gs before hval0 hW hcnd _;have hval:∀(j:Nat) t v,Try.f6.params[j]? = some t→args[j]? = some v→Value.okWide Try.prog W .any base t v:=hval0;have hlt:∀ x∈before,x.block<W.heap.size:=fun x hx=>hW.lt x hx
 have hW':=hW;obtain⟨p,q,hA0,hV,rfl,hfz,hnd⟩:=hW;have hA:DataW.TrodAll enc Try.prog W 0 (fun _=>true) true Try.f6.params.toList args.toList ds p:=hA0;rw[Try.params6]at hA hval;have hcalls:=zkA (fun j t v h1 h2=>hval j t v (by simp at h1) h2) hA;obtain⟨rfl,rfl⟩:=trodVars_none hV;have hA1:DataW.TrodAll enc Try.prog W 0 (fun _=>true) true ([]:List TypeId) args.toList ds p:=hA;have hds:ds=[]:=by
  obtain⟨_,e0,_⟩:=trodAll_nil hA1;exact e0
 subst hds;clear hA0 hval0;simp only[qa9]at hW' hlt;refine hcalls.mono fun e W' ⟨he,hb⟩=>?_
 subst he
 exact⟨_,rfl,_,_,_,[],_,[],hW',trodAll_mk1 (shut_bool Try.underlying4 true),
  (by rw[Try.params6]; exact zhE hb hA1 zrp hlt),
  rfl,hb.frame _,fun h=>by cases h⟩
theorem known_said:Rows.FactorKnownSaid:=
 OpenClaim.holds_of_wide 6 Try.f6 rfl rfl rfl rfl rfl rfl rfl ⟨rfl,rfl,rfl,rfl,rfl⟩ rfl rfl rfl rfl rfl zsi Try.func6 zqD
  zsn (by unfold Func.isWrapper; first | (rw[if_pos (by decide +kernel)]; kernel_rfl)| (rw[if_neg (by decide +kernel)]; exact⟨rfl,rfl⟩))
  (fun os started H enc _=>zjm os started H enc)
end Go.Proofs.Ytbjogdohfhdaiaa.S
namespace Go.Proofs.Ytbjogdohfhdaiaa
theorem known_said:Rows.FactorKnownSaid:=S.known_said
end Go.Proofs.Ytbjogdohfhdaiaa
