/-
 Plain laws: the closed check of the elimination laws is true. Conditions: none.
-/
import Derived.Test.YtbjogdohfhdaiaaEkQ7
import Derived.Test.YtbjogdohfhdaiaaEkSa
import Derived.Test.YtbjogdohfhdaiaaEkFcE
set_option linter.unusedSimpArgs false
set_option linter.unusedVariables false
set_option maxRecDepth 100000
set_option maxHeartbeats 4000000
set_option maxHeartbeats 40000000
namespace Go.Dc
open Go Go.Mx Go.Lx
theorem zss:zfb 200=some true:=by
 conv=>lhs; cbv
def zmh:S_api_Net:=⟨4,[⟨2,[],[[1,3]]⟩,⟨2,[0],[[4,0],[2,2]]⟩,⟨2,[1],[[1,3],[4,0]]⟩]⟩
theorem zr1:zdS=some zmh:=by
 conv=>lhs; cbv
 try rfl
theorem kn1:zai 200 zmh [-1,-1,-1] 1 [2,0]=some ([⟨5,8⟩,⟨3,8⟩],0):=by
 conv=>lhs; cbv
 try rfl
theorem kn2:zai 200 zmh [-1,-1,1] 0 [1,2]=some ([⟨2,5⟩,⟨3,5⟩],0):=by
 conv=>lhs; cbv
 try rfl
theorem kn3:zai 200 zmh [-1,1,-1] 1 [0,2]=some ([⟨0,1⟩,⟨1,1⟩],0):=by
 conv=>lhs; cbv
 try rfl
theorem kn4:zap 200 zmh [-1,-1,0] 1=some (7,0):=by
 conv=>lhs; cbv
 try rfl
theorem kn5:zap 200 zmh [-1,0,-1] 2=some (4,0):=by
 conv=>lhs; cbv
 try rfl
theorem kn6:zap 200 zmh [-1,0,-1] 1=some (0,0):=by
 conv=>lhs; cbv
 try rfl
theorem kn7:zai 200 zmh [-1,1,1] 0 [1,2]=some ([],7):=by
 conv=>lhs; cbv
 try rfl
theorem kn8:zcn 200 zmh [-1,1,1] 1 [0,2]=some ([],7):=by
 conv=>lhs; cbv
 try rfl
theorem kn9:zai 200 zmh [-1,-1,-1] 1 [0]=some ([],2):=by
 conv=>lhs; cbv
 try rfl
theorem ztY:zai 200 zmh [-1,-1,-1] 1 [0,1]=some ([],2):=by
 conv=>lhs; cbv
 try rfl
theorem zt8:zai 200 zmh [-1,-1,-1] 1 [0,0]=some ([],2):=by
 conv=>lhs; cbv
 try rfl
theorem ztX:zaW zmh [-1,-1,-1] 3 [0,1,2]=some (0,0,2):=by
 conv=>lhs; cbv
 try rfl
theorem ztU:zap 200 zmh [-1,-1,2] 1=some (0,2):=by
 conv=>lhs; cbv
 try rfl
theorem zt0:zap 200 zmh [-1,-1,-1] (-1)=some (0,2):=by
 conv=>lhs; cbv
 try rfl
theorem zt3:zaW ⟨0,[]⟩ [] 9 []=some (0,0,50):=by
 conv=>lhs; cbv
 try rfl
theorem zua:zaW ⟨60,[⟨1,[],[[60]]⟩]⟩ [0] 0 []=some (0,1,0):=by
 conv=>lhs; cbv
 try rfl
def zqQ:List S_api_Node:=List.replicate 8 ⟨2,[],[[20,40]]⟩
theorem zt2:zbr (8 - 0+2:Int).toNat 0 []=some zqQ:=by decide +kernel
theorem zt1:zai 200 ⟨60,zqQ⟩ [0,0,0,0,0,0,0,-1] 7 [0,1,2,3,4,5,6]=some ([⟨1,3⟩,⟨2,3⟩],0):=by
 conv=>lhs; cbv
 try rfl
def ztE:S_api_Net:=⟨2,[⟨2,[],[[1,1]]⟩,⟨2,[],[[1,1]]⟩,⟨2,[0,1],[[2,0],[1,1],[1,1],[0,2]]⟩]⟩
theorem ztZ:zap 200 ztE [-1,-1,0] 0=some (7,0):=by
 conv=>lhs; cbv
 try rfl
theorem zt6:zap 200 ztE [-1,-1,-1] 0=some (1,0):=by
 conv=>lhs; cbv
 try rfl
theorem is1:zcX 200 [⟨5,8⟩,⟨3,8⟩] 0 5 3 8=some true:=by
 conv=>lhs; cbv
 try rfl
theorem is2:zcX 200 [⟨2,5⟩,⟨3,5⟩] 0 2 3 5=some true:=by
 conv=>lhs; cbv
 try rfl
theorem is3:zcX 200 [⟨0,1⟩,⟨1,1⟩] 0 0 1 1=some true:=by
 conv=>lhs; cbv
 try rfl
theorem is4:zcX 200 [⟨1,3⟩,⟨2,3⟩] 0 1 2 3=some true:=by
 conv=>lhs; cbv
 try rfl
theorem zed{α β:Type}(a:α)(f:α→Option β):(some a).bind f=f a:=id rfl
theorem zr6:(⟨2,[⟨2,[],[[1,1]]⟩,⟨2,[],[[1,1]]⟩,⟨2,[0,1],[[2,0],[1,1],[1,1],[0,2]]⟩]⟩:S_api_Net)=ztE:=id rfl
theorem zj5:zb0 200=some true:=by
 unfold zb0;rw[zss,zed,cond_true,zr1,zed];rw[kn1,zed,kn2,zed,kn3,zed,kn4,zed,kn5,zed,kn6,zed,kn7,zed,kn8,zed,kn9,zed,ztY,zed,zt8,zed,ztX,zed,ztU,zed,zt0,zed,zt3,zed,zua,zed,zt2,zed,zt1,zed,zr6,ztZ,zed,zt6,zed];simp only[is1,is2,is3,is4,zed];decide +kernel
end Go.Dc
namespace Go.Proofs.Ytbjogdohfhdaiaa.S
open Go Go.Mx Go.Lx Go.Dc Go.ChangeShapes Go.WideShapes Go.ChangeAt Go.RowKit
theorem zjr{H:Type}{enc:TypeId×Value→H}{W W':World}(hb:Below W.heap.size W W'):∀ {ts:List TypeId} {vs:List Value} {ds:List (DataW H)} {ps:List MemPlace},
  DataW.TrodAll enc Try.prog W 0 (fun _=>true) true ts vs ds ps→(∀ t∈ts,Try.prog.readableRec t=true∧t<Try.prog.types.size)→(∀ x∈ps,x.block<W.heap.size)→
  DataW.TrodAll enc Try.prog W' 0 (fun b=>decide (b<W.heap.size)) true ts vs ds ps
 | [],vs,ds,ps,h,_,_=>by
  obtain⟨rfl,rfl,rfl⟩:=trodAll_nil h;exact trodAll_mk0
 | t :: ts,vs,ds,ps,h,ht,hlt=>by
  obtain⟨v,vs',d,ds',p,q,rfl,rfl,rfl,h1,h2⟩:=trodAll_cons h;obtain⟨r1,r2⟩:=ht t qbp;exact⟨p,q,Below.trod laidOut r1 r2 h1 hb (fun x hx=>hlt x (List.mem_append_left _ hx)),zjr hb h2 (fun t h=>ht t (qaQ _ h)) (fun x hx=>hlt x (List.mem_append_right _ hx)),rfl⟩
theorem zsg:∀ t∈([]:List TypeId),(ze0 Try.prog 8 t).isSome=true:=fun t ht=>by simp at ht
theorem zse:∀ t∈([]:List TypeId),Try.prog.readableRec t=true∧t<Try.prog.types.size:=fun t ht=>by simp at ht
theorem zkj{H:Type}{enc:TypeId×Value→H}{w:World}{b0:Nat}{args:Array Value}{ds:List (DataW H)}{ps:List MemPlace}
  (hv:∀(j:Nat) t v,([]:List TypeId)[j]? = some t→args[j]? = some v→Value.okWide Try.prog w .any b0 t v) (hd:DataW.TrodAll enc Try.prog w 0 (fun _=>true) true ([]:List TypeId) args.toList ds ps):
  Calls Try.prog 7 args w fun e w'=>e=.returned (.bool true)∧Below w.heap.size w w':=by
 refine zt9 (g:=8) hv hd zsg fun es hes=>?_
 obtain rfl:=Dc.ShAs.none hes;exact zfU (zj5)
theorem zi2(os:Os)(started:os.Started)(H:Type)(enc:TypeId×Value→H):
  ReturnsInHanded {} Try.checked os 7 .any (Rows.eliminateKnownSpec.pre6 enc Try.prog Try.f7 Rows.eliminateKnownRow.domain false) (Rows.eliminateKnownSpec.post enc Try.prog Try.f7 false true false false):=by
 refine returnsInHanded_of_change (C:=Try.checked) own started (by kernel_rfl) Try.func7
  (ChangeSpec.witness6 (enc:=enc) (C:=Try.checked) false ⟨#[],#[],[]⟩ 8 (by kernel_rfl) (by kernel_rfl) (by kernel_rfl) (by kernel_rfl)) ?_
 intro W base args ds gs before hval0 hW hcnd _;have hval:∀(j:Nat) t v,Try.f7.params[j]? = some t→args[j]? = some v→Value.okWide Try.prog W .any base t v:=hval0;have hlt:∀ x∈before,x.block<W.heap.size:=fun x hx=>hW.lt x hx
 have hW':=hW;obtain⟨p,q,hA0,hV,rfl,hfz,hnd⟩:=hW;have hA:DataW.TrodAll enc Try.prog W 0 (fun _=>true) true Try.f7.params.toList args.toList ds p:=hA0;rw[Try.params7]at hA hval;have hcalls:=zkj (fun j t v h1 h2=>hval j t v (by simp at h1) h2) hA;obtain⟨rfl,rfl⟩:=trodVars_none hV;have hA1:DataW.TrodAll enc Try.prog W 0 (fun _=>true) true ([]:List TypeId) args.toList ds p:=hA;have hds:ds=[]:=by
  obtain⟨_,e0,_⟩:=trodAll_nil hA1;exact e0
 subst hds;clear hA0 hval0;simp only[qaC]at hW' hlt;refine hcalls.mono fun e W' ⟨he,hb⟩=>?_
 subst he
 exact⟨_,rfl,_,_,_,[],_,[],hW',trodAll_mk1 (shut_bool Try.underlying4 true),
  (by rw[Try.params7]; exact zjr hb hA1 zse hlt),
  rfl,hb.frame _,fun h=>by cases h⟩
theorem elknown_said:Rows.EliminateKnownSaid:=
 OpenClaim.holds_of_wide 7 Try.f7 rfl rfl rfl rfl rfl rfl rfl ⟨rfl,rfl,rfl,rfl,rfl⟩ rfl rfl rfl rfl rfl ztd Try.func7 zrM
  ztA (by unfold Func.isWrapper; first | (rw[if_pos (by decide +kernel)]; kernel_rfl)| (rw[if_neg (by decide +kernel)]; exact⟨rfl,rfl⟩))
  (fun os started H enc _=>zi2 os started H enc)
end Go.Proofs.Ytbjogdohfhdaiaa.S
namespace Go.Proofs.Ytbjogdohfhdaiaa
theorem elknown_said:Rows.EliminateKnownSaid:=S.elknown_said
end Go.Proofs.Ytbjogdohfhdaiaa
