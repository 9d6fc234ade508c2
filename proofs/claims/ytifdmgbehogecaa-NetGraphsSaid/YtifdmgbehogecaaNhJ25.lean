/-
 Drafts of nets as arguments. Conditions: none.
-/
import Derived.Test.YtifdmgbehogecaaNhSa
import Derived.Test.YtifdmgbehogecaaNhJ7
import Derived.Test.YtifdmgbehogecaaNhFctG
set_option linter.unusedSimpArgs false
set_option linter.unusedVariables false
set_option maxRecDepth 100000
namespace Go.Proofs.Ytifdmgbehogecaa.S
open Go Go.Mx Go.Lx Go.Dc Go.ChangeShapes Go.WideShapes Go.ChangeAt Go.RowKit
theorem zqq{xs:List Int}(h:okL (okI .u8) xs):∃ ns:List Nat,(∀ x∈ns,x≤255)∧xs=iL ns:=by
 obtain⟨ns,h1,h2⟩:=Dc.zmk (l:=xs) (f:=fun n:Nat=>(n:Int)) (T:=fun n=>n≤255) fun y hy=>by
  have:=zgy (h.2 y hy);exact⟨y.toNat,by omega,by omega⟩
 exact⟨ns,h1,h2⟩
theorem zp1:Dec zai [.int .u8,.int .u8,.sl [.int .u8]] (fun x=>okI .u8 x.card∧okI .u8 x.parents∧okL (okI .u8) x.w):=
 Dec.iso (Dec.pair (Dec.int .u8) (Dec.pair (Dec.int .u8) (Dec.list (Dec.int .u8)))) (fun x:S_haruspexref05_Piece=>(x.card,x.parents,x.w)) (fun a=>⟨a.1,a.2.1,a.2.2⟩) (fun _=>rfl)
theorem zo4:Dec zbZ [.int .u8,.sl [.int .u8,.int .u8,.sl [.int .u8]],.sl [.int .u8]]
  (fun x=>okI .u8 x.grain∧okL (fun x=>okI .u8 x.card∧okI .u8 x.parents∧okL (okI .u8) x.w) x.nodes∧okL (okI .u8) x.order):=
 Dec.iso (Dec.pair (Dec.int .u8) (Dec.pair (Dec.list zp1) (Dec.list (Dec.int .u8)))) (fun x:S_haruspexref05_Draft=>(x.grain,x.nodes,x.order)) (fun a=>⟨a.1,a.2.1,a.2.2⟩) (fun _=>rfl)
theorem zqV{x:S_haruspexref05_Draft}(h:okI .u8 x.grain∧okL (fun x=>okI .u8 x.card∧okI .u8 x.parents∧okL (okI .u8) x.w) x.nodes∧okL (okI .u8) x.order):∃ d:DraftN,DraftOk d∧x=zcm d:=by
 obtain⟨grain,nodes,order⟩:=x;obtain⟨h1,h2,h3⟩:=h;have hg:=zgy h1;obtain⟨os,o1,o2⟩:=zqq h3;obtain⟨ps,p1,p2⟩:=Dc.zmk (l:=nodes) (f:=znl) (T:=fun n=>n.card≤255) fun y hy=>by
  obtain⟨g1,g2,g3⟩:=h2.2 y hy;have k1:=zgy g1;have k2:=zgy g2;obtain⟨ws,w1,w2⟩:=zqq g3;refine⟨⟨y.card.toNat,y.parents.toNat,ws⟩,by simp only; omega,?_⟩;obtain⟨a,b,c⟩:=y;simp only at k1 k2 w2;subst w2;simp only[znl,qbo k1.1,qbo k2.1]
 refine⟨⟨grain.toNat,ps,os⟩,⟨by simp only at hg ⊢; omega,p1,o1⟩,?_⟩;simp only at o2 p2 hg;subst o2 p2;simp only[zcm,qbo hg.1]
theorem zsq:zdl Try.prog 8 28=some [.int .u8,.sl [.int .u8,.int .u8,.sl [.int .u8]],.sl [.int .u8]]:=by kernel_rfl
theorem zw3:zmx Try.prog 28=true:=by kernel_rfl
theorem zvt:Try.prog.readableRec 28=true:=by kernel_rfl
theorem zrd{d:D}(h:ShA Try.prog 8 28 d):∃ dr:DraftN,DraftOk dr∧d=.agg (zbZ.c false (zcm dr)):=by
 obtain⟨x,h1,h2⟩:=zo4.agg zw3 zsq h;obtain⟨dr,h3,rfl⟩:=zqV h1;exact⟨dr,h3,h2⟩
theorem zf1{H:Type}{enc:TypeId×Value→H}{W W':World}(hb:Below W.heap.size W W'):∀ {ts:List TypeId} {vs:List Value} {ds:List (DataW H)} {ps:List MemPlace},
  DataW.TrodAll enc Try.prog W 0 (fun _=>true) true ts vs ds ps→(∀ t∈ts,Try.prog.readableRec t=true∧t<Try.prog.types.size)→(∀ x∈ps,x.block<W.heap.size)→
  DataW.TrodAll enc Try.prog W' 0 (fun b=>decide (b<W.heap.size)) true ts vs ds ps
 | [],vs,ds,ps,h,_,_=>by
  obtain⟨rfl,rfl,rfl⟩:=trodAll_nil h;exact trodAll_mk0
 | t :: ts,vs,ds,ps,h,ht,hlt=>by
  obtain⟨v,vs',d,ds',p,q,rfl,rfl,rfl,h1,h2⟩:=trodAll_cons h;obtain⟨r1,r2⟩:=ht t qau;exact⟨p,q,Below.trod laidOut r1 r2 h1 hb (fun x hx=>hlt x (List.mem_append_left _ hx)),zf1 hb h2 (fun t h=>ht t (qat _ h)) (fun x hx=>hlt x (List.mem_append_right _ hx)),rfl⟩
theorem zrS:Dec zaa [.int .i64,.sl [.int .i64],.sl [.sl [.int .i64]]] (fun x=>okI .i64 x.card∧okL (okI .i64) x.parents∧okL (okL (okI .i64)) x.rows):=
 Dec.iso (Dec.pair (Dec.int .i64) (Dec.pair (Dec.list (Dec.int .i64)) (Dec.list (Dec.list (Dec.int .i64))))) (fun x:S_api_Node=>(x.card,x.parents,x.rows)) (fun a=>⟨a.1,a.2.1,a.2.2⟩) (fun _=>rfl)
theorem ztt:Dec zcL [.int .i64,.sl [.int .i64,.sl [.int .i64],.sl [.sl [.int .i64]]]] (fun x=>okI .i64 x.grain∧okL (fun x=>okI .i64 x.card∧okL (okI .i64) x.parents∧okL (okL (okI .i64)) x.rows) x.nodes):=
 Dec.iso (Dec.pair (Dec.int .i64) (Dec.list zrS)) (fun x:S_api_Net=>(x.grain,x.nodes)) (fun a=>⟨a.1,a.2⟩) (fun _=>rfl)
theorem zq0:Dec zb7 [.int .u8,.int .u8,.int .u8,.int .i64] (fun x=>okI .u8 x.what∧okI .u8 x.at_∧okI .u8 x.row∧okI .i64 x.n):=
 Dec.iso (Dec.pair (Dec.int .u8) (Dec.pair (Dec.int .u8) (Dec.pair (Dec.int .u8) (Dec.int .i64)))) (fun x:S_haruspexref05_Bend=>(x.what,x.at_,x.row,x.n)) (fun a=>⟨a.1,a.2.1,a.2.2.1,a.2.2.2⟩) (fun _=>rfl)
theorem zr6:zdl Try.prog 8 24=some [.int .i64,.sl [.int .i64,.sl [.int .i64],.sl [.sl [.int .i64]]]]:=by kernel_rfl
theorem zwI:zmx Try.prog 24=true:=by kernel_rfl
theorem zsv:zdl Try.prog 8 30=some [.int .u8,.int .u8,.int .u8,.int .i64]:=by kernel_rfl
theorem zwm:zmx Try.prog 30=true:=by kernel_rfl
theorem zu0:zdl Try.prog 8 3=some [.int .i64]:=by kernel_rfl
theorem zxJ:zmx Try.prog 3=false:=by kernel_rfl
theorem zsF:zdl Try.prog 8 57=some [.int .u64]:=by kernel_rfl
theorem zw4:zmx Try.prog 57=false:=by kernel_rfl
theorem zt4:zdl Try.prog 8 5=some [.int .u8]:=by kernel_rfl
theorem zx2:zmx Try.prog 5=false:=by kernel_rfl
theorem zuW{d:D}(h:ShA Try.prog 8 24 d):∃ x:S_api_Net,d=.agg (zcL.c false x):=by
 obtain⟨x,_,h2⟩:=ztt.agg zwI zr6 h;exact⟨x,h2⟩
theorem zsY{d:D}(h:ShA Try.prog 8 30 d):∃ x:S_haruspexref05_Bend,((0≤x.what∧x.what≤255)∧(0≤x.at_∧x.at_≤255)∧(0≤x.row∧x.row≤255))∧d=.agg (zb7.c false x):=by
 obtain⟨x,⟨h1,h2,h3,_⟩,h4⟩:=zq0.agg zwm zsv h;exact⟨x,⟨zgy h1,zgy h2,zgy h3⟩,h4⟩
theorem zuv{d:D}(h:ShA Try.prog 8 3 d):∃ n:Int,d=dI n:=by
 obtain⟨x,_,h2⟩:=(Dec.int .i64).one zxJ zu0 h;exact⟨x,by injection h2⟩
theorem zwl{d:D}(h:ShA Try.prog 8 5 d):∃ n:Int,(0≤n∧n≤255)∧d=dU8 n:=by
 obtain⟨x,h1,h2⟩:=(Dec.int .u8).one zx2 zt4 h;exact⟨x,zgy h1,by injection h2⟩
theorem ztq{n:Int}(h:okI .u64 n):0≤n∧n<18446744073709551616:=by
 have:0≤n∧n≤18446744073709551615:=by simpa [okI,Lit.wf,IntKind.has,IntKind.min,IntKind.max,IntKind.signed,IntKind.bits]using h
 omega
theorem zu2{d:D}(h:ShA Try.prog 8 57 d):∃ n:Nat,n<18446744073709551616∧d=dU (n:Int):=by
 obtain⟨x,h1,h2⟩:=(Dec.int .u64).one zw4 zsF h;have:=ztq h1;refine⟨x.toNat,by omega,?_⟩;rw[qbo this.1];injection h2
theorem zvE:Try.prog.readableRec 24=true:=by kernel_rfl
theorem zt3:Try.prog.readableRec 30=true:=by kernel_rfl
theorem zwz:Try.prog.readableRec 3=true:=by kernel_rfl
theorem zve:Try.prog.readableRec 57=true:=by kernel_rfl
theorem zwC:Try.prog.readableRec 5=true:=by kernel_rfl
theorem zuY:(156:Nat)<Try.prog.types.size:=of_decide_eq_true (by kernel_rfl)
theorem zvN:∀ t∈[24,28,30,3,57,5],(zdl Try.prog 8 t).isSome=true:=by
 intro t ht;simp only[qaQ,List.not_mem_nil,or_false]at ht;rcases ht with rfl | rfl | rfl | rfl | rfl | rfl
 ·rw[zr6]; rfl
 ·rw[zsq]; rfl
 ·rw[zsv]; rfl
 ·rw[zu0]; rfl
 ·rw[zsF]; rfl
 rw[zt4]; rfl
theorem zub:∀ t∈[24,28,30,3,57,5],Try.prog.readableRec t=true∧t<Try.prog.types.size:=by
 have lt:∀ t:Nat,t≤156→t<Try.prog.types.size:=fun t ht=>qcb ht zuY
 intro t ht;simp only[qaQ,List.not_mem_nil,or_false]at ht;rcases ht with rfl | rfl | rfl | rfl | rfl | rfl
 ·exact⟨zvE,lt _ (by decide)⟩
 ·exact⟨zvt,lt _ (by decide)⟩
 ·exact⟨zt3,lt _ (by decide)⟩
 ·exact⟨zwz,lt _ (by decide)⟩
 ·exact⟨zve,lt _ (by decide)⟩
 exact⟨zwC,lt _ (by decide)⟩
theorem zjW{H:Type}{enc:TypeId×Value→H}{w:World}{b0:Nat}{args:Array Value}{ds:List (DataW H)}{ps:List MemPlace}
  (hv:∀(j:Nat) t v,[24,28,30,3,57,5][j]? = some t→args[j]? = some v→Value.okWide Try.prog w .any b0 t v) (hd:DataW.TrodAll enc Try.prog w 0 (fun _=>true) true [24,28,30,3,57,5] args.toList ds ps):
  Calls Try.prog 4 args w fun e w'=>e=.returned (.bool true)∧Below w.heap.size w w':=by
 refine zxn (g:=8) hv hd zvN fun es hes=>?_
 obtain⟨x0,r,rfl,h0,hes⟩:=Dc.ShAs.inv hes;obtain⟨x1,r,rfl,h1,hes⟩:=Dc.ShAs.inv hes;obtain⟨x2,r,rfl,h2,hes⟩:=Dc.ShAs.inv hes;obtain⟨x3,r,rfl,h3,hes⟩:=Dc.ShAs.inv hes;obtain⟨x4,r,rfl,h4,hes⟩:=Dc.ShAs.inv hes;obtain⟨x5,r,rfl,h5,hes⟩:=Dc.ShAs.inv hes;obtain rfl:=Dc.ShAs.none hes;obtain⟨raw,rfl⟩:=zuW h0;obtain⟨d,hd2,rfl⟩:=zrd h1;obtain⟨b,⟨hb1,hb2,hb3⟩,rfl⟩:=zsY h2;obtain⟨v,rfl⟩:=zuv h3;obtain⟨s,hs,rfl⟩:=zu2 h4;obtain⟨k,_,rfl⟩:=zwl h5;exact zgD (graphs_holds (raw:=raw) (b:=b) (v:=v) (k:=k) hd2 ⟨hb1,hb2,hb3⟩ hs)
theorem zjc(os:Os)(started:os.Started)(H:Type)(enc:TypeId×Value→H):
  ReturnsInHanded {} Try.checked os 4 .any (Rows.netGraphsSpec.pre6 enc Try.prog Try.f4 Rows.netGraphsRow.domain false) (Rows.netGraphsSpec.post enc Try.prog Try.f4 false true false false):=by
 refine returnsInHanded_of_change (C:=Try.checked) own started (by kernel_rfl) Try.func4
  (ChangeSpec.witness6 (enc:=enc) (C:=Try.checked) false ⟨#[],#[.agg #[.int .i64 0,.slice none 0 0],.agg #[.int .u8 0,.slice none 0 0,.slice none 0 0],.agg #[.int .u8 0,.int .u8 0,.int .u8 0,.int .i64 0],.int .i64 0,.int .u64 0,.int .u8 0],[]⟩ 8 (by kernel_rfl) (by kernel_rfl) (by kernel_rfl) (by kernel_rfl)) ?_
 intro W base args ds gs before hval0 hW hcnd _;have hval:∀(j:Nat) t v,Try.f4.params[j]? = some t→args[j]? = some v→Value.okWide Try.prog W .any base t v:=hval0;have hlt:∀ x∈before,x.block<W.heap.size:=fun x hx=>hW.lt x hx
 have hW':=hW;obtain⟨p,q,hA0,hV,rfl,hfz,hnd⟩:=hW;have hA:DataW.TrodAll enc Try.prog W 0 (fun _=>true) true Try.f4.params.toList args.toList ds p:=hA0;rw[Try.params4]at hA hval;have hcalls:=zjW (fun j t v h1 h2=>hval j t v (by simpa using h1) h2) hA;obtain⟨rfl,rfl⟩:=trodVars_none hV;have hA1:DataW.TrodAll enc Try.prog W 0 (fun _=>true) true [24,28,30,3,57,5] args.toList ds p:=hA;have hds:∃ d0 d1 d2 d3 d4 d5:DataW H,ds=[d0,d1,d2,d3,d4,d5]:=by
  obtain⟨_,_,d0,ds0,_,_,_,e0,_,_,r0⟩:=trodAll_cons hA1;obtain⟨_,_,d1,ds1,_,_,_,e1,_,_,r1⟩:=trodAll_cons r0;obtain⟨_,_,d2,ds2,_,_,_,e2,_,_,r2⟩:=trodAll_cons r1;obtain⟨_,_,d3,ds3,_,_,_,e3,_,_,r3⟩:=trodAll_cons r2;obtain⟨_,_,d4,ds4,_,_,_,e4,_,_,r4⟩:=trodAll_cons r3;obtain⟨_,_,d5,ds5,_,_,_,e5,_,_,r5⟩:=trodAll_cons r4;obtain⟨_,e6,_⟩:=trodAll_nil r5;exact⟨d0,d1,d2,d3,d4,d5,by rw[e0,e1,e2,e3,e4,e5,e6]⟩
 obtain⟨d0,d1,d2,d3,d4,d5,rfl⟩:=hds;clear hA0 hval0;simp only[qaS]at hW' hlt;refine hcalls.mono fun e W' ⟨he,hb⟩=>?_
 subst he
 exact⟨_,rfl,_,_,_,[],_,[],hW',trodAll_mk1 (shut_bool Try.underlying4 true),
  (by rw[Try.params4]; exact zf1 hb hA1 zub hlt),
  rfl,hb.frame _,fun h=>by cases h⟩
theorem graphs_holds:Rows.NetGraphsSaid:=
 OpenClaim.holds_of_wide 4 Try.f4 rfl rfl rfl rfl rfl rfl rfl ⟨rfl,rfl,rfl,rfl,rfl⟩ rfl rfl rfl rfl rfl zwe Try.func4 ztS
  zwa (by unfold Func.isWrapper; first | (rw[if_pos (by decide +kernel)]; kernel_rfl)| (rw[if_neg (by decide +kernel)]; exact⟨rfl,rfl⟩))
  (fun os started H enc _=>zjc os started H enc)
end Go.Proofs.Ytifdmgbehogecaa.S
namespace Go.Proofs.Ytifdmgbehogecaa
theorem graphs_holds:Rows.NetGraphsSaid:=S.graphs_holds
end Go.Proofs.Ytifdmgbehogecaa
