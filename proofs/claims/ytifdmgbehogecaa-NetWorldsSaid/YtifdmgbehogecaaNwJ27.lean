/-
 Drafts of nets as arguments. Conditions: none.
-/
import Derived.Test.YtifdmgbehogecaaNwSa
import Derived.Test.YtifdmgbehogecaaNwFctW
import Derived.Test.YtifdmgbehogecaaNwJ9
set_option linter.unusedSimpArgs false
set_option linter.unusedVariables false
set_option maxRecDepth 100000
namespace Go.Proofs.Ytifdmgbehogecaa.S
open Go Go.Mx Go.Lx Go.Dc Go.ChangeShapes Go.WideShapes Go.ChangeAt Go.RowKit
theorem zo9{xs:List Int}(h:okL (okI .u8) xs):∃ ns:List Nat,(∀ x∈ns,x≤255)∧xs=iL ns:=by
 obtain⟨ns,h1,h2⟩:=Dc.znB (l:=xs) (f:=fun n:Nat=>(n:Int)) (T:=fun n=>n≤255) fun y hy=>by
  have:=zg9 (h.2 y hy);exact⟨y.toNat,by omega,by omega⟩
 exact⟨ns,h1,h2⟩
theorem zoW:Dec zae [.int .u8,.int .u8,.sl [.int .u8]] (fun x=>okI .u8 x.card∧okI .u8 x.parents∧okL (okI .u8) x.w):=
 Dec.iso (Dec.pair (Dec.int .u8) (Dec.pair (Dec.int .u8) (Dec.list (Dec.int .u8)))) (fun x:S_haruspexref05_Piece=>(x.card,x.parents,x.w)) (fun a=>⟨a.1,a.2.1,a.2.2⟩) (fun _=>rfl)
theorem zpR:Dec zbY [.int .u8,.sl [.int .u8,.int .u8,.sl [.int .u8]],.sl [.int .u8]]
  (fun x=>okI .u8 x.grain∧okL (fun x=>okI .u8 x.card∧okI .u8 x.parents∧okL (okI .u8) x.w) x.nodes∧okL (okI .u8) x.order):=
 Dec.iso (Dec.pair (Dec.int .u8) (Dec.pair (Dec.list zoW) (Dec.list (Dec.int .u8)))) (fun x:S_haruspexref05_Draft=>(x.grain,x.nodes,x.order)) (fun a=>⟨a.1,a.2.1,a.2.2⟩) (fun _=>rfl)
theorem zrt{x:S_haruspexref05_Draft}(h:okI .u8 x.grain∧okL (fun x=>okI .u8 x.card∧okI .u8 x.parents∧okL (okI .u8) x.w) x.nodes∧okL (okI .u8) x.order):∃ d:DraftN,DraftOk d∧x=zcn d:=by
 obtain⟨grain,nodes,order⟩:=x;obtain⟨h1,h2,h3⟩:=h;have hg:=zg9 h1;obtain⟨os,o1,o2⟩:=zo9 h3;obtain⟨ps,p1,p2⟩:=Dc.znB (l:=nodes) (f:=zmQ) (T:=fun n=>n.card≤255) fun y hy=>by
  obtain⟨g1,g2,g3⟩:=h2.2 y hy;have k1:=zg9 g1;have k2:=zg9 g2;obtain⟨ws,w1,w2⟩:=zo9 g3;refine⟨⟨y.card.toNat,y.parents.toNat,ws⟩,by simp only; omega,?_⟩;obtain⟨a,b,c⟩:=y;simp only at k1 k2 w2;subst w2;simp only[zmQ,qbt k1.1,qbt k2.1]
 refine⟨⟨grain.toNat,ps,os⟩,⟨by simp only at hg ⊢; omega,p1,o1⟩,?_⟩;simp only at o2 p2 hg;subst o2 p2;simp only[zcn,qbt hg.1]
theorem zs9:zc2 Try.prog 8 28=some [.int .u8,.sl [.int .u8,.int .u8,.sl [.int .u8]],.sl [.int .u8]]:=by kernel_rfl
theorem zxe:zl9 Try.prog 28=true:=by kernel_rfl
theorem zv7:Try.prog.readableRec 28=true:=by kernel_rfl
theorem zrE{d:D}(h:ShA Try.prog 8 28 d):∃ dr:DraftN,DraftOk dr∧d=.agg (zbY.c false (zcn dr)):=by
 obtain⟨x,h1,h2⟩:=zpR.agg zxe zs9 h;obtain⟨dr,h3,rfl⟩:=zrt h1;exact⟨dr,h3,h2⟩
theorem zf1{H:Type}{enc:TypeId×Value→H}{W W':World}(hb:Below W.heap.size W W'):∀ {ts:List TypeId} {vs:List Value} {ds:List (DataW H)} {ps:List MemPlace},
  DataW.TrodAll enc Try.prog W 0 (fun _=>true) true ts vs ds ps→(∀ t∈ts,Try.prog.readableRec t=true∧t<Try.prog.types.size)→(∀ x∈ps,x.block<W.heap.size)→
  DataW.TrodAll enc Try.prog W' 0 (fun b=>decide (b<W.heap.size)) true ts vs ds ps
 | [],vs,ds,ps,h,_,_=>by
  obtain⟨rfl,rfl,rfl⟩:=trodAll_nil h;exact trodAll_mk0
 | t :: ts,vs,ds,ps,h,ht,hlt=>by
  obtain⟨v,vs',d,ds',p,q,rfl,rfl,rfl,h1,h2⟩:=trodAll_cons h;obtain⟨r1,r2⟩:=ht t qat;exact⟨p,q,Below.trod laidOut r1 r2 h1 hb (fun x hx=>hlt x (qbV _ hx)),zf1 hb h2 (fun t h=>ht t (qar _ h)) (fun x hx=>hlt x (List.mem_append_right _ hx)),rfl⟩
theorem zrM:Dec zaa [.int .i64,.sl [.int .i64],.sl [.sl [.int .i64]]] (fun x=>okI .i64 x.card∧okL (okI .i64) x.parents∧okL (okL (okI .i64)) x.rows):=
 Dec.iso (Dec.pair (Dec.int .i64) (Dec.pair (Dec.list (Dec.int .i64)) (Dec.list (Dec.list (Dec.int .i64))))) (fun x:S_api_Node=>(x.card,x.parents,x.rows)) (fun a=>⟨a.1,a.2.1,a.2.2⟩) (fun _=>rfl)
theorem ztY:Dec zcI [.int .i64,.sl [.int .i64,.sl [.int .i64],.sl [.sl [.int .i64]]]] (fun x=>okI .i64 x.grain∧okL (fun x=>okI .i64 x.card∧okL (okI .i64) x.parents∧okL (okL (okI .i64)) x.rows) x.nodes):=
 Dec.iso (Dec.pair (Dec.int .i64) (Dec.list zrM)) (fun x:S_api_Net=>(x.grain,x.nodes)) (fun a=>⟨a.1,a.2⟩) (fun _=>rfl)
theorem zsg:Dec zca [.int .u8,.int .u8,.int .u8,.int .i64] (fun x=>okI .u8 x.what∧okI .u8 x.at_∧okI .u8 x.row∧okI .i64 x.n):=
 Dec.iso (Dec.pair (Dec.int .u8) (Dec.pair (Dec.int .u8) (Dec.pair (Dec.int .u8) (Dec.int .i64)))) (fun x:S_haruspexref05_Bend=>(x.what,x.at_,x.row,x.n)) (fun a=>⟨a.1,a.2.1,a.2.2.1,a.2.2.2⟩) (fun _=>rfl)
theorem zsI:zc2 Try.prog 8 24=some [.int .i64,.sl [.int .i64,.sl [.int .i64],.sl [.sl [.int .i64]]]]:=by kernel_rfl
theorem zxc:zl9 Try.prog 24=true:=by kernel_rfl
theorem zsY:zc2 Try.prog 8 30=some [.int .u8,.int .u8,.int .u8,.int .i64]:=by kernel_rfl
theorem zxf:zl9 Try.prog 30=true:=by kernel_rfl
theorem zuP:zc2 Try.prog 8 3=some [.int .i64]:=by kernel_rfl
theorem zx5:zl9 Try.prog 3=false:=by kernel_rfl
theorem zvU{d:D}(h:ShA Try.prog 8 24 d):∃ x:S_api_Net,d=.agg (zcI.c false x):=by
 obtain⟨x,_,h2⟩:=ztY.agg zxc zsI h;exact⟨x,h2⟩
theorem ztA{d:D}(h:ShA Try.prog 8 30 d):∃ x:S_haruspexref05_Bend,((0≤x.what∧x.what≤255)∧(0≤x.at_∧x.at_≤255)∧(0≤x.row∧x.row≤255))∧d=.agg (zca.c false x):=by
 obtain⟨x,⟨h1,h2,h3,_⟩,h4⟩:=zsg.agg zxf zsY h;exact⟨x,⟨zg9 h1,zg9 h2,zg9 h3⟩,h4⟩
theorem zuR{d:D}(h:ShA Try.prog 8 3 d):∃ n:Int,d=dI n:=by
 obtain⟨x,_,h2⟩:=(Dec.int .i64).one zx5 zuP h;exact⟨x,by injection h2⟩
theorem zvD:Try.prog.readableRec 24=true:=by kernel_rfl
theorem zuX:Try.prog.readableRec 30=true:=by kernel_rfl
theorem zxh:Try.prog.readableRec 3=true:=by kernel_rfl
theorem zs7:zc2 Try.prog 8 31=some [.int .u16]:=by kernel_rfl
theorem zwC:zl9 Try.prog 31=false:=by kernel_rfl
theorem zsB:zc2 Try.prog 8 32=some [.sl [.int .i64]]:=by kernel_rfl
theorem zw5:zl9 Try.prog 32=false:=by kernel_rfl
theorem zsu:zc2 Try.prog 8 35=some [.int .u8,.int .u8,.int .u8,.int .u8,.int .u8,.int .u8,.int .u8,.int .u8,.int .u8]:=by kernel_rfl
theorem zxp:zl9 Try.prog 35=true:=by kernel_rfl
theorem zwi:Try.prog.readableRec 31=true:=by kernel_rfl
theorem zvI:Try.prog.readableRec 32=true:=by kernel_rfl
theorem zuy:Try.prog.readableRec 35=true:=by kernel_rfl
theorem zu6:(156:Nat)<Try.prog.types.size:=of_decide_eq_true (by kernel_rfl)
theorem zvP:Dec zli [.int .u8,.int .u8,.int .u8,.int .u8,.int .u8,.int .u8,.int .u8,.int .u8] (fun x=>okI .u8 x.a0∧okI .u8 x.a1∧okI .u8 x.a2∧okI .u8 x.a3∧okI .u8 x.a4∧okI .u8 x.a5∧okI .u8 x.a6∧okI .u8 x.a7):=
 Dec.iso (Dec.pair (Dec.int .u8) (Dec.pair (Dec.int .u8) (Dec.pair (Dec.int .u8) (Dec.pair (Dec.int .u8) (Dec.pair (Dec.int .u8) (Dec.pair (Dec.int .u8) (Dec.pair (Dec.int .u8) (Dec.int .u8))))))))
  (fun x:A8_Intu8=>(x.a0,x.a1,x.a2,x.a3,x.a4,x.a5,x.a6,x.a7)) (fun a=>⟨a.1,a.2.1,a.2.2.1,a.2.2.2.1,a.2.2.2.2.1,a.2.2.2.2.2.1,a.2.2.2.2.2.2.1,a.2.2.2.2.2.2.2⟩) (fun _=>rfl)
theorem zq7:Dec zcW [.int .u8,.int .u8,.int .u8,.int .u8,.int .u8,.int .u8,.int .u8,.int .u8,.int .u8]
  (fun x=>okI .u8 x.which∧okI .u8 x.v.a0∧okI .u8 x.v.a1∧okI .u8 x.v.a2∧okI .u8 x.v.a3∧okI .u8 x.v.a4∧okI .u8 x.v.a5∧okI .u8 x.v.a6∧okI .u8 x.v.a7):=
 Dec.iso (Dec.pair (Dec.int .u8) zvP) (fun x:S_haruspexref05_Known=>(x.which,x.v)) (fun a=>⟨a.1,a.2⟩) (fun _=>rfl)
theorem zvC{d:D}(h:ShA Try.prog 8 31 d):∃ n:Int,d=.lit (.int .u16 n):=by
 obtain⟨x,_,h2⟩:=(Dec.int .u16).one zwC zs7 h;exact⟨x,by injection h2⟩
theorem zul{d:D}(h:ShA Try.prog 8 32 d):∃ xs:List Int,d=fzE false (eI .i64) xs:=by
 obtain⟨x,_,h2⟩:=(Dec.list (Dec.int .i64)).one zw5 zsB h;exact⟨x,by injection h2⟩
theorem zrz{d:D}(h:ShA Try.prog 8 35 d):∃ x:S_haruspexref05_Known,d=.agg (zcW.c false x):=by
 obtain⟨x,_,h2⟩:=zq7.agg zxp zsu h;exact⟨x,h2⟩
theorem zu5:∀ t∈[24,28,30,3,31,32,35],(zc2 Try.prog 8 t).isSome=true:=by
 intro t ht;simp only[qaR,List.not_mem_nil,or_false]at ht;rcases ht with rfl | rfl | rfl | rfl | rfl | rfl | rfl
 ·rw[zsI]; rfl
 ·rw[zs9]; rfl
 ·rw[zsY]; rfl
 ·rw[zuP]; rfl
 ·rw[zs7]; rfl
 ·rw[zsB]; rfl
 rw[zsu]; rfl
theorem zwa:∀ t∈[24,28,30,3,31,32,35],Try.prog.readableRec t=true∧t<Try.prog.types.size:=by
 have lt:∀ t:Nat,t≤156→t<Try.prog.types.size:=fun t ht=>qb6 ht zu6
 intro t ht;simp only[qaR,List.not_mem_nil,or_false]at ht;rcases ht with rfl | rfl | rfl | rfl | rfl | rfl | rfl
 ·exact⟨zvD,lt _ (by decide)⟩
 ·exact⟨zv7,lt _ (by decide)⟩
 ·exact⟨zuX,lt _ (by decide)⟩
 ·exact⟨zxh,lt _ (by decide)⟩
 ·exact⟨zwi,lt _ (by decide)⟩
 ·exact⟨zvI,lt _ (by decide)⟩
 exact⟨zuy,lt _ (by decide)⟩
theorem zk6{H:Type}{enc:TypeId×Value→H}{w:World}{b0:Nat}{args:Array Value}{ds:List (DataW H)}{ps:List MemPlace}
  (hv:∀(j:Nat) t v,[24,28,30,3,31,32,35][j]? = some t→args[j]? = some v→Value.okWide Try.prog w .any b0 t v) (hd:DataW.TrodAll enc Try.prog w 0 (fun _=>true) true [24,28,30,3,31,32,35] args.toList ds ps):
  Calls Try.prog 3 args w fun e w'=>e=.returned (.bool true)∧Below w.heap.size w w':=by
 refine zxS (g:=8) hv hd zu5 fun es hes=>?_
 obtain⟨x0,r,rfl,h0,hes⟩:=Dc.ShAs.inv hes;obtain⟨x1,r,rfl,h1,hes⟩:=Dc.ShAs.inv hes;obtain⟨x2,r,rfl,h2,hes⟩:=Dc.ShAs.inv hes;obtain⟨x3,r,rfl,h3,hes⟩:=Dc.ShAs.inv hes;obtain⟨x4,r,rfl,h4,hes⟩:=Dc.ShAs.inv hes;obtain⟨x5,r,rfl,h5,hes⟩:=Dc.ShAs.inv hes;obtain⟨x6,r,rfl,h6,hes⟩:=Dc.ShAs.inv hes;obtain rfl:=Dc.ShAs.none hes;obtain⟨raw,rfl⟩:=zvU h0;obtain⟨d,hd2,rfl⟩:=zrE h1;obtain⟨b,⟨hb1,hb2,hb3⟩,rfl⟩:=ztA h2;obtain⟨p3,rfl⟩:=zuR h3;obtain⟨p4,rfl⟩:=zvC h4;obtain⟨p5,rfl⟩:=zul h5;obtain⟨p6,rfl⟩:=zrz h6;exact zgP (worlds_holds (raw:=raw) (b:=b) (p3:=p3) (p4:=p4) (p5:=p5) (p6:=p6) hd2 ⟨hb1,hb2,hb3⟩)
theorem zjG(os:Os)(started:os.Started)(H:Type)(enc:TypeId×Value→H):
  ReturnsInHanded {} Try.checked os 3 .any (Rows.netWorldsSpec.pre6 enc Try.prog Try.f3 Rows.netWorldsRow.domain false) (Rows.netWorldsSpec.post enc Try.prog Try.f3 false true false false):=by
 refine returnsInHanded_of_change (C:=Try.checked) own started (by kernel_rfl) Try.func3
  (ChangeSpec.witness6 (enc:=enc) (C:=Try.checked) false ⟨#[],#[.agg #[.int .i64 0,.slice none 0 0],.agg #[.int .u8 0,.slice none 0 0,.slice none 0 0],.agg #[.int .u8 0,.int .u8 0,.int .u8 0,.int .i64 0],.int .i64 0,.int .u16 0,.slice none 0 0,.agg #[.int .u8 0,.int .u8 0,.int .u8 0,.int .u8 0,.int .u8 0,.int .u8 0,.int .u8 0,.int .u8 0,.int .u8 0]],[]⟩ 8 (by kernel_rfl) (by kernel_rfl) (by kernel_rfl) (by kernel_rfl)) ?_
 intro W base args ds gs before hval0 hW hcnd _;have hval:∀(j:Nat) t v,Try.f3.params[j]? = some t→args[j]? = some v→Value.okWide Try.prog W .any base t v:=hval0;have hlt:∀ x∈before,x.block<W.heap.size:=fun x hx=>hW.lt x hx
 have hW':=hW;obtain⟨p,q,hA0,hV,rfl,hfz,hnd⟩:=hW;have hA:DataW.TrodAll enc Try.prog W 0 (fun _=>true) true Try.f3.params.toList args.toList ds p:=hA0;rw[Try.params3]at hA hval;have hcalls:=zk6 (fun j t v h1 h2=>hval j t v (by simpa using h1) h2) hA;obtain⟨rfl,rfl⟩:=trodVars_none hV;have hA1:DataW.TrodAll enc Try.prog W 0 (fun _=>true) true [24,28,30,3,31,32,35] args.toList ds p:=hA;have hds:∃ d0 d1 d2 d3 d4 d5 d6:DataW H,ds=[d0,d1,d2,d3,d4,d5,d6]:=by
  obtain⟨_,_,d0,ds0,_,_,_,e0,_,_,r0⟩:=trodAll_cons hA1;obtain⟨_,_,d1,ds1,_,_,_,e1,_,_,r1⟩:=trodAll_cons r0;obtain⟨_,_,d2,ds2,_,_,_,e2,_,_,r2⟩:=trodAll_cons r1;obtain⟨_,_,d3,ds3,_,_,_,e3,_,_,r3⟩:=trodAll_cons r2;obtain⟨_,_,d4,ds4,_,_,_,e4,_,_,r4⟩:=trodAll_cons r3;obtain⟨_,_,d5,ds5,_,_,_,e5,_,_,r5⟩:=trodAll_cons r4;obtain⟨_,_,d6,ds6,_,_,_,e6,_,_,r6⟩:=trodAll_cons r5;obtain⟨_,e7,_⟩:=trodAll_nil r6;exact⟨d0,d1,d2,d3,d4,d5,d6,by rw[e0,e1,e2,e3,e4,e5,e6,e7]⟩
 obtain⟨d0,d1,d2,d3,d4,d5,d6,rfl⟩:=hds;clear hA0 hval0;simp only[qaF]at hW' hlt;refine hcalls.mono fun e W' ⟨he,hb⟩=>?_
 subst he
 exact⟨_,rfl,_,_,_,[],_,[],hW',trodAll_mk1 (shut_bool Try.underlying4 true),
  (by rw[Try.params3]; exact zf1 hb hA1 zwa hlt),
  rfl,hb.frame _,fun h=>by cases h⟩
theorem worlds_holds:Rows.NetWorldsSaid:=
 OpenClaim.holds_of_wide 3 Try.f3 rfl rfl rfl rfl rfl rfl rfl ⟨rfl,rfl,rfl,rfl,rfl⟩ rfl rfl rfl rfl rfl zwM Try.func3 zui
  zwZ (by unfold Func.isWrapper; first | (rw[if_pos (by decide +kernel)]; kernel_rfl)| (rw[if_neg (by decide +kernel)]; exact⟨rfl,rfl⟩))
  (fun os started H enc _=>zjG os started H enc)
end Go.Proofs.Ytifdmgbehogecaa.S
namespace Go.Proofs.Ytifdmgbehogecaa
theorem worlds_holds:Rows.NetWorldsSaid:=S.worlds_holds
end Go.Proofs.Ytifdmgbehogecaa
