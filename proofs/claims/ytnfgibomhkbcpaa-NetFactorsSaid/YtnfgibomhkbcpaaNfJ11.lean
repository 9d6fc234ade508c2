/-
 What r03_Has computes. Conditions: none.
-/
import Derived.Test.YtnfgibomhkbcpaaNfJ10
set_option linter.unusedSimpArgs false
set_option linter.unusedVariables false
set_option maxRecDepth 100000
set_option maxHeartbeats 4000000
namespace Go.Dc
open Go Go.Mx Go.Lx Go.Proofs
def zbt(r9:((List S_api_Factor)×Int))(r16:(List S_api_Factor)):Nat→Int→Option (Out Unit Bool)
 | 0,_=>none
 | n+1,v50=>(
bif (decide (v50<(r9.1.length:Int)))then(
(zaP r9.1 v50).bind fun x21=>
(zaP r16 v50).bind fun x23=>
(zeu x21 x23).bind fun r25=>
bif r25 then(
zbt r9 r16 n (w64 (v50+1)))
else(
some (.ret false)))
else(
some (.go ())))
def zbv(N:Nat)(r4:A3_S_api_Net):Nat→Int→Option (Out Unit Bool)
 | 0,_=>none
 | n+1,v19=>(
bif (decide (v19<3))then(
(((zaP [r4.a0,r4.a1,r4.a2] v19).bind fun x7=>
(zb2 x7).bind fun r9=>
(zdc x7).bind fun r11=>
bif r11 then(
(zc4 N x7).bind fun r16=>
((bif (r9.2 == 0)then(
some (!((r9.1.length:Int)==(r16.length:Int))))
else(
some true):Option Bool)).bind fun v47=>
bif v47 then(
some (.ret false))
else(
((zbt r9 r16 ((r9.1.length:Int) - 0+2:Int).toNat 0:Option (Out Unit Bool))).bind fun o=>match o with
| .go _=>(
some (.go ()))
| .ret r=>some (.ret r)))
else(
((bif ((r9.1.length:Int)== 0)then(
some (!(r9.2 == 50)))
else(
some true):Option Bool)).bind fun v36=>
bif v36 then(
some (.ret false))
else(
some (.go ()))):Option (Out Unit Bool))).bind fun o=>match o with
| .go _=>(
zbv N r4 n (w64 (v19+1)))
| .ret r=>some (.ret r))
else(
some (.go ())))
def zcH(N:Nat)(p0:S_api_Net)(p1:S_haruspexref05_Draft)(p2:S_haruspexref05_Bend):Option Bool:=
(zmx).bind fun r1=>
bif r1 then(
(zer N p0 p1 p2).bind fun r4=>
((zbv N r4 (3 - 0+2:Int).toNat 0:Option (Out Unit Bool))).bind fun o=>match o with
| .go _=>(
some true)
| .ret r=>some r)
else(
some false)
theorem zgM{N:Nat}{p0:S_api_Net}{p1:S_haruspexref05_Draft}{p2:S_haruspexref05_Bend}{r:Bool}(h:zcH N p0 p1 p2=some r):Lx.Fn mC 3 [(.agg [(dI p0.grain),(fzE false zaa p0.nodes)]),(.agg [(dU8 p1.grain),(fzE false zaj p1.nodes),(fzE false (eI .u8) p1.order)]),(.agg [(dU8 p2.what),(dU8 p2.at_),(dU8 p2.row),(dI p2.n)])] (dB r):=by
 refine fnO (by conv=>lhs; cbv) ?_;unfold zcH at h;refine zab ?_;obtain⟨r1,g2,h⟩:=bind_some h;try simp only[rnA,Nat.reduceEqDiff,Nat.reduceLT,Nat.reduceAdd,reduceCtorEq]
 refine EvL.fn (zs7 g2) rfl rfl .nil ?_;try simp only[rnA,Nat.reduceEqDiff,Nat.reduceLT,reduceCtorEq]
 cases c3:r1
 ·rw[c3,cond_false]at h;try simp only[rnA,Nat.reduceLT]
  replace h:=qac h; subst h;exact zbO.ret rfl (.lit _)
 rw[c3,cond_true]at h;obtain⟨r4,g5,h⟩:=bind_some h;try simp only[rnA,Nat.reduceEqDiff,Nat.reduceLT,Nat.reduceAdd,Nat.reduceLeDiff,reduceCtorEq]
 refine EvL.fnS (zmF g5) rfl rfl (.cons (Mzs.agg (.cons (.lit _) (.cons (zen _ _ (fun h=>by cases h<;>contradiction)) .nil))) (.cons (Mzs.agg (.cons (.lit _) (.cons (zen _ _ (fun h=>by cases h<;>contradiction)) (.cons (zen _ _ (fun h=>by cases h<;>contradiction)) .nil)))) (.cons (Mzs.agg (.cons (.lit _) (.cons (.lit _) (.cons (.lit _) (.cons (.lit _) .nil))))) .nil))) ⟨⟨qdc,(zcu _ _),qdc⟩,⟨qdc,(zcu _ _),(zcu _ _),qdc⟩,⟨qdc,qdc,qdc,qdc,qdc⟩,qdc⟩ ⟨qdc,(zcu _ _),qdc,(zcu _ _),qdc,(zcu _ _),qdc⟩ ?_;try simp only[rnA,Nat.reduceLT]
 obtain⟨o28,j28,h⟩:=bind_some h;obtain⟨T28,hT28⟩:=mkT fun a:Unit=>⟨65,[],[]⟩
 refine EvL.jn T28 (fun a=>o28=.go a) ?_ ?_
 ·refine zab ?_;simp only[rnA];obtain⟨T47,hT47⟩:=mkT fun a:Int=>⟨65,[(18,(.agg [(dI r4.a0.grain),(fzE false zaa r4.a0.nodes),(dI r4.a1.grain),(fzE false zaa r4.a1.nodes),(dI r4.a2.grain),(fzE false zaa r4.a2.nodes)])),(19,(dI a))],[]⟩
  refine EvL.rounds (α:=Int) T47 (fun n a=>zbv N r4 n a=some o28) (3 - 0+2:Int).toNat 0 (by rw[hT47]; exact wm0 [] (by exact trivial)) j28 (fun _ h=>nomatch (show(none:Option (Out Unit Bool))=some o28 from h)) ?_;rintro n v19 j28;simp only[zbv]at j28;rw[congrFun hT47 v19];refine zab ?_;try simp only[rnA,Nat.reduceEqDiff,Nat.reduceLT]
  cases c6:(decide (v19<3))
  ·rw[c6,cond_false]at j28;try simp only[rnA]
   replace j28:=qac j28; subst j28;exact lfj hT28 rfl (wm0 [] (by exact trivial))
  rw[c6,cond_true]at j28;try simp only[rnA]
  obtain⟨o52,j52,j28⟩:=bind_some j28;obtain⟨T52,hT52⟩:=mkT fun a:Unit=>⟨65,[(18,(.agg [(dI r4.a0.grain),(fzE false zaa r4.a0.nodes),(dI r4.a1.grain),(fzE false zaa r4.a1.nodes),(dI r4.a2.grain),(fzE false zaa r4.a2.nodes)])),(19,(dI v19))],[]⟩
  refine EvL.jn T52 (fun a=>o52=.go a) ?_ ?_
  ·refine zab ?_;obtain⟨x7,g8,j52⟩:=bind_some j52;obtain⟨r9,g10,j52⟩:=bind_some j52;try simp only[rnA,Nat.reduceEqDiff,Nat.reduceLT,Nat.reduceAdd,Nat.reduceLeDiff,zbk g8,(show v19<((3:Nat):Int)from zbD g8),qbo,(show([(dI r4.a0.grain),(fzE false zaa r4.a0.nodes),(dI r4.a1.grain),(fzE false zaa r4.a1.nodes),(dI r4.a2.grain),(fzE false zaa r4.a2.nodes)].drop (v19.toNat * 2)).take 2=[(dI x7.grain),(fzE false zaa x7.nodes)]from ztu (e:=zcU) (t:=false) rfl g8 rfl),(show v19.toNat * 2+2≤6 from zxk (e:=zcU) rfl g8)]
   refine EvL.fn (zir g10) rfl rfl (.cons (.zc5 (.cons (.lit _) (.cons (zat _ _ (fun h=>nomatch h)) .nil))) .nil) ?_;obtain⟨r11,g12,j52⟩:=bind_some j52;try simp only[rnA,Nat.reduceEqDiff,Nat.reduceLT,Nat.reduceAdd,Nat.reduceLeDiff]
   refine EvL.fn (zlc g12) rfl rfl (.cons (.zc5 (.cons (.lit _) (.cons (zat _ _ (fun h=>nomatch h)) .nil))) .nil) ?_;try simp only[rnA,Nat.reduceEqDiff,Nat.reduceLT]
   cases c13:r11
   ·rw[c13,cond_false]at j52;try simp only[rnA]
    obtain⟨o53,j53,j52⟩:=bind_some j52;obtain⟨T53,hT53⟩:=mkT fun a:Bool=>⟨65,[(18,(.agg [(dI r4.a0.grain),(fzE false zaa r4.a0.nodes),(dI r4.a1.grain),(fzE false zaa r4.a1.nodes),(dI r4.a2.grain),(fzE false zaa r4.a2.nodes)])),(19,(dI v19)),(36,(dB a))],[]⟩
    refine EvL.jn T53 (fun a=>a=o53) ?_ ?_
    ·refine zab ?_;try simp only[rnA,Nat.reduceEqDiff,Nat.reduceLT,zam]
     cases c14:((r9.1.length:Int)== 0)
     ·rw[c14,cond_false]at j53;try simp only[rnA,Nat.reduceEqDiff,Nat.reduceLT]
      replace j53:=qac j53; subst j53;exact lfj hT53 rfl (wm0 [] (by exact trivial))
     rw[c14,cond_true]at j53;try simp only[rnA,Nat.reduceEqDiff,Nat.reduceLT]
     replace j53:=qac j53; subst j53;exact lfj hT53 rfl (wm0 [] (by exact trivial))
    rintro v36 rfl;rw[congrFun hT53 v36];refine zab ?_;try simp only[rnA,Nat.reduceEqDiff]
    cases c15:v36
    ·rw[c15,cond_false]at j52;try simp only[rnA,reduceCtorEq]
     replace j52:=qac j52; subst j52;exact lfj hT52 rfl (wm0 [] (by exact trivial))
    rw[c15,cond_true]at j52;try simp only[rnA,Nat.reduceLT]
    replace j52:=qac j52; subst j52;dsimp only at j28;replace j28:=qac j28; subst j28;dsimp only at h;replace h:=qac h; subst h;exact zbO.ret rfl (.lit _)
   rw[c13,cond_true]at j52;obtain⟨r16,g17,j52⟩:=bind_some j52;try simp only[rnA,Nat.reduceEqDiff,Nat.reduceLT,Nat.reduceAdd,Nat.reduceLeDiff]
   refine EvL.fn (zim g17) rfl rfl (.cons (.zc5 (.cons (.lit _) (.cons (zat _ _ (fun h=>nomatch h)) .nil))) .nil) ?_;try simp only[rnA,Nat.reduceEqDiff,Nat.reduceLT]
   obtain⟨o54,j54,j52⟩:=bind_some j52;obtain⟨T54,hT54⟩:=mkT fun a:Bool=>⟨65,[(9,(fzE true zae r9.1)),(11,(fzE true zae r16)),(18,(.agg [(dI r4.a0.grain),(fzE false zaa r4.a0.nodes),(dI r4.a1.grain),(fzE false zaa r4.a1.nodes),(dI r4.a2.grain),(fzE false zaa r4.a2.nodes)])),(19,(dI v19)),(47,(dB a))],[]⟩
   refine EvL.jn T54 (fun a=>a=o54) ?_ ?_
   ·refine zab ?_;try simp only[rnA,Nat.reduceEqDiff,Nat.reduceLT]
    cases c18:(r9.2 == 0)
    ·rw[c18,cond_false]at j54;try simp only[rnA,Nat.reduceEqDiff,Nat.reduceLT]
     replace j54:=qac j54; subst j54;exact lfj hT54 rfl (wm0 [] (by exact trivial))
    rw[c18,cond_true]at j54;try simp only[rnA,Nat.reduceEqDiff,Nat.reduceLT,zam]
    replace j54:=qac j54; subst j54;exact lfj hT54 rfl (wm0 [] (by exact trivial))
   rintro v47 rfl;rw[congrFun hT54 v47];refine zab ?_;try simp only[rnA,Nat.reduceEqDiff]
   cases c19:v47
   ·rw[c19,cond_false]at j52;try simp only[rnA,Nat.reduceEqDiff,Nat.reduceLT,zam]
    obtain⟨o55,j55,j52⟩:=bind_some j52;obtain⟨T55,hT55⟩:=mkT fun a:Unit=>⟨65,[(18,(.agg [(dI r4.a0.grain),(fzE false zaa r4.a0.nodes),(dI r4.a1.grain),(fzE false zaa r4.a1.nodes),(dI r4.a2.grain),(fzE false zaa r4.a2.nodes)])),(19,(dI v19))],[]⟩
    refine EvL.jn T55 (fun a=>o55=.go a) ?_ ?_
    ·refine zab ?_;simp only[rnA];obtain⟨T56,hT56⟩:=mkT fun a:Int=>⟨65,[(9,(fzE true zae r9.1)),(11,(fzE true zae r16)),(18,(.agg [(dI r4.a0.grain),(fzE false zaa r4.a0.nodes),(dI r4.a1.grain),(fzE false zaa r4.a1.nodes),(dI r4.a2.grain),(fzE false zaa r4.a2.nodes)])),(19,(dI v19)),(49,(dI (r9.1.length:Int))),(50,(dI a))],[]⟩
     refine EvL.rounds (α:=Int) T56 (fun n a=>zbt r9 r16 n a=some o55) ((r9.1.length:Int) - 0+2:Int).toNat 0 (by rw[hT56]; exact wm0 [] (by exact trivial)) j55 (fun _ h=>nomatch (show(none:Option (Out Unit Bool))=some o55 from h)) ?_;rintro n v50 j55;simp only[zbt]at j55;rw[congrFun hT56 v50];refine zab ?_;try simp only[rnA,Nat.reduceEqDiff,Nat.reduceLT]
     cases c20:(decide (v50<(r9.1.length:Int)))
     ·rw[c20,cond_false]at j55;try simp only[rnA,Nat.reduceEqDiff,reduceCtorEq]
      replace j55:=qac j55; subst j55;exact lfj hT55 rfl (wm0 [] (by exact trivial))
     rw[c20,cond_true]at j55;obtain⟨x21,g22,j55⟩:=bind_some j55;obtain⟨x23,g24,j55⟩:=bind_some j55;obtain⟨r25,g26,j55⟩:=bind_some j55;try simp only[rnA,Nat.reduceEqDiff,Nat.reduceLT,Nat.reduceAdd,Nat.reduceLeDiff,zfk,zak (n:=3) (e:=zae) rfl g22,zak (n:=3) (e:=zae) rfl g24]
     refine EvL.fn (zmU g26) rfl rfl (.cons (.zc5 (.cons (zat _ _ (fun h=>nomatch h)) (.cons (zat _ _ (fun h=>nomatch h)) (.cons (zat _ _ (fun h=>nomatch h)) .nil)))) (.cons (.zc5 (.cons (zat _ _ (fun h=>nomatch h)) (.cons (zat _ _ (fun h=>nomatch h)) (.cons (zat _ _ (fun h=>nomatch h)) .nil)))) .nil)) ?_;try simp only[rnA,Nat.reduceEqDiff,Nat.reduceLT]
     cases c27:r25
     ·rw[c27,cond_false]at j55;try simp only[rnA,Nat.reduceLT]
      replace j55:=qac j55; subst j55;dsimp only at j52;replace j52:=qac j52; subst j52;dsimp only at j28;replace j28:=qac j28; subst j28;dsimp only at h;replace h:=qac h; subst h;exact zbO.ret rfl (.lit _)
     rw[c27,cond_true]at j55;try simp only[rnA,Nat.reduceEqDiff,Nat.reduceLT]
     exact⟨(w64 (v50+1)),j55,by rw[hT56]; exact wm0 [] (by exact trivial)⟩
    rintro⟨⟩ rfl;dsimp only at j52;rw[congrFun hT55 ()];refine zab ?_;try simp only[rnA]
    replace j52:=qac j52; subst j52;exact lfj hT52 rfl (wm0 [] (by exact trivial))
   rw[c19,cond_true]at j52;try simp only[rnA,Nat.reduceLT]
   replace j52:=qac j52; subst j52;dsimp only at j28;replace j28:=qac j28; subst j28;dsimp only at h;replace h:=qac h; subst h;exact zbO.ret rfl (.lit _)
  rintro⟨⟩ rfl;dsimp only at j28;rw[congrFun hT52 ()];refine zab ?_;try simp only[rnA,Nat.reduceEqDiff,Nat.reduceLT]
  exact⟨(w64 (v19+1)),j28,by rw[hT47]; exact wm0 [] (by exact trivial)⟩
 rintro⟨⟩ rfl;dsimp only at h;rw[congrFun hT28 ()];refine zab ?_;try simp only[rnA,Nat.reduceLT]
 replace h:=qac h; subst h;exact zbO.ret rfl (.lit _)
end Go.Dc
