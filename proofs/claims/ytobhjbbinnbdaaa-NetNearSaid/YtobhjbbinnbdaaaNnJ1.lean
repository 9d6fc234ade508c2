/-
  What r02_At computes. Conditions: none.
-/
import Derived.Test.YtobhjbbinnbdaaaNnQt
namespace Go.Dc
open Go Go.Mx Go.Lx Go.Proofs
set_option maxRecDepth 100000
set_option maxHeartbeats 4000000
def zdt (p1 : (List Int)) (p0 : (List Int)) : Nat → Int → (List Int) → Option (List Int)
  | 0, _, _ => none
  | n+1, v6, l0 => (
bif (decide (v6 < (p1.length : Int))) then (
(zbn p1 v6).bind fun x2 =>
(zbn p0 x2).bind fun x4 =>
(zes 8 l0 [x4]).bind fun y6 =>
zdt p1 p0 n (w64 (v6 + 1)) y6)
else (
some l0))
def zeT (p0 : (List Int)) (p1 : (List Int)) : Option (List Int) :=
((zdt p1 p0 ((p1.length : Int) - 0 + 2 : Int).toNat 0 [] : Option (List Int))).bind fun l0 =>
some l0
def zk8 : C :=
 .seq (.reg false false [⟨some 4, .mov (.c (.slice none 0 0)), none⟩])
 (.seq (.reg false false [⟨some 5, .mov (.c (.slice none 0 0)), none⟩])
 (.seq (.seq (.reg false false [⟨some 6, .mov (.c (.int .i64 0)), none⟩])
 (.scope (.block 0 (.loop (.seq (.seq (.reg false false [⟨some 7, .mov (.s 6), none⟩,
 ⟨some 8, .mov (.s 1), none⟩,
 ⟨some 9, .len (.s 8), none⟩,
 ⟨some 10, .bin .lss (.s 7) (.s 9), none⟩])
 (.cond (.s 10) (.skip)
 (.exit 0)))
 (.seq (.block 1 (.reg false false [⟨some 13, .mov (.s 5), none⟩,
 ⟨some 14, .mov (.s 0), none⟩,
 ⟨some 15, .mov (.s 1), none⟩,
 ⟨some 16, .mov (.s 6), none⟩,
 ⟨some 17, .idxS 1 (.s 15) (.s 16), none⟩,
 ⟨some 18, .load none (.s 17), none⟩,
 ⟨some 19, .idxS 1 (.s 14) (.s 18), none⟩,
 ⟨some 20, .load none (.s 19), none⟩,
 ⟨some 21, .bsl 1 1 [(.int .i64 0)] [(0, (.s 20))], none⟩,
 ⟨some 22, .app 1 8 (.s 13) (.s 21), none⟩,
 ⟨some 5, .mov (.s 22), none⟩]))
 (.reg false false [⟨some 11, .mov (.s 6), none⟩,
 ⟨some 12, .bin .add (.s 11) (.c (.int .i64 1)), none⟩,
 ⟨some 6, .mov (.s 12), none⟩])))))))
 (.seq (.reg false false [⟨some 23, .mov (.s 5), none⟩,
 ⟨some 4, .mov (.s 23), none⟩])
 (.ret))))
theorem zlU : zeG mC 124 = some (24, zk8, [.tmp 4], false) := zaw (by kernel_rfl)
theorem znF {p0 : (List Int)} {p1 : (List Int)} {r : (List Int)} (h : zeT p0 p1 = some r) : Lx.Fn mC 124 [(fzE false (eI .i64) p0), (fzE false (eI .i64) p1)] (fzE true (eI .i64) r) := by
  refine Fn.of zlU (zav rfl) (Nat.le_of_ble_eq_true rfl) ?_
  unfold zeT at h
  unfold zk8
  refine zaa ?_
  try simp only [rnA, Nat.reduceLT, Nat.reduceAdd]
  obtain ⟨o1, j1, h⟩ := bind_some h
  obtain ⟨T1, hT1⟩ : ∃ T : (List Int) → LSt, T = (fun a => ⟨24, [(5, (.sl 0 0 1 a.length none a.length))], [.grow 1 (a.map ((eI .i64).c true))]⟩) := ⟨_, rfl⟩
  refine EvL.jn T1 (fun a => a = o1) ?_ ?_
  · refine zaa ?_
    simp only [rnA]
    obtain ⟨T2, hT2⟩ : ∃ T : (Int × (List Int)) → LSt, T = (fun a => ⟨24, [(0, (fzE false (eI .i64) p0)), (1, (fzE false (eI .i64) p1)), (5, (.sl 0 0 1 a.2.length none a.2.length)), (6, (dI a.1))], [.grow 1 (a.2.map ((eI .i64).c true))]⟩) := ⟨_, rfl⟩
    refine EvL.znM (zam.ghost (n := 1) (k := 5) (by decide) rfl) ?_
    refine EvL.rounds (α := (Int × (List Int))) T2 (fun n a => zdt p1 p0 n a.1 a.2 = some o1) ((p1.length : Int) - 0 + 2 : Int).toNat (0, []) (by rw [hT2]; exact zam.m0 [.k] rfl (ms rfl trivial (ms rfl trivial (ms rfl rfl (ms rfl trivial trivial)))) ⟨MB.gs (eI .i64) true [], trivial⟩) j1 (fun _ h => nomatch (show (none : Option (List Int)) = some o1 from h)) ?_
    · rintro n ⟨v6, l0⟩ j1
      simp only [zdt] at j1
      rw [congrFun hT2 (v6, l0)]
      refine zaa ?_
      try simp only [rnA, Nat.reduceEqDiff, Nat.reduceLT, reduceCtorEq, zax]
      cases c1 : (decide (v6 < (p1.length : Int)))
      · rw [c1, cond_false] at j1
        try simp only [rnA]
        replace j1 := Option.some.inj j1; subst j1
        exact ⟨_, rfl, by rw [hT1]; exact zam.m0 [.k] rfl (ms rfl rfl trivial) ⟨MB.gs (eI .i64) true l0, trivial⟩⟩
      · rw [c1, cond_true] at j1
        obtain ⟨x2, g3, j1⟩ := bind_some j1
        obtain ⟨x4, g5, j1⟩ := bind_some j1
        obtain ⟨y6, g7, j1⟩ := bind_some j1
        try simp only [rnA, Nat.reduceEqDiff, Nat.reduceLT, Nat.reduceLeDiff, reduceCtorEq, zak (n := 1) (e := (eI .i64)) rfl g3, zak (n := 1) (e := (eI .i64)) rfl g5, zdI g7, (show l0.length + 1 = y6.length from zcu g7), (show l0.map ((eI .i64).c true) ++ [[(dI x4)]] = y6.map ((eI .i64).c true) from zcX g7 ((eI .i64).c true))]
        exact ⟨((w64 (v6 + 1)), y6), j1, by rw [hT2]; exact zam.m0 [.k] rfl (ms rfl trivial (ms rfl trivial (ms rfl rfl (ms rfl trivial trivial)))) ⟨MB.gs (eI .i64) true y6, trivial⟩⟩
  · rintro l0 rfl
    rw [congrFun hT1 l0]
    refine zaa ?_
    try simp only [rnA, Nat.reduceEqDiff, Nat.reduceLT]
    replace h := Option.some.inj h; subst h
    exact zdj.ret rfl (zb8 (e := (eI .i64)) (t := true) rfl (.inr rfl) rfl rfl (fun k h => nomatch h) (fun _ => rfl))
end Go.Dc
namespace Go.Dc
open Go Go.Mx Go.Lx Go.Proofs
set_option maxRecDepth 100000
set_option maxHeartbeats 4000000
def zb2 (p0 : S_api_Net) : Nat → Int → (List Int) → Option (List Int)
  | 0, _, _ => none
  | n+1, v4, l1 => (
bif (decide (v4 < (p0.nodes.length : Int))) then (
(zbn p0.nodes v4).bind fun x2 =>
(zes 8 l1 [x2.card]).bind fun y4 =>
zb2 p0 n (w64 (v4 + 1)) y4)
else (
some l1))
def zcT (p0 : S_api_Net) : Option (List Int) :=
((zb2 p0 ((p0.nodes.length : Int) - 0 + 2 : Int).toNat 0 [] : Option (List Int))).bind fun l1 =>
some l1
def zge : C :=
 .seq (.reg false false [⟨some 1, .box (.s 0), none⟩,
 ⟨some 2, .mov (.c (.slice none 0 0)), none⟩])
 (.seq (.reg false false [⟨some 3, .mov (.c (.slice none 0 0)), none⟩])
 (.seq (.seq (.reg false false [⟨some 4, .mov (.c (.int .i64 0)), none⟩])
 (.scope (.block 0 (.loop (.seq (.seq (.reg false false [⟨some 5, .mov (.s 4), none⟩,
 ⟨some 6, .fld 1 (.s 1), none⟩,
 ⟨some 7, .load none (.s 6), none⟩,
 ⟨some 8, .len (.s 7), none⟩,
 ⟨some 9, .bin .lss (.s 5) (.s 8), none⟩])
 (.cond (.s 9) (.skip)
 (.exit 0)))
 (.seq (.block 1 (.reg false false [⟨some 12, .mov (.s 3), none⟩,
 ⟨some 13, .fld 1 (.s 1), none⟩,
 ⟨some 14, .load none (.s 13), none⟩,
 ⟨some 15, .mov (.s 4), none⟩,
 ⟨some 16, .idxS 3 (.s 14) (.s 15), none⟩,
 ⟨some 17, .fld 0 (.s 16), none⟩,
 ⟨some 18, .load none (.s 17), none⟩,
 ⟨some 19, .bsl 1 1 [(.int .i64 0)] [(0, (.s 18))], none⟩,
 ⟨some 20, .app 1 8 (.s 12) (.s 19), none⟩,
 ⟨some 3, .mov (.s 20), none⟩]))
 (.reg false false [⟨some 10, .mov (.s 4), none⟩,
 ⟨some 11, .bin .add (.s 10) (.c (.int .i64 1)), none⟩,
 ⟨some 4, .mov (.s 11), none⟩])))))))
 (.seq (.reg false false [⟨some 21, .mov (.s 3), none⟩,
 ⟨some 2, .mov (.s 21), none⟩])
 (.ret))))
theorem zh8 : zeG mC 144 = some (22, zge, [.tmp 2], false) := zaw (by kernel_rfl)
theorem zjN {p0 : S_api_Net} {r : (List Int)} (h : zcT p0 = some r) : Lx.Fn mC 144 [(.agg [(dI p0.grain), (fzE false zab p0.nodes)])] (fzE true (eI .i64) r) := by
  refine Fn.of zh8 (zav rfl) (Nat.le_of_ble_eq_true rfl) ?_
  unfold zcT at h
  unfold zge
  refine zaa ?_
  try simp only [rnA, Nat.reduceLT]
  obtain ⟨o1, j1, h⟩ := bind_some h
  obtain ⟨T1, hT1⟩ : ∃ T : (List Int) → LSt, T = (fun a => ⟨22, [(3, (.sl 1 0 1 a.length none a.length))], [.gone, .grow 1 (a.map ((eI .i64).c true))]⟩) := ⟨_, rfl⟩
  refine EvL.jn T1 (fun a => a = o1) ?_ ?_
  · refine zaa ?_
    simp only [rnA]
    obtain ⟨T2, hT2⟩ : ∃ T : (Int × (List Int)) → LSt, T = (fun a => ⟨22, [(1, (.ptr 0 0)), (3, (.sl 1 0 1 a.2.length none a.2.length)), (4, (dI a.1))], [.cells [(dI p0.grain), (fzE false zab p0.nodes)], .grow 1 (a.2.map ((eI .i64).c true))]⟩) := ⟨_, rfl⟩
    refine EvL.znM (zam.ghost (n := 1) (k := 3) (by decide) rfl) ?_
    refine EvL.rounds (α := (Int × (List Int))) T2 (fun n a => zb2 p0 n a.1 a.2 = some o1) ((p0.nodes.length : Int) - 0 + 2 : Int).toNat (0, []) (by rw [hT2]; exact zam.m0 [.k, .k] rfl (ms rfl rfl (ms rfl rfl (ms rfl trivial trivial))) ⟨MB.cs ⟨trivial, trivial, trivial⟩, ⟨MB.gs (eI .i64) true [], trivial⟩⟩) j1 (fun _ h => nomatch (show (none : Option (List Int)) = some o1 from h)) ?_
    · rintro n ⟨v4, l1⟩ j1
      simp only [zb2] at j1
      rw [congrFun hT2 (v4, l1)]
      refine zaa ?_
      try simp only [rnA, Nat.reduceEqDiff, Nat.reduceLT, zax]
      cases c1 : (decide (v4 < (p0.nodes.length : Int)))
      · rw [c1, cond_false] at j1
        try simp only [rnA]
        replace j1 := Option.some.inj j1; subst j1
        exact ⟨_, rfl, by rw [hT1]; exact zam.m0 [.d, .k] rfl (ms rfl rfl trivial) ⟨rfl, ⟨MB.gs (eI .i64) true l1, trivial⟩⟩⟩
      · rw [c1, cond_true] at j1
        obtain ⟨x2, g3, j1⟩ := bind_some j1
        obtain ⟨y4, g5, j1⟩ := bind_some j1
        try simp only [rnA, Nat.reduceEqDiff, Nat.reduceLT, Nat.reduceAdd, Nat.reduceLeDiff, zaB, zak (n := 3) (e := zab) rfl g3, zdI g5, (show l1.length + 1 = y4.length from zcu g5), (show l1.map ((eI .i64).c true) ++ [[(dI x2.card)]] = y4.map ((eI .i64).c true) from zcX g5 ((eI .i64).c true))]
        exact ⟨((w64 (v4 + 1)), y4), j1, by rw [hT2]; exact zam.m0 [.k, .k] rfl (ms rfl rfl (ms rfl rfl (ms rfl trivial trivial))) ⟨MB.cs ⟨trivial, trivial, trivial⟩, ⟨MB.gs (eI .i64) true y4, trivial⟩⟩⟩
  · rintro l1 rfl
    rw [congrFun hT1 l1]
    refine zaa ?_
    try simp only [rnA, Nat.reduceEqDiff, Nat.reduceLT]
    replace h := Option.some.inj h; subst h
    exact zdj.ret rfl (zb8 (e := (eI .i64)) (t := true) rfl (.inr rfl) rfl rfl (fun k h => nomatch h) (fun _ => rfl))
end Go.Dc
namespace Go.Dc
open Go Go.Mx Go.Lx Go.Proofs
set_option maxRecDepth 100000
set_option maxHeartbeats 4000000
def za2 (p0 : S_api_Net) (p1 : Int) : Option (List Int) :=
(zbn p0.nodes p1).bind fun x1 =>
(zcT p0).bind fun r3 =>
(zeT r3 x1.parents).bind fun r5 =>
some r5
def zds : C :=
 .seq (.reg false false [⟨some 2, .box (.s 0), none⟩,
 ⟨some 4, .mov (.c (.slice none 0 0)), none⟩])
 (.seq (.reg true true [⟨some 5, .load (some 2) (.s 2), none⟩,
 ⟨some 7, .fld 1 (.s 2), none⟩,
 ⟨some 8, .load none (.s 7), none⟩,
 ⟨some 9, .mov (.s 1), none⟩,
 ⟨some 10, .idxS 3 (.s 8) (.s 9), none⟩,
 ⟨some 11, .fld 1 (.s 10), none⟩,
 ⟨some 12, .load none (.s 11), none⟩,
 ⟨some 6, .call 144 [(.s 5)], none⟩,
 ⟨some 13, .call 124 [(.s 6), (.s 12)], none⟩,
 ⟨some 4, .mov (.s 13), none⟩])
 (.ret))
theorem zeK : zeG mC 143 = some (14, zds, [.tmp 4], false) := zaw (by kernel_rfl)
theorem zfe {p0 : S_api_Net} {p1 : Int} {r : (List Int)} (h : za2 p0 p1 = some r) : Lx.Fn mC 143 [(.agg [(dI p0.grain), (fzE false zab p0.nodes)]), (dI p1)] (fzE true (eI .i64) r) := by
  refine Fn.of zeK (zav rfl) (Nat.le_of_ble_eq_true rfl) ?_
  unfold za2 at h
  unfold zds
  refine zaa ?_
  obtain ⟨x1, g2, h⟩ := bind_some h
  obtain ⟨r3, g4, h⟩ := bind_some h
  try simp only [rnA, Nat.reduceEqDiff, Nat.reduceLT, Nat.reduceAdd, Nat.reduceLeDiff, reduceCtorEq, zaB, zak (n := 3) (e := zab) rfl g2]
  refine EvL.fn (zjN g4) rfl rfl (.cons (.zgT (.cons (.lit _) (.cons (zaq _ _ (fun h => nomatch h)) .nil))) .nil) ?_
  obtain ⟨r5, g6, h⟩ := bind_some h
  try simp only [rnA, Nat.reduceLT]
  refine EvL.fn (znF g6) rfl rfl (.cons (zaq _ _ (fun h => nomatch h)) (.cons (zaq _ _ (fun h => nomatch h)) .nil)) ?_
  try simp only [rnA, Nat.reduceEqDiff, Nat.reduceLT, reduceCtorEq]
  replace h := Option.some.inj h; subst h
  exact zdj.ret rfl (zaq _ _ (fun _ => rfl))
end Go.Dc
namespace Go.Dc
open Go Go.Mx Go.Lx Go.Proofs
set_option maxRecDepth 100000
set_option maxHeartbeats 4000000
def zcn (p0 : (List Int)) : Nat → Int → Int → Option Int
  | 0, _, _ => none
  | n+1, v3, v4 => (
bif (decide (v4 < (p0.length : Int))) then (
(zbn p0 v4).bind fun x2 =>
zcn p0 n (w64 (v3 * x2)) (w64 (v4 + 1)))
else (
some v3))
def zdr (p0 : (List Int)) : Option Int :=
((zcn p0 ((p0.length : Int) - 0 + 2 : Int).toNat 1 0 : Option Int)).bind fun v3 =>
some v3
def zhs : C :=
 .seq (.reg false false [⟨some 2, .mov (.c (.int .i64 0)), none⟩])
 (.seq (.reg false false [⟨some 3, .mov (.c (.int .i64 1)), none⟩])
 (.seq (.seq (.reg false false [⟨some 4, .mov (.c (.int .i64 0)), none⟩])
 (.scope (.block 0 (.loop (.seq (.seq (.reg false false [⟨some 5, .mov (.s 4), none⟩,
 ⟨some 6, .mov (.s 0), none⟩,
 ⟨some 7, .len (.s 6), none⟩,
 ⟨some 8, .bin .lss (.s 5) (.s 7), none⟩])
 (.cond (.s 8) (.skip)
 (.exit 0)))
 (.seq (.block 1 (.reg false false [⟨some 11, .mov (.s 3), none⟩,
 ⟨some 12, .mov (.s 0), none⟩,
 ⟨some 13, .mov (.s 4), none⟩,
 ⟨some 14, .idxS 1 (.s 12) (.s 13), none⟩,
 ⟨some 15, .load none (.s 14), none⟩,
 ⟨some 16, .bin .mul (.s 11) (.s 15), none⟩,
 ⟨some 3, .mov (.s 16), none⟩]))
 (.reg false false [⟨some 9, .mov (.s 4), none⟩,
 ⟨some 10, .bin .add (.s 9) (.c (.int .i64 1)), none⟩,
 ⟨some 4, .mov (.s 10), none⟩])))))))
 (.seq (.reg false false [⟨some 17, .mov (.s 3), none⟩,
 ⟨some 2, .mov (.s 17), none⟩])
 (.ret))))
theorem zj2 : zeG mC 142 = some (18, zhs, [.tmp 2], false) := zaw (by kernel_rfl)
theorem zkM {p0 : (List Int)} {r : Int} (h : zdr p0 = some r) : Lx.Fn mC 142 [(fzE false (eI .i64) p0)] (dI r) := by
  refine Fn.of zj2 (zav rfl) (Nat.le_of_ble_eq_true rfl) ?_
  unfold zdr at h
  unfold zhs
  refine zaa ?_
  try simp only [rnA, Nat.reduceLT]
  obtain ⟨o1, j1, h⟩ := bind_some h
  obtain ⟨T1, hT1⟩ : ∃ T : Int → LSt, T = (fun a => ⟨18, [(3, (dI a))], []⟩) := ⟨_, rfl⟩
  refine EvL.jn T1 (fun a => a = o1) ?_ ?_
  · refine zaa ?_
    simp only [rnA]
    obtain ⟨T2, hT2⟩ : ∃ T : (Int × Int) → LSt, T = (fun a => ⟨18, [(0, (fzE false (eI .i64) p0)), (3, (dI a.1)), (4, (dI a.2))], []⟩) := ⟨_, rfl⟩
    refine EvL.rounds (α := (Int × Int)) T2 (fun n a => zcn p0 n a.1 a.2 = some o1) ((p0.length : Int) - 0 + 2 : Int).toNat (1, 0) (by rw [hT2]; exact zam.m0 [] rfl (ms rfl trivial (ms rfl trivial (ms rfl trivial trivial))) trivial) j1 (fun _ h => nomatch (show (none : Option Int) = some o1 from h)) ?_
    · rintro n ⟨v3, v4⟩ j1
      simp only [zcn] at j1
      rw [congrFun hT2 (v3, v4)]
      refine zaa ?_
      try simp only [rnA, Nat.reduceEqDiff, Nat.reduceLT, reduceCtorEq, zax]
      cases c1 : (decide (v4 < (p0.length : Int)))
      · rw [c1, cond_false] at j1
        try simp only [rnA]
        replace j1 := Option.some.inj j1; subst j1
        exact ⟨_, rfl, by rw [hT1]; exact zam.m0 [] rfl (ms rfl trivial trivial) trivial⟩
      · rw [c1, cond_true] at j1
        obtain ⟨x2, g3, j1⟩ := bind_some j1
        try simp only [rnA, Nat.reduceEqDiff, Nat.reduceLT, reduceCtorEq, zak (n := 1) (e := (eI .i64)) rfl g3]
        exact ⟨((w64 (v3 * x2)), (w64 (v4 + 1))), j1, by rw [hT2]; exact zam.m0 [] rfl (ms rfl trivial (ms rfl trivial (ms rfl trivial trivial))) trivial⟩
  · rintro v3 rfl
    rw [congrFun hT1 v3]
    refine zaa ?_
    try simp only [rnA, Nat.reduceEqDiff, Nat.reduceLT]
    replace h := Option.some.inj h; subst h
    exact zdj.ret rfl (.lit _)
end Go.Dc
namespace Go.Dc
open Go Go.Mx Go.Lx Go.Proofs
set_option maxRecDepth 100000
set_option maxHeartbeats 4000000
def zbY (p1 : Int) (p2 : (List Int)) (p3 : Int) : Nat → Int → Int → (List Int) → Option (Int × (List Int))
  | 0, _, _, _ => none
  | n+1, v10, v11, l0 => (
bif (decide (v11 < p1)) then (
((bif (decide (0 < (p2.length : Int))) then (
(zqU (w64 (p3 + v11)) (p2.length : Int)).bind fun q5 =>
(zbn p2 q5).bind fun x7 =>
(zbn l0 v11).bind fun x9 =>
(zgD l0 v11 (w64 (x7.tmod 8))).bind fun y11 =>
some y11)
else (
some l0) : Option (List Int))).bind fun l0' =>
(zbn l0' v11).bind fun x13 =>
zbY p1 p2 p3 n (w64 (v10 + x13)) (w64 (v11 + 1)) l0')
else (
some (v10, l0)))
def zco (p1 : Int) (p0 : Int) (v10 : Int) : Nat → Int → Int → Int → (List Int) → Option (Int × Int × (List Int))
  | 0, _, _, _, _ => none
  | n+1, v12, v13, v14, l0' => (
bif (decide (v14 < p1)) then (
(zbn l0' v14).bind fun x16 =>
((bif (decide (0 < x16)) then (
(zrs .i64 (w64 (p0 * x16)) v10).bind fun q19 =>
(zgD l0' v14 q19).bind fun y21 =>
some (v14, y21))
else (
some (v13, l0')) : Option ((Int × (List Int))))).bind fun o => match o with
| (v13', l0'') => (
(zbn l0'' v14).bind fun x23 =>
zco p1 p0 v10 n (w64 (v12 - x23)) v13' (w64 (v14 + 1)) l0''))
else (
some (v12, v13, l0')))
def zea (p0 : Int) (p1 : Int) (p2 : (List Int)) (p3 : Int) : Option (List Int) :=
(zfF 8 p1 0).bind fun y1 =>
((zbY p1 p2 p3 (p1 - 0 + 2 : Int).toNat 0 0 y1 : Option ((Int × (List Int))))).bind fun o => match o with
| (v10, l0) => (
((zco p1 p0 v10 (p1 - 0 + 2 : Int).toNat p0 0 0 l0 : Option ((Int × Int × (List Int))))).bind fun o => match o with
| (v12, v13, l0') => (
(zbn l0' v13).bind fun x25 =>
(zgD l0' v13 (w64 (x25 + v12))).bind fun y27 =>
some y27))
def zjA : C :=
 .seq (.reg false false [⟨some 8, .mov (.c (.slice none 0 0)), none⟩])
 (.seq (.reg false false [⟨some 15, .mov (.s 1), none⟩,
 ⟨some 16, .mk 1 8 [(.int .i64 0)] (.s 15) (.s 15), none⟩,
 ⟨some 9, .mov (.s 16), none⟩])
 (.seq (.reg false false [⟨some 10, .mov (.c (.int .i64 0)), none⟩])
 (.seq (.seq (.reg false false [⟨some 11, .mov (.c (.int .i64 0)), none⟩])
 (.scope (.block 0 (.loop (.seq (.seq (.reg false false [⟨some 17, .mov (.s 11), none⟩,
 ⟨some 18, .mov (.s 1), none⟩,
 ⟨some 19, .bin .lss (.s 17) (.s 18), none⟩])
 (.cond (.s 19) (.skip)
 (.exit 0)))
 (.seq (.block 1 (.seq (.seq (.reg false false [⟨some 22, .mov (.s 2), none⟩,
 ⟨some 23, .len (.s 22), none⟩,
 ⟨some 24, .bin .gtr (.s 23) (.c (.int .i64 0)), none⟩])
 (.scope (.cond (.s 24) (.reg false false [⟨some 25, .mov (.s 9), none⟩,
 ⟨some 26, .mov (.s 11), none⟩,
 ⟨some 27, .mov (.s 2), none⟩,
 ⟨some 28, .mov (.s 3), none⟩,
 ⟨some 29, .mov (.s 11), none⟩,
 ⟨some 30, .bin .add (.s 28) (.s 29), none⟩,
 ⟨some 31, .mov (.s 2), none⟩,
 ⟨some 32, .len (.s 31), none⟩,
 ⟨some 33, .bin .rem (.s 30) (.s 32), none⟩,
 ⟨some 34, .idxS 1 (.s 27) (.s 33), none⟩,
 ⟨some 35, .load none (.s 34), none⟩,
 ⟨some 36, .bin .rem (.s 35) (.c (.int .u8 8)), none⟩,
 ⟨some 37, .conv .i64 (.s 36), none⟩,
 ⟨some 38, .idxS 1 (.s 25) (.s 26), none⟩,
 ⟨none, .store 1 (.s 38) (.s 37), none⟩])
 (.skip))))
 (.reg false false [⟨some 39, .mov (.s 10), none⟩,
 ⟨some 40, .mov (.s 9), none⟩,
 ⟨some 41, .mov (.s 11), none⟩,
 ⟨some 42, .idxS 1 (.s 40) (.s 41), none⟩,
 ⟨some 43, .load none (.s 42), none⟩,
 ⟨some 44, .bin .add (.s 39) (.s 43), none⟩,
 ⟨some 10, .mov (.s 44), none⟩])))
 (.reg false false [⟨some 20, .mov (.s 11), none⟩,
 ⟨some 21, .bin .add (.s 20) (.c (.int .i64 1)), none⟩,
 ⟨some 11, .mov (.s 21), none⟩])))))))
 (.seq (.reg false false [⟨some 45, .mov (.s 0), none⟩,
 ⟨some 12, .mov (.s 45), none⟩,
 ⟨some 13, .mov (.c (.int .i64 0)), none⟩])
 (.seq (.seq (.reg false false [⟨some 14, .mov (.c (.int .i64 0)), none⟩])
 (.scope (.block 2 (.loop (.seq (.seq (.reg false false [⟨some 46, .mov (.s 14), none⟩,
 ⟨some 47, .mov (.s 1), none⟩,
 ⟨some 48, .bin .lss (.s 46) (.s 47), none⟩])
 (.cond (.s 48) (.skip)
 (.exit 2)))
 (.seq (.block 3 (.seq (.seq (.reg false false [⟨some 51, .mov (.s 9), none⟩,
 ⟨some 52, .mov (.s 14), none⟩,
 ⟨some 53, .idxS 1 (.s 51) (.s 52), none⟩,
 ⟨some 54, .load none (.s 53), none⟩,
 ⟨some 55, .bin .gtr (.s 54) (.c (.int .i64 0)), none⟩])
 (.scope (.cond (.s 55) (.seq (.reg false false [⟨some 56, .mov (.s 9), none⟩,
 ⟨some 57, .mov (.s 14), none⟩,
 ⟨some 58, .mov (.s 0), none⟩,
 ⟨some 59, .mov (.s 9), none⟩,
 ⟨some 60, .mov (.s 14), none⟩,
 ⟨some 61, .idxS 1 (.s 59) (.s 60), none⟩,
 ⟨some 62, .load none (.s 61), none⟩,
 ⟨some 63, .bin .mul (.s 58) (.s 62), none⟩,
 ⟨some 64, .mov (.s 10), none⟩,
 ⟨some 65, .bin .quo (.s 63) (.s 64), none⟩,
 ⟨some 66, .idxS 1 (.s 56) (.s 57), none⟩,
 ⟨none, .store 1 (.s 66) (.s 65), none⟩])
 (.reg false false [⟨some 67, .mov (.s 14), none⟩,
 ⟨some 13, .mov (.s 67), none⟩]))
 (.skip))))
 (.reg false false [⟨some 68, .mov (.s 12), none⟩,
 ⟨some 69, .mov (.s 9), none⟩,
 ⟨some 70, .mov (.s 14), none⟩,
 ⟨some 71, .idxS 1 (.s 69) (.s 70), none⟩,
 ⟨some 72, .load none (.s 71), none⟩,
 ⟨some 73, .bin .sub (.s 68) (.s 72), none⟩,
 ⟨some 12, .mov (.s 73), none⟩])))
 (.reg false false [⟨some 49, .mov (.s 14), none⟩,
 ⟨some 50, .bin .add (.s 49) (.c (.int .i64 1)), none⟩,
 ⟨some 14, .mov (.s 50), none⟩])))))))
 (.seq (.reg false false [⟨some 74, .mov (.s 9), none⟩,
 ⟨some 75, .mov (.s 13), none⟩,
 ⟨some 76, .mov (.s 9), none⟩,
 ⟨some 77, .mov (.s 13), none⟩,
 ⟨some 78, .idxS 1 (.s 76) (.s 77), none⟩,
 ⟨some 79, .load none (.s 78), none⟩,
 ⟨some 80, .mov (.s 12), none⟩,
 ⟨some 81, .bin .add (.s 79) (.s 80), none⟩,
 ⟨some 82, .idxS 1 (.s 74) (.s 75), none⟩,
 ⟨none, .store 1 (.s 82) (.s 81), none⟩])
 (.seq (.reg false false [⟨some 83, .mov (.s 9), none⟩,
 ⟨some 8, .mov (.s 83), none⟩])
 (.ret))))))))
theorem zkY : zeG mC 150 = some (84, zjA, [.tmp 8], false) := zaw (by kernel_rfl)
theorem zmq {p0 : Int} {p1 : Int} {p2 : (List Int)} {p3 : Int} {r : (List Int)} (h : zea p0 p1 p2 p3 = some r) : Lx.Fn mC 150 [(dI p0), (dI p1), (fzE false (eI .u8) p2), (dI p3)] (fzE true (eI .i64) r) := by
  refine Fn.of zkY (zav rfl) (Nat.le_of_ble_eq_true rfl) ?_
  unfold zea at h
  unfold zjA
  refine zaa ?_
  obtain ⟨y1, g2, h⟩ := bind_some h
  try simp only [rnA, Nat.reduceEqDiff, Nat.reduceLT, Nat.reduceAdd, reduceCtorEq, (zbd g2).1.1, (zbd g2).1.2, Int.le_refl, (show List.replicate (Int.toNat p1) [(dI 0)] = y1.map ((eI .i64).c true) from zcR g2 ((eI .i64).c true))]
  obtain ⟨o4, j4, h⟩ := bind_some h
  obtain ⟨T4, hT4⟩ : ∃ T : (Int × (List Int)) → LSt, T = (fun a => ⟨84, [(0, (dI p0)), (1, (dI p1)), (9, (.sl 0 0 1 (Int.toNat p1) (some (Int.toNat p1)) (Int.toNat p1))), (10, (dI a.1))], [.els 1 (a.2.map ((eI .i64).c true))]⟩) := ⟨_, rfl⟩
  refine EvL.jn T4 (fun a => a = o4 ∧ a.2.length = (Int.toNat p1)) ?_ ?_
  · refine zaa ?_
    simp only [rnA]
    obtain ⟨T7, hT7⟩ : ∃ T : (Int × Int × (List Int)) → LSt, T = (fun a => ⟨84, [(0, (dI p0)), (1, (dI p1)), (2, (fzE false (eI .u8) p2)), (3, (dI p3)), (9, (.sl 0 0 1 (Int.toNat p1) (some (Int.toNat p1)) (Int.toNat p1))), (10, (dI a.1)), (11, (dI a.2.1))], [.els 1 (a.2.2.map ((eI .i64).c true))]⟩) := ⟨_, rfl⟩
    refine EvL.rounds (α := (Int × Int × (List Int))) T7 (fun n a => zbY p1 p2 p3 n a.1 a.2.1 a.2.2 = some o4 ∧ a.2.2.length = (Int.toNat p1)) (p1 - 0 + 2 : Int).toNat (0, 0, y1) (by rw [hT7]; exact zam.m0 [.k] rfl (ms rfl trivial (ms rfl trivial (ms rfl trivial (ms rfl trivial (ms rfl rfl (ms rfl trivial (ms rfl trivial trivial))))))) ⟨MB.es (eI .i64) true y1, trivial⟩) ⟨j4, zcx g2⟩ (fun _ h => nomatch (show (none : Option (Int × (List Int))) = some o4 from h.1)) ?_
    · rintro n ⟨v10, v11, l0⟩ ⟨j4, el0⟩
      simp only [zbY] at j4
      rw [congrFun hT7 (v10, v11, l0)]
      refine zaa ?_
      try simp only [rnA, Nat.reduceEqDiff, Nat.reduceLT, reduceCtorEq]
      cases c3 : (decide (v11 < p1))
      · rw [c3, cond_false] at j4
        try simp only [rnA]
        replace j4 := Option.some.inj j4; subst j4
        exact ⟨_, ⟨rfl, el0⟩, by rw [hT4]; exact zam.m0 [.k] rfl (ms rfl trivial (ms rfl trivial (ms rfl rfl (ms rfl trivial trivial)))) ⟨MB.es (eI .i64) true l0, trivial⟩⟩
      · rw [c3, cond_true] at j4
        try simp only [rnA, Nat.reduceEqDiff, Nat.reduceLT, reduceCtorEq, zax]
        obtain ⟨o8, j8, j4⟩ := bind_some j4
        obtain ⟨T8, hT8⟩ : ∃ T : (List Int) → LSt, T = (fun a => ⟨84, [(0, (dI p0)), (1, (dI p1)), (2, (fzE false (eI .u8) p2)), (3, (dI p3)), (9, (.sl 0 0 1 (Int.toNat p1) (some (Int.toNat p1)) (Int.toNat p1))), (10, (dI v10)), (11, (dI v11))], [.els 1 (a.map ((eI .i64).c true))]⟩) := ⟨_, rfl⟩
        refine EvL.jn T8 (fun a => a = o8 ∧ a.length = (Int.toNat p1)) ?_ ?_
        · refine zaa ?_
          try simp only [rnA, Nat.reduceEqDiff, reduceCtorEq]
          cases c4 : (decide (0 < (p2.length : Int)))
          · rw [c4, cond_false] at j8
            try simp only [rnA]
            replace j8 := Option.some.inj j8; subst j8
            exact ⟨_, ⟨rfl, el0⟩, by rw [hT8]; exact zam.m0 [.k] rfl (ms rfl trivial (ms rfl trivial (ms rfl trivial (ms rfl trivial (ms rfl rfl (ms rfl trivial (ms rfl trivial trivial))))))) ⟨MB.es (eI .i64) true l0, trivial⟩⟩
          · rw [c4, cond_true] at j8
            obtain ⟨q5, g6, j8⟩ := bind_some j8
            obtain ⟨x7, g8, j8⟩ := bind_some j8
            obtain ⟨x9, g10, j8⟩ := bind_some j8
            obtain ⟨y11, g12, j8⟩ := bind_some j8
            try simp only [rnA, Nat.reduceEqDiff, Nat.reduceLT, Nat.reduceLeDiff, Int.reduceBEq, reduceCtorEq, zax, zkt g6, znf g6, zak (n := 1) (e := (eI .u8)) rfl g8, el0, zbS g10, (show v11 < (((Int.toNat p1) : Nat) : Int) from el0 ▸ zcm g10), zbu g10 ((eI .i64).c true), (show (l0.map ((eI .i64).c true)).set v11.toNat [(dI (w64 (x7.tmod 8)))] = y11.map ((eI .i64).c true) from zcs g12 ((eI .i64).c true))]
            replace j8 := Option.some.inj j8; subst j8
            exact ⟨_, ⟨rfl, (zcc g12).trans el0⟩, by rw [hT8]; exact zam.m0 [.k] rfl (ms rfl trivial (ms rfl trivial (ms rfl trivial (ms rfl trivial (ms rfl rfl (ms rfl trivial (ms rfl trivial trivial))))))) ⟨MB.es (eI .i64) true y11, trivial⟩⟩
        · rintro l0' ⟨rfl, el0'⟩
          rw [congrFun hT8 l0']
          refine zaa ?_
          obtain ⟨x13, g14, j4⟩ := bind_some j4
          try simp only [rnA, Nat.reduceEqDiff, Nat.reduceLT, reduceCtorEq, el0', zbS g14, (show v11 < (((Int.toNat p1) : Nat) : Int) from el0' ▸ zcm g14), zbu g14 ((eI .i64).c true)]
          exact ⟨((w64 (v10 + x13)), (w64 (v11 + 1)), l0'), ⟨j4, el0'⟩, by rw [hT7]; exact zam.m0 [.k] rfl (ms rfl trivial (ms rfl trivial (ms rfl trivial (ms rfl trivial (ms rfl rfl (ms rfl trivial (ms rfl trivial trivial))))))) ⟨MB.es (eI .i64) true l0', trivial⟩⟩
  · rintro ⟨v10, l0⟩ ⟨rfl, el0⟩
    dsimp only at h
    rw [congrFun hT4 (v10, l0)]
    refine zaa ?_
    try simp only [rnA, Nat.reduceEqDiff, Nat.reduceLT, reduceCtorEq]
    obtain ⟨o13, j13, h⟩ := bind_some h
    obtain ⟨T13, hT13⟩ : ∃ T : (Int × Int × (List Int)) → LSt, T = (fun a => ⟨84, [(9, (.sl 0 0 1 (Int.toNat p1) (some (Int.toNat p1)) (Int.toNat p1))), (12, (dI a.1)), (13, (dI a.2.1))], [.els 1 (a.2.2.map ((eI .i64).c true))]⟩) := ⟨_, rfl⟩
    refine EvL.jn T13 (fun a => a = o13 ∧ a.2.2.length = (Int.toNat p1)) ?_ ?_
    · refine zaa ?_
      simp only [rnA]
      obtain ⟨T17, hT17⟩ : ∃ T : (Int × Int × Int × (List Int)) → LSt, T = (fun a => ⟨84, [(0, (dI p0)), (1, (dI p1)), (9, (.sl 0 0 1 (Int.toNat p1) (some (Int.toNat p1)) (Int.toNat p1))), (10, (dI v10)), (12, (dI a.1)), (13, (dI a.2.1)), (14, (dI a.2.2.1))], [.els 1 (a.2.2.2.map ((eI .i64).c true))]⟩) := ⟨_, rfl⟩
      refine EvL.rounds (α := (Int × Int × Int × (List Int))) T17 (fun n a => zco p1 p0 v10 n a.1 a.2.1 a.2.2.1 a.2.2.2 = some o13 ∧ a.2.2.2.length = (Int.toNat p1)) (p1 - 0 + 2 : Int).toNat (p0, 0, 0, l0) (by rw [hT17]; exact zam.m0 [.k] rfl (ms rfl trivial (ms rfl trivial (ms rfl rfl (ms rfl trivial (ms rfl trivial (ms rfl trivial (ms rfl trivial trivial))))))) ⟨MB.es (eI .i64) true l0, trivial⟩) ⟨j13, el0⟩ (fun _ h => nomatch (show (none : Option (Int × Int × (List Int))) = some o13 from h.1)) ?_
      · rintro n ⟨v12, v13, v14, l0'⟩ ⟨j13, el0'⟩
        simp only [zco] at j13
        rw [congrFun hT17 (v12, v13, v14, l0')]
        refine zaa ?_
        try simp only [rnA, Nat.reduceEqDiff, Nat.reduceLT, reduceCtorEq]
        cases c15 : (decide (v14 < p1))
        · rw [c15, cond_false] at j13
          try simp only [rnA]
          replace j13 := Option.some.inj j13; subst j13
          exact ⟨_, ⟨rfl, el0'⟩, by rw [hT13]; exact zam.m0 [.k] rfl (ms rfl rfl (ms rfl trivial (ms rfl trivial trivial))) ⟨MB.es (eI .i64) true l0', trivial⟩⟩
        · rw [c15, cond_true] at j13
          obtain ⟨x16, g17, j13⟩ := bind_some j13
          try simp only [rnA, Nat.reduceEqDiff, Nat.reduceLT, reduceCtorEq, el0', zbS g17, (show v14 < (((Int.toNat p1) : Nat) : Int) from el0' ▸ zcm g17), zbu g17 ((eI .i64).c true)]
          obtain ⟨o18, j18, j13⟩ := bind_some j13
          obtain ⟨T18, hT18⟩ : ∃ T : (Int × (List Int)) → LSt, T = (fun a => ⟨84, [(0, (dI p0)), (1, (dI p1)), (9, (.sl 0 0 1 (Int.toNat p1) (some (Int.toNat p1)) (Int.toNat p1))), (10, (dI v10)), (12, (dI v12)), (13, (dI a.1)), (14, (dI v14))], [.els 1 (a.2.map ((eI .i64).c true))]⟩) := ⟨_, rfl⟩
          refine EvL.jn T18 (fun a => a = o18 ∧ a.2.length = (Int.toNat p1)) ?_ ?_
          · refine zaa ?_
            try simp only [rnA, Nat.reduceEqDiff, reduceCtorEq]
            cases c18 : (decide (0 < x16))
            · rw [c18, cond_false] at j18
              try simp only [rnA]
              replace j18 := Option.some.inj j18; subst j18
              exact ⟨_, ⟨rfl, el0'⟩, by rw [hT18]; exact zam.m0 [.k] rfl (ms rfl trivial (ms rfl trivial (ms rfl rfl (ms rfl trivial (ms rfl trivial (ms rfl trivial (ms rfl trivial trivial))))))) ⟨MB.es (eI .i64) true l0', trivial⟩⟩
            · rw [c18, cond_true] at j18
              obtain ⟨q19, g20, j18⟩ := bind_some j18
              obtain ⟨y21, g22, j18⟩ := bind_some j18
              try simp only [rnA, Nat.reduceEqDiff, Nat.reduceLT, Nat.reduceLeDiff, reduceCtorEq, el0', zbS g17, (show v14 < (((Int.toNat p1) : Nat) : Int) from el0' ▸ zcm g17), zbu g17 ((eI .i64).c true), zov g20, zse g20, (show (l0'.map ((eI .i64).c true)).set v14.toNat [(dI q19)] = y21.map ((eI .i64).c true) from zcs g22 ((eI .i64).c true))]
              replace j18 := Option.some.inj j18; subst j18
              exact ⟨_, ⟨rfl, (zcc g22).trans el0'⟩, by rw [hT18]; exact zam.m0 [.k] rfl (ms rfl trivial (ms rfl trivial (ms rfl rfl (ms rfl trivial (ms rfl trivial (ms rfl trivial (ms rfl trivial trivial))))))) ⟨MB.es (eI .i64) true y21, trivial⟩⟩
          · rintro ⟨v13', l0''⟩ ⟨rfl, el0''⟩
            dsimp only at j13
            rw [congrFun hT18 (v13', l0'')]
            refine zaa ?_
            obtain ⟨x23, g24, j13⟩ := bind_some j13
            try simp only [rnA, Nat.reduceEqDiff, Nat.reduceLT, reduceCtorEq, el0'', zbS g24, (show v14 < (((Int.toNat p1) : Nat) : Int) from el0'' ▸ zcm g24), zbu g24 ((eI .i64).c true)]
            exact ⟨((w64 (v12 - x23)), v13', (w64 (v14 + 1)), l0''), ⟨j13, el0''⟩, by rw [hT17]; exact zam.m0 [.k] rfl (ms rfl trivial (ms rfl trivial (ms rfl rfl (ms rfl trivial (ms rfl trivial (ms rfl trivial (ms rfl trivial trivial))))))) ⟨MB.es (eI .i64) true l0'', trivial⟩⟩
    · rintro ⟨v12, v13, l0'⟩ ⟨rfl, el0'⟩
      dsimp only at h
      rw [congrFun hT13 (v12, v13, l0')]
      refine zaa ?_
      obtain ⟨x25, g26, h⟩ := bind_some h
      obtain ⟨y27, g28, h⟩ := bind_some h
      try simp only [rnA, Nat.reduceEqDiff, Nat.reduceLT, Nat.reduceLeDiff, el0', zbS g26, (show v13 < (((Int.toNat p1) : Nat) : Int) from el0' ▸ zcm g26), zbu g26 ((eI .i64).c true), (show (l0'.map ((eI .i64).c true)).set v13.toNat [(dI (w64 (x25 + v12)))] = y27.map ((eI .i64).c true) from zcs g28 ((eI .i64).c true))]
      replace h := Option.some.inj h; subst h
      exact zdj.ret rfl (zb8 (e := (eI .i64)) (t := true) rfl (.inl rfl) ((zcc g28).trans el0').symm ((zcc g28).trans el0').symm (fun k h => by cases h; exact Nat.le_refl _) (fun _ => rfl))
end Go.Dc
namespace Go.Dc
open Go Go.Mx Go.Lx Go.Proofs
set_option maxRecDepth 100000
set_option maxHeartbeats 4000000
def zaX (p0 : S_haruspexref02_Draft) : Nat → Int → (List Int) → Option (List Int)
  | 0, _, _ => none
  | n+1, v4, l1 => (
((bif (decide (v4 < (p0.c.length : Int))) then (
some (decide (v4 < 5)))
else (
some false) : Option Bool)).bind fun v13 =>
bif v13 then (
(zbn p0.c v4).bind fun x3 =>
(zes 8 l1 [(w64 (1 + (w64 (x3.tmod 4))))]).bind fun y5 =>
zaX p0 n (w64 (v4 + 1)) y5)
else (
some l1))
def zbe (N : Nat) (p0 : S_haruspexref02_Draft) : Option (List Int) :=
((zaX p0 N 0 [] : Option (List Int))).bind fun l1 =>
some l1
def zdB : C :=
 .seq (.reg false false [⟨some 1, .box (.s 0), none⟩,
 ⟨some 2, .mov (.c (.slice none 0 0)), none⟩])
 (.seq (.reg false false [⟨some 3, .mov (.c (.slice none 0 0)), none⟩])
 (.seq (.seq (.reg false false [⟨some 4, .mov (.c (.int .i64 0)), none⟩])
 (.scope (.block 0 (.loop (.seq (.seq (.scope (.reg false false [⟨some 5, .mov (.s 4), none⟩,
 ⟨some 6, .fld 0 (.s 1), none⟩,
 ⟨some 7, .load none (.s 6), none⟩,
 ⟨some 8, .len (.s 7), none⟩,
 ⟨some 9, .bin .lss (.s 5) (.s 8), none⟩,
 ⟨some 10, .mov (.s 9), none⟩,
 ⟨some 11, .mov (.s 4), some (10, true)⟩,
 ⟨some 12, .bin .lss (.s 11) (.c (.int .i64 5)), some (10, true)⟩,
 ⟨some 13, .pick (.s 10) (.s 12) (.c (.bool false)), none⟩]))
 (.cond (.s 13) (.skip)
 (.exit 0)))
 (.seq (.block 1 (.reg false false [⟨some 16, .mov (.s 3), none⟩,
 ⟨some 17, .fld 0 (.s 1), none⟩,
 ⟨some 18, .load none (.s 17), none⟩,
 ⟨some 19, .mov (.s 4), none⟩,
 ⟨some 20, .idxS 1 (.s 18) (.s 19), none⟩,
 ⟨some 21, .load none (.s 20), none⟩,
 ⟨some 22, .bin .rem (.s 21) (.c (.int .u8 4)), none⟩,
 ⟨some 23, .conv .i64 (.s 22), none⟩,
 ⟨some 24, .bin .add (.c (.int .i64 1)) (.s 23), none⟩,
 ⟨some 25, .bsl 1 1 [(.int .i64 0)] [(0, (.s 24))], none⟩,
 ⟨some 26, .app 1 8 (.s 16) (.s 25), none⟩,
 ⟨some 3, .mov (.s 26), none⟩]))
 (.reg false false [⟨some 14, .mov (.s 4), none⟩,
 ⟨some 15, .bin .add (.s 14) (.c (.int .i64 1)), none⟩,
 ⟨some 4, .mov (.s 15), none⟩])))))))
 (.seq (.reg false false [⟨some 27, .mov (.s 3), none⟩,
 ⟨some 2, .mov (.s 27), none⟩])
 (.ret))))
theorem zeJ : zeG mC 212 = some (28, zdB, [.tmp 2], false) := zaw (by kernel_rfl)
theorem zfl {N : Nat} {p0 : S_haruspexref02_Draft} {r : (List Int)} (h : zbe N p0 = some r) : Lx.Fn mC 212 [(.agg [(fzE false (eI .u8) p0.c), (.lit (.int .u16 p0.which)), (fzE false (eI .u8) p0.order)])] (fzE true (eI .i64) r) := by
  refine Fn.of zeJ (zav rfl) (Nat.le_of_ble_eq_true rfl) ?_
  unfold zbe at h
  unfold zdB
  refine zaa ?_
  try simp only [rnA, Nat.reduceLT]
  obtain ⟨o5, j5, h⟩ := bind_some h
  obtain ⟨T5, hT5⟩ : ∃ T : (List Int) → LSt, T = (fun a => ⟨28, [(3, (.sl 1 0 1 a.length none a.length))], [.gone, .grow 1 (a.map ((eI .i64).c true))]⟩) := ⟨_, rfl⟩
  refine EvL.jn T5 (fun a => a = o5) ?_ ?_
  · refine zaa ?_
    simp only [rnA]
    obtain ⟨T9, hT9⟩ : ∃ T : (Int × (List Int)) → LSt, T = (fun a => ⟨28, [(1, (.ptr 0 0)), (3, (.sl 1 0 1 a.2.length none a.2.length)), (4, (dI a.1))], [.cells [(fzE false (eI .u8) p0.c), (.lit (.int .u16 p0.which)), (fzE false (eI .u8) p0.order)], .grow 1 (a.2.map ((eI .i64).c true))]⟩) := ⟨_, rfl⟩
    refine EvL.znM (zam.ghost (n := 1) (k := 3) (by decide) rfl) ?_
    refine EvL.rounds (α := (Int × (List Int))) T9 (fun n a => zaX p0 n a.1 a.2 = some o5) N (0, []) (by rw [hT9]; exact zam.m0 [.k, .k] rfl (ms rfl rfl (ms rfl rfl (ms rfl trivial trivial))) ⟨MB.cs ⟨trivial, trivial, trivial, trivial⟩, ⟨MB.gs (eI .i64) true [], trivial⟩⟩) j5 (fun _ h => nomatch (show (none : Option (List Int)) = some o5 from h)) ?_
    · rintro n ⟨v4, l1⟩ j5
      simp only [zaX] at j5
      rw [congrFun hT9 (v4, l1)]
      refine zaa ?_
      try simp only [rnA]
      obtain ⟨o10, j10, j5⟩ := bind_some j5
      obtain ⟨T10, hT10⟩ : ∃ T : Bool → LSt, T = (fun a => ⟨28, [(1, (.ptr 0 0)), (3, (.sl 1 0 1 l1.length none l1.length)), (4, (dI v4)), (13, (dB a))], [.cells [(fzE false (eI .u8) p0.c), (.lit (.int .u16 p0.which)), (fzE false (eI .u8) p0.order)], .grow 1 (l1.map ((eI .i64).c true))]⟩) := ⟨_, rfl⟩
      refine EvL.jn T10 (fun a => a = o10) ?_ ?_
      · refine zaa ?_
        try simp only [rnA, Nat.reduceEqDiff, Nat.reduceLT, zax]
        cases c1 : (decide (v4 < (p0.c.length : Int)))
        · rw [c1, cond_false] at j10
          try simp only [rnA, Nat.reduceEqDiff, Nat.reduceLT]
          replace j10 := Option.some.inj j10; subst j10
          exact ⟨_, rfl, by rw [hT10]; exact zam.m0 [.k, .k] rfl (ms rfl rfl (ms rfl rfl (ms rfl trivial (ms rfl trivial trivial)))) ⟨MB.cs ⟨trivial, trivial, trivial, trivial⟩, ⟨MB.gs (eI .i64) true l1, trivial⟩⟩⟩
        · rw [c1, cond_true] at j10
          try simp only [rnA, Nat.reduceEqDiff, Nat.reduceLT]
          replace j10 := Option.some.inj j10; subst j10
          exact ⟨_, rfl, by rw [hT10]; exact zam.m0 [.k, .k] rfl (ms rfl rfl (ms rfl rfl (ms rfl trivial (ms rfl trivial trivial)))) ⟨MB.cs ⟨trivial, trivial, trivial, trivial⟩, ⟨MB.gs (eI .i64) true l1, trivial⟩⟩⟩
      · rintro v13 rfl
        rw [congrFun hT10 v13]
        refine zaa ?_
        try simp only [rnA, Nat.reduceEqDiff]
        cases c2 : v13
        · rw [c2, cond_false] at j5
          try simp only [rnA]
          replace j5 := Option.some.inj j5; subst j5
          exact ⟨_, rfl, by rw [hT5]; exact zam.m0 [.d, .k] rfl (ms rfl rfl trivial) ⟨rfl, ⟨MB.gs (eI .i64) true l1, trivial⟩⟩⟩
        · rw [c2, cond_true] at j5
          obtain ⟨x3, g4, j5⟩ := bind_some j5
          obtain ⟨y5, g6, j5⟩ := bind_some j5
          try simp only [rnA, Nat.reduceEqDiff, Nat.reduceLT, Nat.reduceAdd, Nat.reduceLeDiff, Int.reduceBEq, zak (n := 1) (e := (eI .u8)) rfl g4, zdI g6, (show l1.length + 1 = y5.length from zcu g6), (show l1.map ((eI .i64).c true) ++ [[(dI (w64 (1 + (w64 (x3.tmod 4)))))]] = y5.map ((eI .i64).c true) from zcX g6 ((eI .i64).c true))]
          exact ⟨((w64 (v4 + 1)), y5), j5, by rw [hT9]; exact zam.m0 [.k, .k] rfl (ms rfl rfl (ms rfl rfl (ms rfl trivial trivial))) ⟨MB.cs ⟨trivial, trivial, trivial, trivial⟩, ⟨MB.gs (eI .i64) true y5, trivial⟩⟩⟩
  · rintro l1 rfl
    rw [congrFun hT5 l1]
    refine zaa ?_
    try simp only [rnA, Nat.reduceEqDiff, Nat.reduceLT]
    replace h := Option.some.inj h; subst h
    exact zdj.ret rfl (zb8 (e := (eI .i64)) (t := true) rfl (.inr rfl) rfl rfl (fun k h => nomatch h) (fun _ => rfl))
end Go.Dc
namespace Go.Dc
open Go Go.Mx Go.Lx Go.Proofs
set_option maxRecDepth 100000
set_option maxHeartbeats 4000000
def zap (N : Nat) (p0 : S_haruspexref02_Draft) : Nat → Int → (List Int) → Option (List Int)
  | 0, _, _ => none
  | n+1, v4, l1 => (
(zbe N p0).bind fun r1 =>
bif (decide (v4 < (r1.length : Int))) then (
((bif (decide (v4 < (p0.order.length : Int))) then (
(zbn p0.order v4).bind fun x5 =>
(zqU (w64 x5) (w64 (v4 + 1))).bind fun q7 =>
some q7)
else (
some 0) : Option Int)).bind fun v5 =>
(zd4 l1 0 v5).bind fun y9 =>
(zhk 8 y9).bind fun y11 =>
(zes 8 y9 [v4]).bind fun y13 =>
(zd4 l1 v5 l1.length).bind fun y15 =>
(zes 8 y13 y15).bind fun y17 =>
zap N p0 n (w64 (v4 + 1)) y17)
else (
some l1))
def zaM (N : Nat) (p0 : S_haruspexref02_Draft) : Option (List Int) :=
((zap N p0 N 0 [] : Option (List Int))).bind fun l1 =>
some l1
def zca : C :=
 .seq (.reg false false [⟨some 1, .box (.s 0), none⟩,
 ⟨some 2, .mov (.c (.slice none 0 0)), none⟩])
 (.seq (.reg false false [⟨some 3, .mov (.c (.slice none 0 0)), none⟩])
 (.seq (.seq (.reg false false [⟨some 4, .mov (.c (.int .i64 0)), none⟩])
 (.scope (.block 0 (.loop (.seq (.seq (.reg false false [⟨some 7, .mov (.s 4), none⟩,
 ⟨some 8, .load (some 3) (.s 1), none⟩,
 ⟨some 9, .call 212 [(.s 8)], none⟩,
 ⟨some 10, .len (.s 9), none⟩,
 ⟨some 11, .bin .lss (.s 7) (.s 10), none⟩])
 (.cond (.s 11) (.skip)
 (.exit 0)))
 (.seq (.block 1 (.seq (.reg false false [⟨some 5, .mov (.c (.int .i64 0)), none⟩])
 (.seq (.seq (.reg false false [⟨some 14, .mov (.s 4), none⟩,
 ⟨some 15, .fld 2 (.s 1), none⟩,
 ⟨some 16, .load none (.s 15), none⟩,
 ⟨some 17, .len (.s 16), none⟩,
 ⟨some 18, .bin .lss (.s 14) (.s 17), none⟩])
 (.scope (.cond (.s 18) (.reg false false [⟨some 19, .fld 2 (.s 1), none⟩,
 ⟨some 20, .load none (.s 19), none⟩,
 ⟨some 21, .mov (.s 4), none⟩,
 ⟨some 22, .idxS 1 (.s 20) (.s 21), none⟩,
 ⟨some 23, .load none (.s 22), none⟩,
 ⟨some 24, .conv .i64 (.s 23), none⟩,
 ⟨some 25, .mov (.s 4), none⟩,
 ⟨some 26, .bin .add (.s 25) (.c (.int .i64 1)), none⟩,
 ⟨some 27, .bin .rem (.s 24) (.s 26), none⟩,
 ⟨some 5, .mov (.s 27), none⟩])
 (.skip))))
 (.seq (.reg false false [⟨some 6, .mov (.c (.slice none 0 0)), none⟩])
 (.seq (.reg false false [⟨some 28, .mov (.s 6), none⟩,
 ⟨some 29, .mov (.s 3), none⟩,
 ⟨some 30, .mov (.s 5), none⟩,
 ⟨some 31, .slc 1 (.s 29) none (some (.s 30)) none, none⟩,
 ⟨some 32, .app 1 8 (.s 28) (.s 31), none⟩,
 ⟨some 33, .mov (.s 4), none⟩,
 ⟨some 34, .bsl 1 1 [(.int .i64 0)] [(0, (.s 33))], none⟩,
 ⟨some 35, .app 1 8 (.s 32) (.s 34), none⟩,
 ⟨some 6, .mov (.s 35), none⟩])
 (.reg false false [⟨some 36, .mov (.s 6), none⟩,
 ⟨some 37, .mov (.s 3), none⟩,
 ⟨some 38, .mov (.s 5), none⟩,
 ⟨some 39, .slc 1 (.s 37) (some (.s 38)) none none, none⟩,
 ⟨some 40, .app 1 8 (.s 36) (.s 39), none⟩,
 ⟨some 3, .mov (.s 40), none⟩]))))))
 (.reg false false [⟨some 12, .mov (.s 4), none⟩,
 ⟨some 13, .bin .add (.s 12) (.c (.int .i64 1)), none⟩,
 ⟨some 4, .mov (.s 13), none⟩])))))))
 (.seq (.reg false false [⟨some 41, .mov (.s 3), none⟩,
 ⟨some 2, .mov (.s 41), none⟩])
 (.ret))))
theorem zdh : zeG mC 149 = some (42, zca, [.tmp 2], false) := zaw (by kernel_rfl)
theorem zdv {N : Nat} {p0 : S_haruspexref02_Draft} {r : (List Int)} (h : zaM N p0 = some r) : Lx.Fn mC 149 [(.agg [(fzE false (eI .u8) p0.c), (.lit (.int .u16 p0.which)), (fzE false (eI .u8) p0.order)])] (fzE true (eI .i64) r) := by
  refine Fn.of zdh (zav rfl) (Nat.le_of_ble_eq_true rfl) ?_
  unfold zaM at h
  unfold zca
  refine zaa ?_
  try simp only [rnA, Nat.reduceLT]
  obtain ⟨o5, j5, h⟩ := bind_some h
  obtain ⟨T5, hT5⟩ : ∃ T : (List Int) → LSt, T = (fun a => ⟨42, [(3, (.sl 1 0 1 a.length none a.length))], [.gone, .grow 1 (a.map ((eI .i64).c true))]⟩) := ⟨_, rfl⟩
  refine EvL.jn T5 (fun a => a = o5) ?_ ?_
  · refine zaa ?_
    simp only [rnA]
    obtain ⟨T9, hT9⟩ : ∃ T : (Int × (List Int)) → LSt, T = (fun a => ⟨42, [(1, (.ptr 0 0)), (3, (.sl 1 0 1 a.2.length none a.2.length)), (4, (dI a.1))], [.cells [(fzE false (eI .u8) p0.c), (.lit (.int .u16 p0.which)), (fzE false (eI .u8) p0.order)], .grow 1 (a.2.map ((eI .i64).c true))]⟩) := ⟨_, rfl⟩
    refine EvL.znM (zam.ghost (n := 1) (k := 3) (by decide) rfl) ?_
    refine EvL.rounds (α := (Int × (List Int))) T9 (fun n a => zap N p0 n a.1 a.2 = some o5) N (0, []) (by rw [hT9]; exact zam.m0 [.k, .k] rfl (ms rfl rfl (ms rfl rfl (ms rfl trivial trivial))) ⟨MB.cs ⟨trivial, trivial, trivial, trivial⟩, ⟨MB.gs (eI .i64) true [], trivial⟩⟩) j5 (fun _ h => nomatch (show (none : Option (List Int)) = some o5 from h)) ?_
    · rintro n ⟨v4, l1⟩ j5
      simp only [zap] at j5
      rw [congrFun hT9 (v4, l1)]
      refine zaa ?_
      obtain ⟨r1, g2, j5⟩ := bind_some j5
      try simp only [rnA, Nat.reduceEqDiff, Nat.reduceLT, Nat.reduceAdd, Nat.reduceLeDiff]
      refine EvL.fn (zfl g2) rfl rfl (.cons (.zgT (.cons (zaq _ _ (fun h => nomatch h)) (.cons (.lit _) (.cons (zaq _ _ (fun h => nomatch h)) .nil)))) .nil) ?_
      try simp only [rnA, Nat.reduceEqDiff, Nat.reduceLT, zax]
      cases c3 : (decide (v4 < (r1.length : Int)))
      · rw [c3, cond_false] at j5
        try simp only [rnA]
        replace j5 := Option.some.inj j5; subst j5
        exact ⟨_, rfl, by rw [hT5]; exact zam.m0 [.d, .k] rfl (ms rfl rfl trivial) ⟨rfl, ⟨MB.gs (eI .i64) true l1, trivial⟩⟩⟩
      · rw [c3, cond_true] at j5
        try simp only [rnA, Nat.reduceEqDiff, Nat.reduceLT, zax]
        obtain ⟨o10, j10, j5⟩ := bind_some j5
        obtain ⟨T10, hT10⟩ : ∃ T : Int → LSt, T = (fun a => ⟨42, [(1, (.ptr 0 0)), (3, (.sl 1 0 1 l1.length none l1.length)), (4, (dI v4)), (5, (dI a))], [.cells [(fzE false (eI .u8) p0.c), (.lit (.int .u16 p0.which)), (fzE false (eI .u8) p0.order)], .grow 1 (l1.map ((eI .i64).c true))]⟩) := ⟨_, rfl⟩
        refine EvL.jn T10 (fun a => a = o10) ?_ ?_
        · refine zaa ?_
          try simp only [rnA, Nat.reduceEqDiff]
          cases c4 : (decide (v4 < (p0.order.length : Int)))
          · rw [c4, cond_false] at j10
            try simp only [rnA]
            replace j10 := Option.some.inj j10; subst j10
            exact ⟨_, rfl, by rw [hT10]; exact zam.m0 [.k, .k] rfl (ms rfl rfl (ms rfl rfl (ms rfl trivial (ms rfl trivial trivial)))) ⟨MB.cs ⟨trivial, trivial, trivial, trivial⟩, ⟨MB.gs (eI .i64) true l1, trivial⟩⟩⟩
          · rw [c4, cond_true] at j10
            obtain ⟨x5, g6, j10⟩ := bind_some j10
            obtain ⟨q7, g8, j10⟩ := bind_some j10
            try simp only [rnA, Nat.reduceEqDiff, Nat.reduceLT, zak (n := 1) (e := (eI .u8)) rfl g6, zkt g8, znf g8]
            replace j10 := Option.some.inj j10; subst j10
            exact ⟨_, rfl, by rw [hT10]; exact zam.m0 [.k, .k] rfl (ms rfl rfl (ms rfl rfl (ms rfl trivial (ms rfl trivial trivial)))) ⟨MB.cs ⟨trivial, trivial, trivial, trivial⟩, ⟨MB.gs (eI .i64) true l1, trivial⟩⟩⟩
        · rintro v5 rfl
          rw [congrFun hT10 v5]
          refine EvL.znM (S' := ⟨42, [(1, (.ptr 0 0)), (3, (fzE true (eI .i64) l1)), (4, (dI v4)), (5, (dI v5))], [.cells [(fzE false (eI .u8) p0.c), (.lit (.int .u16 p0.which)), (fzE false (eI .u8) p0.order)]]⟩) (zam.m0 [.k, .f] rfl (ms rfl rfl (mf rfl (zqY (e := (eI .i64)) (t := true) rfl rfl (.inr rfl) rfl rfl (fun k h => nomatch h) (fun h => by cases h <;> rfl)) (ms rfl trivial (ms rfl trivial trivial)))) ⟨MB.cs ⟨trivial, trivial, trivial, trivial⟩, trivial⟩) (zaa ?_)
          obtain ⟨y9, g10, j5⟩ := bind_some j5
          obtain ⟨y11, g12, j5⟩ := bind_some j5
          obtain ⟨y13, g14, j5⟩ := bind_some j5
          obtain ⟨y15, g16, j5⟩ := bind_some j5
          obtain ⟨y17, g18, j5⟩ := bind_some j5
          try simp only [rnA, Nat.reduceEqDiff, Nat.reduceLT, Nat.reduceAdd, Nat.reduceLeDiff, zuj (n := 1) (e := (eI .i64)) rfl g10, zsc (n := 1) (e := (eI .i64)) rfl, znQ g12, zdI g14, (show y9.length + 1 = y13.length from zcu g14), (show y9.map ((eI .i64).c true) ++ [[(dI v4)]] = y13.map ((eI .i64).c true) from zcX g14 ((eI .i64).c true)), zsP (n := 1) (e := (eI .i64)) rfl g16, zdI g18, (show y13.length + y15.length = y17.length from zcu g18), (show y13.map ((eI .i64).c true) ++ y15.map ((eI .i64).c true) = y17.map ((eI .i64).c true) from zcX g18 ((eI .i64).c true))]
          exact ⟨((w64 (v4 + 1)), y17), j5, by rw [hT9]; exact zam.m0 [.k, .k] rfl (ms rfl rfl (ms rfl rfl (ms rfl trivial trivial))) ⟨MB.cs ⟨trivial, trivial, trivial, trivial⟩, ⟨MB.gs (eI .i64) true y17, trivial⟩⟩⟩
  · rintro l1 rfl
    rw [congrFun hT5 l1]
    refine zaa ?_
    try simp only [rnA, Nat.reduceEqDiff, Nat.reduceLT]
    replace h := Option.some.inj h; subst h
    exact zdj.ret rfl (zb8 (e := (eI .i64)) (t := true) rfl (.inr rfl) rfl rfl (fun k h => nomatch h) (fun _ => rfl))
end Go.Dc
namespace Go.Dc
open Go Go.Mx Go.Lx Go.Proofs
set_option maxRecDepth 100000
set_option maxHeartbeats 4000000
def zpz (num : List Int) (ps8 u k : Int) (ps : List Int) : Option Bool :=
  (zbn num k).bind fun x => bif x == u then ((zc7 .u8 ps8 (IntKind.u64.wrap k)).bind fun q => bif zbM .u8 q 1 == 1 then some (decide ((ps.length : Int) < 3)) else some false) else some false
def zkP (num : List Int) (i ps8 u : Int) : Nat → Int → List Int → Option (List Int)
  | 0, _, _ => none
  | n + 1, k, ps => bif decide (k < i) then ((zpz num ps8 u k ps).bind fun b => bif b then ((zes 8 ps [u]).bind fun ps2 => zkP num i ps8 u n (w64 (k + 1)) ps2) else zkP num i ps8 u n (w64 (k + 1)) ps) else some ps
def zmb (num : List Int) (i ps8 count : Int) : Nat → Int → List Int → Option (List Int)
  | 0, _, _ => none
  | n + 1, u, ps => bif decide (u < count) then ((zkP num i ps8 u (i.toNat + 2) 0 ps).bind fun ps2 => zmb num i ps8 count n (w64 (u + 1)) ps2) else some ps
def zkN (num : List Int) (i v count ps8 : Int) (nodes : List S_api_Node) : Option (List S_api_Node) :=
  (zbn nodes v).bind fun x => bif x.parents.isEmpty then ((zmb num i ps8 count (count.toNat + 2) 0 []).bind fun ps => zgD nodes v ⟨x.card, ps, x.rows⟩) else none
def zrd : C :=
 (.seq (.seq (.reg false false [⟨some 101, .mov (.s 14), none⟩,
 ⟨some 102, .mov (.s 10), none⟩,
 ⟨some 103, .bin .lss (.s 101) (.s 102), none⟩])
 (.cond (.s 103) (.skip)
 (.exit 6)))
 (.seq (.block 7 (.seq (.scope (.reg false false [⟨some 106, .mov (.s 5), none⟩,
 ⟨some 107, .mov (.s 14), none⟩,
 ⟨some 108, .idxS 1 (.s 106) (.s 107), none⟩,
 ⟨some 109, .load none (.s 108), none⟩,
 ⟨some 110, .mov (.s 13), none⟩,
 ⟨some 111, .bin .eql (.s 109) (.s 110), none⟩,
 ⟨some 112, .mov (.s 111), none⟩,
 ⟨some 113, .fld 1 (.s 11), some (112, true)⟩,
 ⟨some 114, .load none (.s 113), some (112, true)⟩,
 ⟨some 115, .mov (.s 14), some (112, true)⟩,
 ⟨some 116, .conv .u64 (.s 115), some (112, true)⟩,
 ⟨some 117, .bin .shr (.s 114) (.s 116), some (112, true)⟩,
 ⟨some 118, .bin .and (.s 117) (.c (.int .u8 1)), some (112, true)⟩,
 ⟨some 119, .bin .eql (.s 118) (.c (.int .u8 1)), some (112, true)⟩,
 ⟨some 120, .pick (.s 112) (.s 119) (.c (.bool false)), none⟩,
 ⟨some 121, .mov (.s 120), none⟩,
 ⟨some 122, .fld 1 (.s 4), some (121, true)⟩,
 ⟨some 123, .load none (.s 122), some (121, true)⟩,
 ⟨some 124, .mov (.s 12), some (121, true)⟩,
 ⟨some 125, .idxS 3 (.s 123) (.s 124), some (121, true)⟩,
 ⟨some 126, .fld 1 (.s 125), some (121, true)⟩,
 ⟨some 127, .load none (.s 126), some (121, true)⟩,
 ⟨some 128, .len (.s 127), some (121, true)⟩,
 ⟨some 129, .bin .lss (.s 128) (.c (.int .i64 3)), some (121, true)⟩,
 ⟨some 130, .pick (.s 121) (.s 129) (.c (.bool false)), none⟩]))
 (.scope (.cond (.s 130) (.reg true false [⟨some 131, .fld 1 (.s 4), none⟩,
 ⟨some 132, .load none (.s 131), none⟩,
 ⟨some 133, .mov (.s 12), none⟩,
 ⟨some 134, .fld 1 (.s 4), none⟩,
 ⟨some 135, .load none (.s 134), none⟩,
 ⟨some 136, .mov (.s 12), none⟩,
 ⟨some 137, .idxS 3 (.s 135) (.s 136), none⟩,
 ⟨some 138, .fld 1 (.s 137), none⟩,
 ⟨some 139, .load none (.s 138), none⟩,
 ⟨some 140, .mov (.s 13), none⟩,
 ⟨some 141, .bsl 1 1 [(.int .i64 0)] [(0, (.s 140))], none⟩,
 ⟨none, .avo [(.s 131)] (.s 139), none⟩,
 ⟨some 142, .app 1 8 (.s 139) (.s 141), none⟩,
 ⟨some 143, .idxS 3 (.s 132) (.s 133), none⟩,
 ⟨some 144, .fld 1 (.s 143), none⟩,
 ⟨none, .store 1 (.s 144) (.s 142), none⟩])
 (.skip)))))
 (.reg false false [⟨some 104, .mov (.s 14), none⟩,
 ⟨some 105, .bin .add (.s 104) (.c (.int .i64 1)), none⟩,
 ⟨some 14, .mov (.s 105), none⟩])))
def zre : C :=
 (.seq (.seq (.reg false false [⟨some 96, .mov (.s 13), none⟩,
 ⟨some 97, .mov (.s 3), none⟩,
 ⟨some 98, .bin .lss (.s 96) (.s 97), none⟩])
 (.cond (.s 98) (.skip)
 (.exit 4)))
 (.seq (.block 5 (.seq (.reg false false [⟨some 14, .mov (.c (.int .i64 0)), none⟩])
 (.scope (.block 6 (.loop zrd)))))
 (.reg false false [⟨some 99, .mov (.s 13), none⟩,
 ⟨some 100, .bin .add (.s 99) (.c (.int .i64 1)), none⟩,
 ⟨some 13, .mov (.s 100), none⟩])))
section
variable (b0 b1 : LB) (c40 c42 : D) (num : List Int) (i v count ps8 grain : Int) (cnt : Nat) (nodes : List S_api_Node) (x : S_api_Node)
end
theorem ztd {k : List K} {Q : LX → LSt → Prop} {b0 b1 : LB} {c40 c42 : D} {num : List Int} {i v count ps8 grain : Int} {cnt : Nat} {nodes nodes' : List S_api_Node}
    (g : zkN num i v count ps8 nodes = some nodes') (hb0 : ∀ kp, LB.kin kp b0) (hb1 : ∀ kp, LB.kin kp b1) (hc0 : ∀ kp, D.kin kp c40) (hc2 : ∀ kp, D.kin kp c42) (hl : nodes.length = cnt)
    (hk : EvL mC 0 k ⟨187, [(1, .ptr 0 0), (2, .ptr 1 0), (3, dI count), (4, .ptr 3 0), (5, fzE true (eI .i64) num), (10, dI i), (11, .ptr 4 0), (12, dI v)], [b0, b1, .els 3 (nodes'.map (zad.c true)), .cells [dI grain, .sl 2 0 3 cnt (some cnt) cnt], .cells [c40, dU8 ps8, c42]]⟩ Q) :
    EvL mC 0 (.code (.scope (.block 4 (.loop zre))) :: k) ⟨187, [(1, .ptr 0 0), (2, .ptr 1 0), (3, dI count), (4, .ptr 3 0), (5, fzE true (eI .i64) num), (10, dI i), (11, .ptr 4 0), (12, dI v), (13, dI 0)], [b0, b1, .els 3 (nodes.map (zad.c true)), .cells [dI grain, .sl 2 0 3 cnt (some cnt) cnt], .cells [c40, dU8 ps8, c42]]⟩ Q := by
  unfold zkN at g
  obtain ⟨x, gx, g⟩ := bind_some g
  cases hp : x.parents.isEmpty with
  | false => rw [hp] at g; cases g
  | true =>
  rw [hp, cond_true] at g
  obtain ⟨ps, gu, g⟩ := bind_some g
  have hv0 := zbS gx
  have hv1 : v < ((cnt : Nat) : Int) := hl ▸ zcm gx
  have hxe := zbu gx (zad.c true)
  have hxl := (List.getElem?_eq_some_iff.1 (zhS gx)).1
  have hgs : ∀ C : List D, ((nodes.map (zad.c true)).set v.toNat C)[v.toNat]? = some C := fun C => by rw [List.getElem?_set_self (by simpa using hxl)]
  obtain ⟨HP, hHP⟩ : ∃ HP : List Int → List LB, HP = (fun a => [b0, b1, .els 3 ((nodes.map (zad.c true)).set v.toNat [dI x.card, .sl 5 0 1 a.length none a.length, nE true (eL (eI .i64)) x.rows]), .cells [dI grain, .sl 2 0 3 cnt (some cnt) cnt], .cells [c40, dU8 ps8, c42], .grow 1 (a.map ((eI .i64).c true))]) := ⟨_, rfl⟩
  refine EvL.jn (α := Unit) (fun _ => ⟨187, [(1, .ptr 0 0), (2, .ptr 1 0), (3, dI count), (4, .ptr 3 0), (5, fzE true (eI .i64) num), (10, dI i), (11, .ptr 4 0), (12, dI v)], [b0, b1, .els 3 (nodes'.map (zad.c true)), .cells [dI grain, .sl 2 0 3 cnt (some cnt) cnt], .cells [c40, dU8 ps8, c42]]⟩) (fun _ => True) ?_ (fun _ _ => hk)
  refine zaa ?_
  simp only [rnA]
  refine EvL.znM (zam.zq7 (n := 1) (b := 2) (i := v.toNat) (o := 1) (by decide) rfl hxe (by rw [zdi, zrb _ _ hp]; rfl)) ?_
  obtain ⟨T, hT⟩ : ∃ T : Int × List Int → LSt, T = (fun a => ⟨187, [(1, .ptr 0 0), (2, .ptr 1 0), (3, dI count), (4, .ptr 3 0), (5, fzE true (eI .i64) num), (10, dI i), (11, .ptr 4 0), (12, dI v), (13, dI a.1)], HP a.2⟩) := ⟨_, rfl⟩
  refine EvL.rounds T (fun n a => zmb num i ps8 count n a.1 a.2 = some ps) (count.toNat + 2) (0, []) (by rw [hT, hHP]; exact zam.sub ⟨rfl, rfl, rfl, rfl, rfl, rfl, rfl, rfl, rfl, trivial⟩) gu (fun _ h => nomatch h) ?_
  rintro n ⟨u, a⟩ h
  simp only [zmb] at h
  rw [congrFun hT (u, a), congrFun hHP a]
  unfold zre
  refine zaa ?_
  cases c1 : decide (u < count) with
  | false =>
    rw [c1, cond_false] at h
    cases h
    simp only [rnA, Nat.reduceEqDiff, Nat.reduceLT, c1]
    exact ⟨(), trivial, zam.m0 [.k, .k, .k, .k, .k, .f] rfl (ms rfl rfl (ms rfl rfl (ms rfl trivial (ms rfl rfl (ms rfl trivial (ms rfl trivial (ms rfl rfl (ms rfl trivial trivial)))))))) ⟨.same (hb0 _), .same (hb1 _), MB.close g (.cons (.same trivial) (.cons (.fr (zmJ (t := true) rfl rfl rfl rfl (fun h => by cases h <;> rfl))) (.cons (.same (zjn _ _ _ _)) .nil))), MB.cs ⟨trivial, rfl, trivial⟩, MB.cs ⟨hc0 _, trivial, hc2 _, trivial⟩, trivial⟩⟩
  | true =>
    rw [c1, cond_true] at h
    obtain ⟨a2, gk, h⟩ := bind_some h
    simp only [rnA, Nat.reduceEqDiff, Nat.reduceLT, c1]
    refine EvL.scope (zaa ?_)
    simp only [rnA]
    obtain ⟨TK, hTK⟩ : ∃ TK : Int × List Int → LSt, TK = (fun a => ⟨187, [(1, .ptr 0 0), (2, .ptr 1 0), (3, dI count), (4, .ptr 3 0), (5, fzE true (eI .i64) num), (10, dI i), (11, .ptr 4 0), (12, dI v), (13, dI u), (14, dI a.1)], HP a.2⟩) := ⟨_, rfl⟩
    refine EvL.rounds TK (fun n a => zkP num i ps8 u n a.1 a.2 = some a2) (i.toNat + 2) (0, a) (by rw [hTK, hHP]; exact zam.sub ⟨rfl, rfl, rfl, rfl, rfl, rfl, rfl, rfl, rfl, rfl, trivial⟩) gk (fun _ h => nomatch h) ?_
    rintro m ⟨kk, b⟩ hk2
    simp only [zkP] at hk2
    rw [congrFun hTK (kk, b), congrFun hHP b]
    unfold zrd
    refine zaa ?_
    cases c2 : decide (kk < i) with
    | false =>
      rw [c2, cond_false] at hk2
      replace hk2 := Option.some.inj hk2; subst hk2
      simp only [rnA, Nat.reduceEqDiff, Nat.reduceLT, c2]
      exact ⟨(w64 (u + 1), b), h, by rw [hT, hHP]; exact zam.sub ⟨rfl, rfl, rfl, rfl, rfl, rfl, rfl, rfl, rfl, trivial⟩⟩
    | true =>
      rw [c2, cond_true] at hk2
      obtain ⟨t, gc, hk2⟩ := bind_some hk2
      unfold zpz at gc
      obtain ⟨y, gy, gc⟩ := bind_some gc
      simp only [rnA, Nat.reduceEqDiff, Nat.reduceLT, c2]
      refine EvL.scope (zaa ?_)
      cases c3 : (y == u) with
      | false =>
        rw [c3, cond_false] at gc
        replace gc := Option.some.inj gc; subst gc
        rw [cond_false] at hk2
        simp only [rnA, Nat.reduceEqDiff, Nat.reduceLT, c3, zak (n := 1) (e := (eI .i64)) rfl gy]
        refine EvL.scope (zaa ?_)
        simp only [rnA, Nat.reduceEqDiff, Nat.reduceLT]
        exact ⟨(w64 (kk + 1), b), hk2, by rw [hTK, hHP]; exact zam.sub ⟨rfl, rfl, rfl, rfl, rfl, rfl, rfl, rfl, rfl, rfl, trivial⟩⟩
      | true =>
        rw [c3, cond_true] at gc
        obtain ⟨q, gq, gc⟩ := bind_some gc
        cases c4 : (zbM .u8 q 1 == 1) with
        | false =>
          rw [c4, cond_false] at gc
          replace gc := Option.some.inj gc; subst gc
          rw [cond_false] at hk2
          simp only [rnA, Nat.reduceEqDiff, Nat.reduceLT, c3, c4, zak (n := 1) (e := (eI .i64)) rfl gy, (zaf gq).1, (zaf gq).2]
          refine EvL.scope (zaa ?_)
          simp only [rnA, Nat.reduceEqDiff, Nat.reduceLT]
          exact ⟨(w64 (kk + 1), b), hk2, by rw [hTK, hHP]; exact zam.sub ⟨rfl, rfl, rfl, rfl, rfl, rfl, rfl, rfl, rfl, rfl, trivial⟩⟩
        | true =>
          rw [c4, cond_true] at gc
          replace gc := Option.some.inj gc; subst gc
          simp only [rnA, Nat.reduceEqDiff, Nat.reduceLT, c3, c4, zak (n := 1) (e := (eI .i64)) rfl gy, (zaf gq).1, (zaf gq).2, hv0, hv1, List.length_set, hl, hgs]
          refine EvL.scope (zaa ?_)
          cases c5 : decide ((b.length : Int) < 3) with
          | false =>
            rw [c5, cond_false] at hk2
            simp only [rnA, Nat.reduceEqDiff, Nat.reduceLT]
            exact ⟨(w64 (kk + 1), b), hk2, by rw [hTK, hHP]; exact zam.sub ⟨rfl, rfl, rfl, rfl, rfl, rfl, rfl, rfl, rfl, rfl, trivial⟩⟩
          | true =>
            rw [c5, cond_true] at hk2
            obtain ⟨b2, gb, hk2⟩ := bind_some hk2
            simp only [rnA, Nat.reduceEqDiff, Nat.reduceLT, Nat.reduceAdd, Nat.reduceLeDiff, Nat.reduceBEq, hv0, hv1, List.length_set, hl, hgs, List.set_set, zdI gb, (show b.length + 1 = b2.length from zcu gb), (show b.map ((eI .i64).c true) ++ [[dI u]] = b2.map ((eI .i64).c true) from zcX gb ((eI .i64).c true))]
            exact ⟨(w64 (kk + 1), b2), hk2, by rw [hTK, hHP]; exact zam.m0 [.k, .k, .k, .k, .k, .k] rfl (ms rfl rfl (ms rfl rfl (ms rfl trivial (ms rfl rfl (ms rfl trivial (ms rfl trivial (ms rfl rfl (ms rfl trivial (ms rfl trivial (ms rfl trivial trivial)))))))))) ⟨.same (hb0 _), .same (hb1 _), MB.opn ⟨trivial, rfl, zjn _ _ _ _, trivial⟩, MB.cs ⟨trivial, rfl, trivial⟩, MB.cs ⟨hc0 _, trivial, hc2 _, trivial⟩, MB.gs (eI .i64) true b2, trivial⟩⟩
theorem zhl {num : List Int} {i v count ps8 : Int} {nodes nodes' : List S_api_Node} (g : zkN num i v count ps8 nodes = some nodes') : nodes'.length = nodes.length := by
  unfold zkN at g
  obtain ⟨x, gx, g⟩ := bind_some g
  cases hp : x.parents.isEmpty with
  | false => rw [hp] at g; cases g
  | true =>
  rw [hp, cond_true] at g
  obtain ⟨ps, gu, g⟩ := bind_some g
  exact zcc g
end Go.Dc
namespace Go.Dc
open Go Go.Mx Go.Lx Go.Proofs
set_option maxRecDepth 100000
set_option maxHeartbeats 4000000
def zms (grain v : Int) (W : List Int) (nodes : List S_api_Node) (x : S_api_Node) : Nat → Int → List (List Int) → Option (List (List Int))
  | 0, _, _ => none
  | n + 1, r, rows => (zgD nodes v ⟨x.card, x.parents, rows⟩).bind fun cur =>
      (za2 ⟨grain, cur⟩ v).bind fun pc => (zdr pc).bind fun sz =>
      bif decide (r < sz) then ((zea grain x.card W (w64 (r * w64 (x.card + 1)))).bind fun y => (zes 24 rows [y]).bind fun rows2 => zms grain v W nodes x n (w64 (r + 1)) rows2) else some rows
def zkQ (N : Nat) (grain v : Int) (W : List Int) (nodes : List S_api_Node) : Option (List S_api_Node) :=
  (zbn nodes v).bind fun x => bif x.rows.isEmpty then ((zms grain v W nodes x N 0 []).bind fun rows => zgD nodes v ⟨x.card, x.parents, rows⟩) else none
def zqQ : C :=
 (.seq (.seq (.reg false false [⟨some 145, .mov (.s 15), none⟩,
 ⟨some 146, .load (some 2) (.s 4), none⟩,
 ⟨some 147, .mov (.s 12), none⟩,
 ⟨some 148, .call 143 [(.s 146), (.s 147)], none⟩,
 ⟨some 149, .call 142 [(.s 148)], none⟩,
 ⟨some 150, .bin .lss (.s 145) (.s 149), none⟩])
 (.cond (.s 150) (.skip)
 (.exit 8)))
 (.seq (.block 9 (.reg true true [⟨some 153, .fld 1 (.s 4), none⟩,
 ⟨some 154, .load none (.s 153), none⟩,
 ⟨some 155, .mov (.s 12), none⟩,
 ⟨some 156, .fld 1 (.s 4), none⟩,
 ⟨some 157, .load none (.s 156), none⟩,
 ⟨some 158, .mov (.s 12), none⟩,
 ⟨some 159, .idxS 3 (.s 157) (.s 158), none⟩,
 ⟨some 160, .fld 2 (.s 159), none⟩,
 ⟨some 161, .load none (.s 160), none⟩,
 ⟨some 162, .fld 0 (.s 4), none⟩,
 ⟨some 163, .load none (.s 162), none⟩,
 ⟨some 164, .fld 1 (.s 4), none⟩,
 ⟨some 165, .load none (.s 164), none⟩,
 ⟨some 166, .mov (.s 12), none⟩,
 ⟨some 167, .idxS 3 (.s 165) (.s 166), none⟩,
 ⟨some 168, .fld 0 (.s 167), none⟩,
 ⟨some 169, .load none (.s 168), none⟩,
 ⟨some 170, .fld 2 (.s 11), none⟩,
 ⟨some 171, .load none (.s 170), none⟩,
 ⟨some 172, .mov (.s 15), none⟩,
 ⟨some 173, .fld 1 (.s 4), none⟩,
 ⟨some 174, .load none (.s 173), none⟩,
 ⟨some 175, .mov (.s 12), none⟩,
 ⟨some 176, .idxS 3 (.s 174) (.s 175), none⟩,
 ⟨some 177, .fld 0 (.s 176), none⟩,
 ⟨some 178, .load none (.s 177), none⟩,
 ⟨some 179, .bin .add (.s 178) (.c (.int .i64 1)), none⟩,
 ⟨some 180, .bin .mul (.s 172) (.s 179), none⟩,
 ⟨some 181, .call 150 [(.s 163), (.s 169), (.s 171), (.s 180)], none⟩,
 ⟨some 182, .bsl 1 1 [(.slice none 0 0)] [(0, (.s 181))], none⟩,
 ⟨none, .avo [(.s 153)] (.s 161), none⟩,
 ⟨some 183, .app 1 24 (.s 161) (.s 182), none⟩,
 ⟨some 184, .idxS 3 (.s 154) (.s 155), none⟩,
 ⟨some 185, .fld 2 (.s 184), none⟩,
 ⟨none, .store 1 (.s 185) (.s 183), none⟩]))
 (.reg false false [⟨some 151, .mov (.s 15), none⟩,
 ⟨some 152, .bin .add (.s 151) (.c (.int .i64 1)), none⟩,
 ⟨some 15, .mov (.s 152), none⟩])))
theorem zs4 {L : List LB} {nodes cur : List S_api_Node} {v : Int} {y : S_api_Node} {c : List D} (g : zgD nodes v y = some cur) (hc : Snps L false c (zab.c false y)) :
    Pw (Snp L false) ((nodes.map (zad.c true)).set v.toNat c) (cur.map (zab.c false)) := by
  rw [← zcs g (zab.c false)]
  exact Pw.set (Pw.map (fun x => ⟨(zcb (L := L) (t := true) (u := false) (fun h => nomatch h) x).len, (zcb (L := L) (t := true) (u := false) (fun h => nomatch h) x).get⟩) nodes) hc.len hc.get _
theorem zt5 {k : List K} {Q : LX → LSt → Prop} {b0 b1 : LB} {c40 c41 : D} {num W : List Int} {i v count grain : Int} {cnt N : Nat} {nodes nodes' : List S_api_Node}
    (g : zkQ N grain v W nodes = some nodes') (hb0 : ∀ kp, LB.kin kp b0) (hb1 : ∀ kp, LB.kin kp b1) (hc0 : ∀ kp, D.kin kp c40) (hc1 : ∀ kp, D.kin kp c41) (hl : nodes.length = cnt)
    (hk : EvL mC 0 k ⟨187, [(1, .ptr 0 0), (2, .ptr 1 0), (3, dI count), (4, .ptr 3 0), (5, fzE true (eI .i64) num), (10, dI i), (11, .ptr 4 0), (12, dI v)], [b0, b1, .els 3 (nodes'.map (zad.c true)), .cells [dI grain, .sl 2 0 3 cnt (some cnt) cnt], .cells [c40, c41, fzE false (eI .u8) W]]⟩ Q) :
    EvL mC 0 (.code (.scope (.block 8 (.loop zqQ))) :: k) ⟨187, [(1, .ptr 0 0), (2, .ptr 1 0), (3, dI count), (4, .ptr 3 0), (5, fzE true (eI .i64) num), (10, dI i), (11, .ptr 4 0), (12, dI v), (15, dI 0)], [b0, b1, .els 3 (nodes.map (zad.c true)), .cells [dI grain, .sl 2 0 3 cnt (some cnt) cnt], .cells [c40, c41, fzE false (eI .u8) W]]⟩ Q := by
  unfold zkQ at g
  obtain ⟨x, gx, g⟩ := bind_some g
  cases hp : x.rows.isEmpty with
  | false => rw [hp] at g; cases g
  | true =>
  rw [hp, cond_true] at g
  obtain ⟨rows, gu, g⟩ := bind_some g
  have hv0 := zbS gx
  have hv1 : v < ((cnt : Nat) : Int) := hl ▸ zcm gx
  have hxe := zbu gx (zad.c true)
  have hxl := (List.getElem?_eq_some_iff.1 (zhS gx)).1
  have hgs : ∀ C : List D, ((nodes.map (zad.c true)).set v.toNat C)[v.toNat]? = some C := fun C => by rw [List.getElem?_set_self (by simpa using hxl)]
  refine EvL.jn (α := Unit) (fun _ => ⟨187, [(1, .ptr 0 0), (2, .ptr 1 0), (3, dI count), (4, .ptr 3 0), (5, fzE true (eI .i64) num), (10, dI i), (11, .ptr 4 0), (12, dI v)], [b0, b1, .els 3 (nodes'.map (zad.c true)), .cells [dI grain, .sl 2 0 3 cnt (some cnt) cnt], .cells [c40, c41, fzE false (eI .u8) W]]⟩) (fun _ => True) ?_ (fun _ _ => hk)
  refine zaa ?_
  simp only [rnA]
  refine EvL.znM (zam.zq7 (n := 1) (b := 2) (i := v.toNat) (o := 2) (by decide) rfl hxe (by rw [zdi, zrb _ _ hp]; rfl)) ?_
  obtain ⟨T, hT⟩ : ∃ T : Int × List (List Int) → LSt, T = (fun a => ⟨187, [(1, .ptr 0 0), (2, .ptr 1 0), (3, dI count), (4, .ptr 3 0), (5, fzE true (eI .i64) num), (10, dI i), (11, .ptr 4 0), (12, dI v), (15, dI a.1)], [b0, b1, .els 3 ((nodes.map (zad.c true)).set v.toNat [dI x.card, nE true (eI .i64) x.parents, .sl 5 0 1 a.2.length none a.2.length]), .cells [dI grain, .sl 2 0 3 cnt (some cnt) cnt], .cells [c40, c41, fzE false (eI .u8) W], .grow 1 (a.2.map ((eL (eI .i64)).c true))]⟩) := ⟨_, rfl⟩
  refine EvL.rounds T (fun n a => zms grain v W nodes x n a.1 a.2 = some rows) N (0, []) (by rw [hT]; exact zam.sub ⟨rfl, rfl, rfl, rfl, rfl, rfl, rfl, rfl, rfl, trivial⟩) gu (fun _ h => nomatch h) ?_
  rintro n ⟨r, a⟩ h
  simp only [zms] at h
  obtain ⟨cur, gcur, h⟩ := bind_some h
  obtain ⟨pc, gpc, h⟩ := bind_some h
  obtain ⟨sz, gsz, h⟩ := bind_some h
  rw [congrFun hT (r, a)]
  unfold zqQ
  refine zaa ?_
  simp only [rnA, Nat.reduceEqDiff, Nat.reduceLT, Nat.reduceAdd, Nat.reduceLeDiff]
  refine EvL.fn (zfe gpc) rfl rfl (.cons (.zgT (.cons (.lit _) (.cons (zlO (e := zab) rfl (.inl rfl) (by rw [List.length_set, List.length_map]; exact hl.symm) (by rw [List.length_set, List.length_map]; exact hl.symm) (fun k h => by cases h; exact Nat.le_refl _) (zs4 gcur (.cons (.lit _) (.cons (zkw _ _ (fun h => nomatch h)) (.cons (zb8 (e := (eL (eI .i64))) (t := true) rfl (.inr rfl) rfl rfl (fun k h => nomatch h) (fun h => nomatch h)) .nil))))) .nil))) (.cons (.lit _) .nil)) ?_
  simp only [rnA, Nat.reduceLT]
  refine EvL.fn (zkM gsz) rfl rfl (.cons (zaq _ _ (fun h => nomatch h)) .nil) ?_
  cases c1 : decide (r < sz) with
  | false =>
    rw [c1, cond_false] at h
    replace h := Option.some.inj h; subst h
    simp only [rnA, Nat.reduceEqDiff, Nat.reduceLT, c1]
    exact ⟨(), trivial, zam.m0 [.k, .k, .k, .k, .k, .f] rfl (ms rfl rfl (ms rfl rfl (ms rfl trivial (ms rfl rfl (ms rfl trivial (ms rfl trivial (ms rfl rfl (ms rfl trivial trivial)))))))) ⟨.same (hb0 _), .same (hb1 _), MB.close g (.cons (.same trivial) (.cons (.same (zjn _ _ _ _)) (.cons (.fr (zmJ (t := true) rfl rfl rfl rfl (fun h => by cases h <;> rfl))) .nil))), MB.cs ⟨trivial, rfl, trivial⟩, MB.cs ⟨hc0 _, hc1 _, trivial, trivial⟩, trivial⟩⟩
  | true =>
    rw [c1, cond_true] at h
    obtain ⟨y, gy, h⟩ := bind_some h
    obtain ⟨b2, gb, h⟩ := bind_some h
    simp only [rnA, Nat.reduceEqDiff, Nat.reduceLT, c1, hv0, hv1, List.length_set, hl, hgs]
    refine EvL.fn (zmq gy) rfl rfl (.cons (.lit _) (.cons (.lit _) (.cons (zaq _ _ (fun h => nomatch h)) (.cons (.lit _) .nil)))) ?_
    simp only [rnA, Nat.reduceEqDiff, Nat.reduceLT, Nat.reduceAdd, Nat.reduceLeDiff, Nat.reduceBEq, hv0, hv1, List.length_set, hl, hgs, List.set_set, zdI gb, (show a.length + 1 = b2.length from zcu gb), (show a.map ((eL (eI .i64)).c true) ++ [[fzE true (eI .i64) y]] = b2.map ((eL (eI .i64)).c true) from zcX gb ((eL (eI .i64)).c true))]
    exact ⟨(w64 (r + 1), b2), h, by rw [hT]; exact zam.m0 [.k, .k, .k, .k, .k, .k] rfl (ms rfl rfl (ms rfl rfl (ms rfl trivial (ms rfl rfl (ms rfl trivial (ms rfl trivial (ms rfl rfl (ms rfl trivial (ms rfl trivial trivial))))))))) ⟨.same (hb0 _), .same (hb1 _), MB.opn ⟨trivial, zjn _ _ _ _, rfl, trivial⟩, MB.cs ⟨trivial, rfl, trivial⟩, MB.cs ⟨hc0 _, hc1 _, trivial, trivial⟩, MB.gs (eL (eI .i64)) true b2, trivial⟩⟩
theorem zmz {N : Nat} {grain v : Int} {W : List Int} {nodes nodes' : List S_api_Node} (g : zkQ N grain v W nodes = some nodes') : nodes'.length = nodes.length := by
  unfold zkQ at g
  obtain ⟨x, gx, g⟩ := bind_some g
  cases hp : x.rows.isEmpty with
  | false => rw [hp] at g; cases g
  | true =>
  rw [hp, cond_true] at g
  obtain ⟨ps, gu, g⟩ := bind_some g
  exact zcc g
end Go.Dc
namespace Go.Dc
open Go Go.Mx Go.Lx Go.Proofs
set_option maxRecDepth 100000
set_option maxHeartbeats 4000000
def zaZ (p0 : S_haruspexref05_Draft) (r5 : (List Int)) : Nat → Int → Int → (List S_api_Node) → Option (List S_api_Node)
  | 0, _, _, _ => none
  | n+1, v6, v7, l2 => (
bif (decide (v7 < (zcg (zce (p0.nodes.length : Int) 1) 5))) then (
((bif (decide (v7 < (p0.nodes.length : Int))) then (
(zbn p0.nodes v7).bind fun x9 =>
some (x9.card, x9.parents, x9.w))
else (
some (0, 0, [])) : Option ((Int × Int × (List Int))))).bind fun o => match o with
| (b4_0, b4_1, b4_2) => (
(zjj .i64 (w64 (v6 * (w64 (2 + (w64 (b4_0.tmod 2)))))) (IntKind.u64.wrap (w64 ((w64 ((zcg (zce (p0.nodes.length : Int) 1) 5) - 1)) - v7)))).bind fun q11 =>
((bif (decide (100 < q11)) then (
some 2)
else (
some (w64 (2 + (w64 (b4_0.tmod 2))))) : Option Int)).bind fun v9 =>
(zbn r5 v7).bind fun x14 =>
(zbn l2 x14).bind fun x16 =>
(zgD l2 x14 (S_api_Node.mk v9 x16.parents x16.rows)).bind fun y18 =>
zaZ p0 r5 n (w64 (v6 * v9)) (w64 (v7 + 1)) y18))
else (
some l2))
def za8 (N : Nat) (p0 : S_haruspexref05_Draft) (r5 : (List Int)) : Nat → Int → (List S_api_Node) → Option (List S_api_Node)
  | 0, _, _ => none
  | n+1, v10, l2' => (
bif (decide (v10 < (zcg (zce (p0.nodes.length : Int) 1) 5))) then (
((bif (decide (v10 < (p0.nodes.length : Int))) then (
(zbn p0.nodes v10).bind fun x22 =>
some (x22.card, x22.parents, x22.w))
else (
some (0, 0, [])) : Option ((Int × Int × (List Int))))).bind fun o => match o with
| (b4_0, b4_1, b4_2) => (
(zbn r5 v10).bind fun x24 =>
(zkN r5 v10 x24 (zcg (zce (p0.nodes.length : Int) 1) 5) b4_1 l2').bind fun y26 =>
(zkQ N (w64 (1 + (w64 (p0.grain.tmod 60)))) x24 b4_2 y26).bind fun y28 =>
za8 N p0 r5 n (w64 (v10 + 1)) y28))
else (
some l2'))
def zbz (N : Nat) (p0 : S_haruspexref05_Draft) : Option S_api_Net :=
(zfF 56 (zcg (zce (p0.nodes.length : Int) 1) 5) (S_api_Node.mk 0 [] [])).bind fun y1 =>
(zfF 1 (zcg (zce (p0.nodes.length : Int) 1) 5) 0).bind fun y3 =>
(zaM N (S_haruspexref02_Draft.mk y3 0 p0.order)).bind fun r5 =>
((zaZ p0 r5 ((zcg (zce (p0.nodes.length : Int) 1) 5) - 0 + 2 : Int).toNat 1 0 y1 : Option (List S_api_Node))).bind fun l2 =>
((za8 N p0 r5 ((zcg (zce (p0.nodes.length : Int) 1) 5) - 0 + 2 : Int).toNat 0 l2 : Option (List S_api_Node))).bind fun l2' =>
some (S_api_Net.mk (w64 (1 + (w64 (p0.grain.tmod 60)))) l2')
def zd6 : C :=
 .seq (.reg false false [⟨some 1, .box (.s 0), none⟩,
 ⟨some 2, .alloc [(.int .i64 0), (.slice none 0 0)], none⟩])
 (.seq (.reg false false [⟨some 16, .fld 1 (.s 1), none⟩,
 ⟨some 17, .load none (.s 16), none⟩,
 ⟨some 18, .len (.s 17), none⟩,
 ⟨some 19, .mm true [(.s 18), (.c (.int .i64 1))], none⟩,
 ⟨some 20, .mm false [(.s 19), (.c (.int .i64 5))], none⟩,
 ⟨some 3, .mov (.s 20), none⟩])
 (.seq (.reg true false [⟨some 21, .fld 0 (.s 1), none⟩,
 ⟨some 22, .load none (.s 21), none⟩,
 ⟨some 23, .bin .rem (.s 22) (.c (.int .u8 60)), none⟩,
 ⟨some 24, .conv .i64 (.s 23), none⟩,
 ⟨some 25, .bin .add (.c (.int .i64 1)) (.s 24), none⟩,
 ⟨some 26, .mov (.s 3), none⟩,
 ⟨some 27, .mk 3 56 [(.int .i64 0), (.slice none 0 0), (.slice none 0 0)] (.s 26) (.s 26), none⟩,
 ⟨some 28, .build [(.int .i64 0), (.slice none 0 0)] [(0, 1, (.s 25)), (1, 1, (.s 27))], none⟩,
 ⟨some 4, .alloc [(.int .i64 0), (.slice none 0 0)], none⟩,
 ⟨none, .store 2 (.s 4) (.s 28), none⟩])
 (.seq (.reg true false [⟨some 29, .mov (.s 3), none⟩,
 ⟨some 31, .fld 2 (.s 1), none⟩,
 ⟨some 32, .load none (.s 31), none⟩,
 ⟨some 30, .mk 1 1 [(.int .u8 0)] (.s 29) (.s 29), none⟩,
 ⟨some 33, .build [(.slice none 0 0), (.int .u16 0), (.slice none 0 0)] [(0, 1, (.s 30)), (2, 1, (.s 32))], none⟩,
 ⟨some 34, .call 149 [(.s 33)], none⟩,
 ⟨some 5, .mov (.s 34), none⟩])
 (.seq (.reg false false [⟨some 6, .mov (.c (.int .i64 1)), none⟩])
 (.seq (.seq (.reg false false [⟨some 7, .mov (.c (.int .i64 0)), none⟩])
 (.scope (.block 0 (.loop (.seq (.seq (.reg false false [⟨some 35, .mov (.s 7), none⟩,
 ⟨some 36, .mov (.s 3), none⟩,
 ⟨some 37, .bin .lss (.s 35) (.s 36), none⟩])
 (.cond (.s 37) (.skip)
 (.exit 0)))
 (.seq (.block 1 (.seq (.reg false false [⟨some 8, .alloc [(.int .u8 0), (.int .u8 0), (.slice none 0 0)], none⟩])
 (.seq (.seq (.reg false false [⟨some 40, .mov (.s 7), none⟩,
 ⟨some 41, .fld 1 (.s 1), none⟩,
 ⟨some 42, .load none (.s 41), none⟩,
 ⟨some 43, .len (.s 42), none⟩,
 ⟨some 44, .bin .lss (.s 40) (.s 43), none⟩])
 (.scope (.cond (.s 44) (.reg false false [⟨some 45, .fld 1 (.s 1), none⟩,
 ⟨some 46, .load none (.s 45), none⟩,
 ⟨some 47, .mov (.s 7), none⟩,
 ⟨some 48, .idxS 3 (.s 46) (.s 47), none⟩,
 ⟨some 49, .load (some 3) (.s 48), none⟩,
 ⟨none, .store 3 (.s 8) (.s 49), none⟩])
 (.skip))))
 (.seq (.reg false false [⟨some 50, .fld 0 (.s 8), none⟩,
 ⟨some 51, .load none (.s 50), none⟩,
 ⟨some 52, .bin .rem (.s 51) (.c (.int .u8 2)), none⟩,
 ⟨some 53, .conv .i64 (.s 52), none⟩,
 ⟨some 54, .bin .add (.c (.int .i64 2)) (.s 53), none⟩,
 ⟨some 9, .mov (.s 54), none⟩])
 (.seq (.seq (.reg false false [⟨some 55, .mov (.s 6), none⟩,
 ⟨some 56, .mov (.s 9), none⟩,
 ⟨some 57, .bin .mul (.s 55) (.s 56), none⟩,
 ⟨some 58, .mov (.s 3), none⟩,
 ⟨some 59, .bin .sub (.s 58) (.c (.int .i64 1)), none⟩,
 ⟨some 60, .mov (.s 7), none⟩,
 ⟨some 61, .bin .sub (.s 59) (.s 60), none⟩,
 ⟨some 62, .conv .u64 (.s 61), none⟩,
 ⟨some 63, .bin .shl (.s 57) (.s 62), none⟩,
 ⟨some 64, .bin .gtr (.s 63) (.c (.int .i64 100)), none⟩])
 (.scope (.cond (.s 64) (.reg false false [⟨some 9, .mov (.c (.int .i64 2)), none⟩])
 (.skip))))
 (.seq (.reg false false [⟨some 65, .mov (.s 6), none⟩,
 ⟨some 66, .mov (.s 9), none⟩,
 ⟨some 67, .bin .mul (.s 65) (.s 66), none⟩,
 ⟨some 6, .mov (.s 67), none⟩])
 (.reg true false [⟨some 68, .fld 1 (.s 4), none⟩,
 ⟨some 69, .load none (.s 68), none⟩,
 ⟨some 70, .mov (.s 5), none⟩,
 ⟨some 71, .mov (.s 7), none⟩,
 ⟨some 72, .idxS 1 (.s 70) (.s 71), none⟩,
 ⟨some 73, .load none (.s 72), none⟩,
 ⟨some 74, .mov (.s 9), none⟩,
 ⟨some 75, .idxS 3 (.s 69) (.s 73), none⟩,
 ⟨some 76, .fld 0 (.s 75), none⟩,
 ⟨none, .store 1 (.s 76) (.s 74), none⟩])))))))
 (.reg false false [⟨some 38, .mov (.s 7), none⟩,
 ⟨some 39, .bin .add (.s 38) (.c (.int .i64 1)), none⟩,
 ⟨some 7, .mov (.s 39), none⟩])))))))
 (.seq (.seq (.reg false false [⟨some 10, .mov (.c (.int .i64 0)), none⟩])
 (.scope (.block 2 (.loop (.seq (.seq (.reg false false [⟨some 77, .mov (.s 10), none⟩,
 ⟨some 78, .mov (.s 3), none⟩,
 ⟨some 79, .bin .lss (.s 77) (.s 78), none⟩])
 (.cond (.s 79) (.skip)
 (.exit 2)))
 (.seq (.block 3 (.seq (.reg false false [⟨some 11, .alloc [(.int .u8 0), (.int .u8 0), (.slice none 0 0)], none⟩])
 (.seq (.seq (.reg false false [⟨some 82, .mov (.s 10), none⟩,
 ⟨some 83, .fld 1 (.s 1), none⟩,
 ⟨some 84, .load none (.s 83), none⟩,
 ⟨some 85, .len (.s 84), none⟩,
 ⟨some 86, .bin .lss (.s 82) (.s 85), none⟩])
 (.scope (.cond (.s 86) (.reg false false [⟨some 87, .fld 1 (.s 1), none⟩,
 ⟨some 88, .load none (.s 87), none⟩,
 ⟨some 89, .mov (.s 10), none⟩,
 ⟨some 90, .idxS 3 (.s 88) (.s 89), none⟩,
 ⟨some 91, .load (some 3) (.s 90), none⟩,
 ⟨none, .store 3 (.s 11) (.s 91), none⟩])
 (.skip))))
 (.seq (.reg false false [⟨some 92, .mov (.s 5), none⟩,
 ⟨some 93, .mov (.s 10), none⟩,
 ⟨some 94, .idxS 1 (.s 92) (.s 93), none⟩,
 ⟨some 95, .load none (.s 94), none⟩,
 ⟨some 12, .mov (.s 95), none⟩])
 (.seq (.seq (.reg false false [⟨some 13, .mov (.c (.int .i64 0)), none⟩])
 (.scope (.block 4 (.loop (.seq (.seq (.reg false false [⟨some 96, .mov (.s 13), none⟩,
 ⟨some 97, .mov (.s 3), none⟩,
 ⟨some 98, .bin .lss (.s 96) (.s 97), none⟩])
 (.cond (.s 98) (.skip)
 (.exit 4)))
 (.seq (.block 5 (.seq (.reg false false [⟨some 14, .mov (.c (.int .i64 0)), none⟩])
 (.scope (.block 6 (.loop (.seq (.seq (.reg false false [⟨some 101, .mov (.s 14), none⟩,
 ⟨some 102, .mov (.s 10), none⟩,
 ⟨some 103, .bin .lss (.s 101) (.s 102), none⟩])
 (.cond (.s 103) (.skip)
 (.exit 6)))
 (.seq (.block 7 (.seq (.scope (.reg false false [⟨some 106, .mov (.s 5), none⟩,
 ⟨some 107, .mov (.s 14), none⟩,
 ⟨some 108, .idxS 1 (.s 106) (.s 107), none⟩,
 ⟨some 109, .load none (.s 108), none⟩,
 ⟨some 110, .mov (.s 13), none⟩,
 ⟨some 111, .bin .eql (.s 109) (.s 110), none⟩,
 ⟨some 112, .mov (.s 111), none⟩,
 ⟨some 113, .fld 1 (.s 11), some (112, true)⟩,
 ⟨some 114, .load none (.s 113), some (112, true)⟩,
 ⟨some 115, .mov (.s 14), some (112, true)⟩,
 ⟨some 116, .conv .u64 (.s 115), some (112, true)⟩,
 ⟨some 117, .bin .shr (.s 114) (.s 116), some (112, true)⟩,
 ⟨some 118, .bin .and (.s 117) (.c (.int .u8 1)), some (112, true)⟩,
 ⟨some 119, .bin .eql (.s 118) (.c (.int .u8 1)), some (112, true)⟩,
 ⟨some 120, .pick (.s 112) (.s 119) (.c (.bool false)), none⟩,
 ⟨some 121, .mov (.s 120), none⟩,
 ⟨some 122, .fld 1 (.s 4), some (121, true)⟩,
 ⟨some 123, .load none (.s 122), some (121, true)⟩,
 ⟨some 124, .mov (.s 12), some (121, true)⟩,
 ⟨some 125, .idxS 3 (.s 123) (.s 124), some (121, true)⟩,
 ⟨some 126, .fld 1 (.s 125), some (121, true)⟩,
 ⟨some 127, .load none (.s 126), some (121, true)⟩,
 ⟨some 128, .len (.s 127), some (121, true)⟩,
 ⟨some 129, .bin .lss (.s 128) (.c (.int .i64 3)), some (121, true)⟩,
 ⟨some 130, .pick (.s 121) (.s 129) (.c (.bool false)), none⟩]))
 (.scope (.cond (.s 130) (.reg true false [⟨some 131, .fld 1 (.s 4), none⟩,
 ⟨some 132, .load none (.s 131), none⟩,
 ⟨some 133, .mov (.s 12), none⟩,
 ⟨some 134, .fld 1 (.s 4), none⟩,
 ⟨some 135, .load none (.s 134), none⟩,
 ⟨some 136, .mov (.s 12), none⟩,
 ⟨some 137, .idxS 3 (.s 135) (.s 136), none⟩,
 ⟨some 138, .fld 1 (.s 137), none⟩,
 ⟨some 139, .load none (.s 138), none⟩,
 ⟨some 140, .mov (.s 13), none⟩,
 ⟨some 141, .bsl 1 1 [(.int .i64 0)] [(0, (.s 140))], none⟩,
 ⟨none, .avo [(.s 131)] (.s 139), none⟩,
 ⟨some 142, .app 1 8 (.s 139) (.s 141), none⟩,
 ⟨some 143, .idxS 3 (.s 132) (.s 133), none⟩,
 ⟨some 144, .fld 1 (.s 143), none⟩,
 ⟨none, .store 1 (.s 144) (.s 142), none⟩])
 (.skip)))))
 (.reg false false [⟨some 104, .mov (.s 14), none⟩,
 ⟨some 105, .bin .add (.s 104) (.c (.int .i64 1)), none⟩,
 ⟨some 14, .mov (.s 105), none⟩]))))))))
 (.reg false false [⟨some 99, .mov (.s 13), none⟩,
 ⟨some 100, .bin .add (.s 99) (.c (.int .i64 1)), none⟩,
 ⟨some 13, .mov (.s 100), none⟩])))))))
 (.seq (.reg false false [⟨some 15, .mov (.c (.int .i64 0)), none⟩])
 (.scope (.block 8 (.loop (.seq (.seq (.reg false false [⟨some 145, .mov (.s 15), none⟩,
 ⟨some 146, .load (some 2) (.s 4), none⟩,
 ⟨some 147, .mov (.s 12), none⟩,
 ⟨some 148, .call 143 [(.s 146), (.s 147)], none⟩,
 ⟨some 149, .call 142 [(.s 148)], none⟩,
 ⟨some 150, .bin .lss (.s 145) (.s 149), none⟩])
 (.cond (.s 150) (.skip)
 (.exit 8)))
 (.seq (.block 9 (.reg true true [⟨some 153, .fld 1 (.s 4), none⟩,
 ⟨some 154, .load none (.s 153), none⟩,
 ⟨some 155, .mov (.s 12), none⟩,
 ⟨some 156, .fld 1 (.s 4), none⟩,
 ⟨some 157, .load none (.s 156), none⟩,
 ⟨some 158, .mov (.s 12), none⟩,
 ⟨some 159, .idxS 3 (.s 157) (.s 158), none⟩,
 ⟨some 160, .fld 2 (.s 159), none⟩,
 ⟨some 161, .load none (.s 160), none⟩,
 ⟨some 162, .fld 0 (.s 4), none⟩,
 ⟨some 163, .load none (.s 162), none⟩,
 ⟨some 164, .fld 1 (.s 4), none⟩,
 ⟨some 165, .load none (.s 164), none⟩,
 ⟨some 166, .mov (.s 12), none⟩,
 ⟨some 167, .idxS 3 (.s 165) (.s 166), none⟩,
 ⟨some 168, .fld 0 (.s 167), none⟩,
 ⟨some 169, .load none (.s 168), none⟩,
 ⟨some 170, .fld 2 (.s 11), none⟩,
 ⟨some 171, .load none (.s 170), none⟩,
 ⟨some 172, .mov (.s 15), none⟩,
 ⟨some 173, .fld 1 (.s 4), none⟩,
 ⟨some 174, .load none (.s 173), none⟩,
 ⟨some 175, .mov (.s 12), none⟩,
 ⟨some 176, .idxS 3 (.s 174) (.s 175), none⟩,
 ⟨some 177, .fld 0 (.s 176), none⟩,
 ⟨some 178, .load none (.s 177), none⟩,
 ⟨some 179, .bin .add (.s 178) (.c (.int .i64 1)), none⟩,
 ⟨some 180, .bin .mul (.s 172) (.s 179), none⟩,
 ⟨some 181, .call 150 [(.s 163), (.s 169), (.s 171), (.s 180)], none⟩,
 ⟨some 182, .bsl 1 1 [(.slice none 0 0)] [(0, (.s 181))], none⟩,
 ⟨none, .avo [(.s 153)] (.s 161), none⟩,
 ⟨some 183, .app 1 24 (.s 161) (.s 182), none⟩,
 ⟨some 184, .idxS 3 (.s 154) (.s 155), none⟩,
 ⟨some 185, .fld 2 (.s 184), none⟩,
 ⟨none, .store 1 (.s 185) (.s 183), none⟩]))
 (.reg false false [⟨some 151, .mov (.s 15), none⟩,
 ⟨some 152, .bin .add (.s 151) (.c (.int .i64 1)), none⟩,
 ⟨some 15, .mov (.s 152), none⟩]))))))))))))
 (.reg false false [⟨some 80, .mov (.s 10), none⟩,
 ⟨some 81, .bin .add (.s 80) (.c (.int .i64 1)), none⟩,
 ⟨some 10, .mov (.s 81), none⟩])))))))
 (.seq (.reg false false [⟨some 186, .load (some 2) (.s 4), none⟩,
 ⟨none, .store 2 (.s 2) (.s 186), none⟩])
 (.ret))))))))
theorem zfw : zeG mC 48 = some (187, zd6, [.cell 2 (some 2)], false) := zaw (by kernel_rfl)
theorem zfR {N : Nat} {p0 : S_haruspexref05_Draft} {r : S_api_Net} (h : zbz N p0 = some r) : Lx.Fn mC 48 [(.agg [(dU8 p0.grain), (fzE false zag p0.nodes), (fzE false (eI .u8) p0.order)])] (.agg [(dI r.grain), (fzE true zab r.nodes)]) := by
  refine Fn.of zfw (zav rfl) (Nat.le_of_ble_eq_true rfl) ?_
  unfold zbz at h
  unfold zd6
  refine zaa ?_
  obtain ⟨y1, g2, h⟩ := bind_some h
  obtain ⟨y3, g4, h⟩ := bind_some h
  obtain ⟨r5, g6, h⟩ := bind_some h
  try simp only [rnA, Nat.reduceEqDiff, Nat.reduceLT, Nat.reduceAdd, Nat.reduceLeDiff, Int.reduceBEq, reduceCtorEq, zax, (zbd g2).1.1, (zbd g2).1.2, Int.le_refl, (show List.replicate (Int.toNat (zcg (zce (p0.nodes.length : Int) 1) 5)) [(dI 0), zb9, zb9] = y1.map (zad.c true) from zcR g2 (zad.c true)), (zbd g4).1.2, (show List.replicate (Int.toNat (zcg (zce (p0.nodes.length : Int) 1) 5)) [(dU8 0)] = y3.map ((eI .u8).c true) from zcR g4 ((eI .u8).c true))]
  refine EvL.fn (zdv g6) rfl rfl (.cons (.zgT (.cons (zb8 (e := (eI .u8)) (t := true) rfl (.inl rfl) (zcx g4).symm (zcx g4).symm (fun k h => by cases h; exact Nat.le_refl _) (fun h => nomatch h)) (.cons (.lit _) (.cons (zaq _ _ (fun h => nomatch h)) .nil)))) .nil) ?_
  try simp only [rnA, Nat.reduceEqDiff, Nat.reduceLT, reduceCtorEq]
  obtain ⟨o7, j7, h⟩ := bind_some h
  obtain ⟨T7, hT7⟩ : ∃ T : (List S_api_Node) → LSt, T = (fun a => ⟨187, [(1, (.ptr 0 0)), (2, (.ptr 1 0)), (3, (dI (zcg (zce (p0.nodes.length : Int) 1) 5))), (4, (.ptr 3 0)), (5, (fzE true (eI .i64) r5))], [.cells [(dU8 p0.grain), (fzE false zag p0.nodes), (fzE false (eI .u8) p0.order)], .cells [(dI 0), zb9], .els 3 (a.map (zad.c true)), .cells [(dI (w64 (1 + (w64 (p0.grain.tmod 60))))), (.sl 2 0 3 (Int.toNat (zcg (zce (p0.nodes.length : Int) 1) 5)) (some (Int.toNat (zcg (zce (p0.nodes.length : Int) 1) 5))) (Int.toNat (zcg (zce (p0.nodes.length : Int) 1) 5)))]]⟩) := ⟨_, rfl⟩
  refine EvL.jn T7 (fun a => a = o7 ∧ a.length = (Int.toNat (zcg (zce (p0.nodes.length : Int) 1) 5))) ?_ ?_
  · refine zaa ?_
    simp only [rnA]
    obtain ⟨T12, hT12⟩ : ∃ T : (Int × Int × (List S_api_Node)) → LSt, T = (fun a => ⟨187, [(1, (.ptr 0 0)), (2, (.ptr 1 0)), (3, (dI (zcg (zce (p0.nodes.length : Int) 1) 5))), (4, (.ptr 3 0)), (5, (fzE true (eI .i64) r5)), (6, (dI a.1)), (7, (dI a.2.1))], [.cells [(dU8 p0.grain), (fzE false zag p0.nodes), (fzE false (eI .u8) p0.order)], .cells [(dI 0), zb9], .els 3 (a.2.2.map (zad.c true)), .cells [(dI (w64 (1 + (w64 (p0.grain.tmod 60))))), (.sl 2 0 3 (Int.toNat (zcg (zce (p0.nodes.length : Int) 1) 5)) (some (Int.toNat (zcg (zce (p0.nodes.length : Int) 1) 5))) (Int.toNat (zcg (zce (p0.nodes.length : Int) 1) 5)))]]⟩) := ⟨_, rfl⟩
    refine EvL.rounds (α := (Int × Int × (List S_api_Node))) T12 (fun n a => zaZ p0 r5 n a.1 a.2.1 a.2.2 = some o7 ∧ a.2.2.length = (Int.toNat (zcg (zce (p0.nodes.length : Int) 1) 5))) ((zcg (zce (p0.nodes.length : Int) 1) 5) - 0 + 2 : Int).toNat (1, 0, y1) (by rw [hT12]; exact zam.m0 [.k, .k, .k, .k] rfl (ms rfl rfl (ms rfl rfl (ms rfl trivial (ms rfl rfl (ms rfl trivial (ms rfl trivial (ms rfl trivial trivial))))))) ⟨MB.cs ⟨trivial, trivial, trivial, trivial⟩, ⟨MB.cs ⟨trivial, trivial, trivial⟩, ⟨MB.es zad true y1, ⟨MB.cs ⟨trivial, rfl, trivial⟩, trivial⟩⟩⟩⟩) ⟨j7, zcx g2⟩ (fun _ h => nomatch (show (none : Option (List S_api_Node)) = some o7 from h.1)) ?_
    · rintro n ⟨v6, v7, l2⟩ ⟨j7, el2⟩
      simp only [zaZ] at j7
      rw [congrFun hT12 (v6, v7, l2)]
      refine zaa ?_
      try simp only [rnA, Nat.reduceEqDiff, Nat.reduceLT]
      cases c7 : (decide (v7 < (zcg (zce (p0.nodes.length : Int) 1) 5)))
      · rw [c7, cond_false] at j7
        try simp only [rnA]
        replace j7 := Option.some.inj j7; subst j7
        exact ⟨_, ⟨rfl, el2⟩, by rw [hT7]; exact zam.m0 [.k, .k, .k, .k] rfl (ms rfl rfl (ms rfl rfl (ms rfl trivial (ms rfl rfl (ms rfl trivial trivial))))) ⟨MB.cs ⟨trivial, trivial, trivial, trivial⟩, ⟨MB.cs ⟨trivial, trivial, trivial⟩, ⟨MB.es zad true l2, ⟨MB.cs ⟨trivial, rfl, trivial⟩, trivial⟩⟩⟩⟩⟩
      · rw [c7, cond_true] at j7
        try simp only [rnA, Nat.reduceEqDiff, Nat.reduceLT, Nat.reduceAdd, zax]
        obtain ⟨o13, j13, j7⟩ := bind_some j7
        obtain ⟨T13, hT13⟩ : ∃ T : (Int × Int × (List Int)) → LSt, T = (fun a => ⟨187, [(1, (.ptr 0 0)), (2, (.ptr 1 0)), (3, (dI (zcg (zce (p0.nodes.length : Int) 1) 5))), (4, (.ptr 3 0)), (5, (fzE true (eI .i64) r5)), (6, (dI v6)), (7, (dI v7)), (8, (.ptr 4 0))], [.cells [(dU8 p0.grain), (fzE false zag p0.nodes), (fzE false (eI .u8) p0.order)], .cells [(dI 0), zb9], .els 3 (l2.map (zad.c true)), .cells [(dI (w64 (1 + (w64 (p0.grain.tmod 60))))), (.sl 2 0 3 (Int.toNat (zcg (zce (p0.nodes.length : Int) 1) 5)) (some (Int.toNat (zcg (zce (p0.nodes.length : Int) 1) 5))) (Int.toNat (zcg (zce (p0.nodes.length : Int) 1) 5)))], .cells [(dU8 a.1), (dU8 a.2.1), (fzE false (eI .u8) a.2.2)]]⟩) := ⟨_, rfl⟩
        refine EvL.jn T13 (fun a => a = o13) ?_ ?_
        · refine zaa ?_
          try simp only [rnA, Nat.reduceEqDiff]
          cases c8 : (decide (v7 < (p0.nodes.length : Int)))
          · rw [c8, cond_false] at j13
            try simp only [rnA]
            replace j13 := Option.some.inj j13; subst j13
            exact ⟨_, rfl, by rw [hT13]; exact zam.m0 [.k, .k, .k, .k, .k] rfl (ms rfl rfl (ms rfl rfl (ms rfl trivial (ms rfl rfl (ms rfl trivial (ms rfl trivial (ms rfl trivial (ms rfl rfl trivial)))))))) ⟨MB.cs ⟨trivial, trivial, trivial, trivial⟩, ⟨MB.cs ⟨trivial, trivial, trivial⟩, ⟨MB.es zad true l2, ⟨MB.cs ⟨trivial, rfl, trivial⟩, ⟨MB.ztz (.cons (.same trivial) (.cons (.same trivial) (.cons (.fr (zq0 (eI .u8))) .nil))), trivial⟩⟩⟩⟩⟩⟩
          · rw [c8, cond_true] at j13
            obtain ⟨x9, g10, j13⟩ := bind_some j13
            try simp only [rnA, Nat.reduceEqDiff, Nat.reduceLT, Nat.reduceAdd, Nat.reduceLeDiff, zbX, zak (n := 3) (e := zag) rfl g10]
            replace j13 := Option.some.inj j13; subst j13
            exact ⟨_, rfl, by rw [hT13]; exact zam.m0 [.k, .k, .k, .k, .k] rfl (ms rfl rfl (ms rfl rfl (ms rfl trivial (ms rfl rfl (ms rfl trivial (ms rfl trivial (ms rfl trivial (ms rfl rfl trivial)))))))) ⟨MB.cs ⟨trivial, trivial, trivial, trivial⟩, ⟨MB.cs ⟨trivial, trivial, trivial⟩, ⟨MB.es zad true l2, ⟨MB.cs ⟨trivial, rfl, trivial⟩, ⟨MB.cs ⟨trivial, trivial, trivial, trivial⟩, trivial⟩⟩⟩⟩⟩⟩
        · rintro ⟨b4_0, b4_1, b4_2⟩ rfl
          dsimp only at j7
          rw [congrFun hT13 (b4_0, b4_1, b4_2)]
          refine zaa ?_
          obtain ⟨q11, g12, j7⟩ := bind_some j7
          try simp only [rnA, Nat.reduceEqDiff, Nat.reduceLT, Int.reduceBEq, (za9 g12).1, (za9 g12).2]
          obtain ⟨o14, j14, j7⟩ := bind_some j7
          obtain ⟨T14, hT14⟩ : ∃ T : Int → LSt, T = (fun a => ⟨187, [(1, (.ptr 0 0)), (2, (.ptr 1 0)), (3, (dI (zcg (zce (p0.nodes.length : Int) 1) 5))), (4, (.ptr 3 0)), (5, (fzE true (eI .i64) r5)), (6, (dI v6)), (7, (dI v7)), (9, (dI a))], [.cells [(dU8 p0.grain), (fzE false zag p0.nodes), (fzE false (eI .u8) p0.order)], .cells [(dI 0), zb9], .els 3 (l2.map (zad.c true)), .cells [(dI (w64 (1 + (w64 (p0.grain.tmod 60))))), (.sl 2 0 3 (Int.toNat (zcg (zce (p0.nodes.length : Int) 1) 5)) (some (Int.toNat (zcg (zce (p0.nodes.length : Int) 1) 5))) (Int.toNat (zcg (zce (p0.nodes.length : Int) 1) 5)))]]⟩) := ⟨_, rfl⟩
          refine EvL.jn T14 (fun a => a = o14) ?_ ?_
          · refine zaa ?_
            try simp only [rnA, Nat.reduceEqDiff]
            cases c13 : (decide (100 < q11))
            · rw [c13, cond_false] at j14
              try simp only [rnA]
              replace j14 := Option.some.inj j14; subst j14
              exact ⟨_, rfl, by rw [hT14]; exact zam.m0 [.k, .k, .k, .k] rfl (ms rfl rfl (ms rfl rfl (ms rfl trivial (ms rfl rfl (ms rfl trivial (ms rfl trivial (ms rfl trivial (ms rfl trivial trivial)))))))) ⟨MB.cs ⟨trivial, trivial, trivial, trivial⟩, ⟨MB.cs ⟨trivial, trivial, trivial⟩, ⟨MB.es zad true l2, ⟨MB.cs ⟨trivial, rfl, trivial⟩, trivial⟩⟩⟩⟩⟩
            · rw [c13, cond_true] at j14
              try simp only [rnA, Nat.reduceLT]
              replace j14 := Option.some.inj j14; subst j14
              exact ⟨_, rfl, by rw [hT14]; exact zam.m0 [.k, .k, .k, .k] rfl (ms rfl rfl (ms rfl rfl (ms rfl trivial (ms rfl rfl (ms rfl trivial (ms rfl trivial (ms rfl trivial (ms rfl trivial trivial)))))))) ⟨MB.cs ⟨trivial, trivial, trivial, trivial⟩, ⟨MB.cs ⟨trivial, trivial, trivial⟩, ⟨MB.es zad true l2, ⟨MB.cs ⟨trivial, rfl, trivial⟩, trivial⟩⟩⟩⟩⟩
          · rintro v9 rfl
            rw [congrFun hT14 v9]
            refine zaa ?_
            obtain ⟨x14, g15, j7⟩ := bind_some j7
            obtain ⟨x16, g17, j7⟩ := bind_some j7
            obtain ⟨y18, g19, j7⟩ := bind_some j7
            try simp only [rnA, Nat.reduceEqDiff, Nat.reduceLT, Nat.reduceAdd, Nat.reduceLeDiff, zdi, zak (n := 1) (e := (eI .i64)) rfl g15, el2, zbS g17, (show x14 < (((Int.toNat (zcg (zce (p0.nodes.length : Int) 1) 5)) : Nat) : Int) from el2 ▸ zcm g17), zbu g17 (zad.c true), (show (l2.map (zad.c true)).set x14.toNat [(dI v9), (nE true (eI .i64) x16.parents), (nE true (eL (eI .i64)) x16.rows)] = y18.map (zad.c true) from zcs g19 (zad.c true))]
            exact ⟨((w64 (v6 * v9)), (w64 (v7 + 1)), y18), ⟨j7, (zcc g19).trans el2⟩, by rw [hT12]; exact zam.m0 [.k, .k, .k, .k] rfl (ms rfl rfl (ms rfl rfl (ms rfl trivial (ms rfl rfl (ms rfl trivial (ms rfl trivial (ms rfl trivial trivial))))))) ⟨MB.cs ⟨trivial, trivial, trivial, trivial⟩, ⟨MB.cs ⟨trivial, trivial, trivial⟩, ⟨MB.es zad true y18, ⟨MB.cs ⟨trivial, rfl, trivial⟩, trivial⟩⟩⟩⟩⟩
  · rintro l2 ⟨rfl, el2⟩
    rw [congrFun hT7 l2]
    refine zaa ?_
    try simp only [rnA, Nat.reduceLT]
    obtain ⟨o18, j18, h⟩ := bind_some h
    obtain ⟨T18, hT18⟩ : ∃ T : (List S_api_Node) → LSt, T = (fun a => ⟨187, [(2, (.ptr 1 0)), (4, (.ptr 3 0))], [.gone, .cells [(dI 0), zb9], .els 3 (a.map (zad.c true)), .cells [(dI (w64 (1 + (w64 (p0.grain.tmod 60))))), (.sl 2 0 3 (Int.toNat (zcg (zce (p0.nodes.length : Int) 1) 5)) (some (Int.toNat (zcg (zce (p0.nodes.length : Int) 1) 5))) (Int.toNat (zcg (zce (p0.nodes.length : Int) 1) 5)))]]⟩) := ⟨_, rfl⟩
    refine EvL.jn T18 (fun a => a = o18 ∧ a.length = (Int.toNat (zcg (zce (p0.nodes.length : Int) 1) 5))) ?_ ?_
    · refine zaa ?_
      simp only [rnA]
      obtain ⟨T21, hT21⟩ : ∃ T : (Int × (List S_api_Node)) → LSt, T = (fun a => ⟨187, [(1, (.ptr 0 0)), (2, (.ptr 1 0)), (3, (dI (zcg (zce (p0.nodes.length : Int) 1) 5))), (4, (.ptr 3 0)), (5, (fzE true (eI .i64) r5)), (10, (dI a.1))], [.cells [(dU8 p0.grain), (fzE false zag p0.nodes), (fzE false (eI .u8) p0.order)], .cells [(dI 0), zb9], .els 3 (a.2.map (zad.c true)), .cells [(dI (w64 (1 + (w64 (p0.grain.tmod 60))))), (.sl 2 0 3 (Int.toNat (zcg (zce (p0.nodes.length : Int) 1) 5)) (some (Int.toNat (zcg (zce (p0.nodes.length : Int) 1) 5))) (Int.toNat (zcg (zce (p0.nodes.length : Int) 1) 5)))]]⟩) := ⟨_, rfl⟩
      refine EvL.rounds (α := (Int × (List S_api_Node))) T21 (fun n a => za8 N p0 r5 n a.1 a.2 = some o18 ∧ a.2.length = (Int.toNat (zcg (zce (p0.nodes.length : Int) 1) 5))) ((zcg (zce (p0.nodes.length : Int) 1) 5) - 0 + 2 : Int).toNat (0, l2) (by rw [hT21]; exact zam.m0 [.k, .k, .k, .k] rfl (ms rfl rfl (ms rfl rfl (ms rfl trivial (ms rfl rfl (ms rfl trivial (ms rfl trivial trivial)))))) ⟨MB.cs ⟨trivial, trivial, trivial, trivial⟩, ⟨MB.cs ⟨trivial, trivial, trivial⟩, ⟨MB.es zad true l2, ⟨MB.cs ⟨trivial, rfl, trivial⟩, trivial⟩⟩⟩⟩) ⟨j18, el2⟩ (fun _ h => nomatch (show (none : Option (List S_api_Node)) = some o18 from h.1)) ?_
      · rintro n ⟨v10, l2'⟩ ⟨j18, el2'⟩
        simp only [za8] at j18
        rw [congrFun hT21 (v10, l2')]
        refine zaa ?_
        try simp only [rnA, Nat.reduceEqDiff, Nat.reduceLT]
        cases c20 : (decide (v10 < (zcg (zce (p0.nodes.length : Int) 1) 5)))
        · rw [c20, cond_false] at j18
          try simp only [rnA]
          replace j18 := Option.some.inj j18; subst j18
          exact ⟨_, ⟨rfl, el2'⟩, by rw [hT18]; exact zam.m0 [.d, .k, .k, .k] rfl (ms rfl rfl (ms rfl rfl trivial)) ⟨rfl, ⟨MB.cs ⟨trivial, trivial, trivial⟩, ⟨MB.es zad true l2', ⟨MB.cs ⟨trivial, rfl, trivial⟩, trivial⟩⟩⟩⟩⟩
        · rw [c20, cond_true] at j18
          try simp only [rnA, Nat.reduceEqDiff, Nat.reduceLT, Nat.reduceAdd, zax]
          obtain ⟨o22, j22, j18⟩ := bind_some j18
          obtain ⟨T22, hT22⟩ : ∃ T : (Int × Int × (List Int)) → LSt, T = (fun a => ⟨187, [(1, (.ptr 0 0)), (2, (.ptr 1 0)), (3, (dI (zcg (zce (p0.nodes.length : Int) 1) 5))), (4, (.ptr 3 0)), (5, (fzE true (eI .i64) r5)), (10, (dI v10)), (11, (.ptr 4 0))], [.cells [(dU8 p0.grain), (fzE false zag p0.nodes), (fzE false (eI .u8) p0.order)], .cells [(dI 0), zb9], .els 3 (l2'.map (zad.c true)), .cells [(dI (w64 (1 + (w64 (p0.grain.tmod 60))))), (.sl 2 0 3 (Int.toNat (zcg (zce (p0.nodes.length : Int) 1) 5)) (some (Int.toNat (zcg (zce (p0.nodes.length : Int) 1) 5))) (Int.toNat (zcg (zce (p0.nodes.length : Int) 1) 5)))], .cells [(dU8 a.1), (dU8 a.2.1), (fzE false (eI .u8) a.2.2)]]⟩) := ⟨_, rfl⟩
          refine EvL.jn T22 (fun a => a = o22) ?_ ?_
          · refine zaa ?_
            try simp only [rnA, Nat.reduceEqDiff]
            cases c21 : (decide (v10 < (p0.nodes.length : Int)))
            · rw [c21, cond_false] at j22
              try simp only [rnA]
              replace j22 := Option.some.inj j22; subst j22
              exact ⟨_, rfl, by rw [hT22]; exact zam.m0 [.k, .k, .k, .k, .k] rfl (ms rfl rfl (ms rfl rfl (ms rfl trivial (ms rfl rfl (ms rfl trivial (ms rfl trivial (ms rfl rfl trivial))))))) ⟨MB.cs ⟨trivial, trivial, trivial, trivial⟩, ⟨MB.cs ⟨trivial, trivial, trivial⟩, ⟨MB.es zad true l2', ⟨MB.cs ⟨trivial, rfl, trivial⟩, ⟨MB.ztz (.cons (.same trivial) (.cons (.same trivial) (.cons (.fr (zq0 (eI .u8))) .nil))), trivial⟩⟩⟩⟩⟩⟩
            · rw [c21, cond_true] at j22
              obtain ⟨x22, g23, j22⟩ := bind_some j22
              try simp only [rnA, Nat.reduceEqDiff, Nat.reduceLT, Nat.reduceAdd, Nat.reduceLeDiff, zbX, zak (n := 3) (e := zag) rfl g23]
              replace j22 := Option.some.inj j22; subst j22
              exact ⟨_, rfl, by rw [hT22]; exact zam.m0 [.k, .k, .k, .k, .k] rfl (ms rfl rfl (ms rfl rfl (ms rfl trivial (ms rfl rfl (ms rfl trivial (ms rfl trivial (ms rfl rfl trivial))))))) ⟨MB.cs ⟨trivial, trivial, trivial, trivial⟩, ⟨MB.cs ⟨trivial, trivial, trivial⟩, ⟨MB.es zad true l2', ⟨MB.cs ⟨trivial, rfl, trivial⟩, ⟨MB.cs ⟨trivial, trivial, trivial, trivial⟩, trivial⟩⟩⟩⟩⟩⟩
          · rintro ⟨b4_0, b4_1, b4_2⟩ rfl
            dsimp only at j18
            rw [congrFun hT22 (b4_0, b4_1, b4_2)]
            refine zaa ?_
            obtain ⟨x24, g25, j18⟩ := bind_some j18
            try simp only [rnA, Nat.reduceEqDiff, Nat.reduceLT, zak (n := 1) (e := (eI .i64)) rfl g25]
            obtain ⟨y26, g27, j18⟩ := bind_some j18
            refine EvL.znM (S' := ⟨187, [(1, (.ptr 0 0)), (2, (.ptr 1 0)), (3, (dI (zcg (zce (p0.nodes.length : Int) 1) 5))), (4, (.ptr 3 0)), (5, (fzE true (eI .i64) r5)), (10, (dI v10)), (11, (.ptr 4 0)), (12, (dI x24)), (13, (dI 0))], [.cells [(dU8 p0.grain), (fzE false zag p0.nodes), (fzE false (eI .u8) p0.order)], .cells [(dI 0), zb9], .els 3 (l2'.map (zad.c true)), .cells [(dI (w64 (1 + (w64 (p0.grain.tmod 60))))), (.sl 2 0 3 (Int.toNat (zcg (zce (p0.nodes.length : Int) 1) 5)) (some (Int.toNat (zcg (zce (p0.nodes.length : Int) 1) 5))) (Int.toNat (zcg (zce (p0.nodes.length : Int) 1) 5)))], .cells [(dU8 b4_0), (dU8 b4_1), (fzE false (eI .u8) b4_2)]]⟩) (zam.m0 [.k, .k, .k, .k, .k] rfl (ms rfl rfl (ms rfl rfl (ms rfl trivial (ms rfl rfl (ms rfl trivial (ms rfl trivial (ms rfl rfl (ms rfl trivial (ms rfl trivial trivial))))))))) ⟨MB.cs ⟨trivial, trivial, trivial, trivial⟩, ⟨MB.cs ⟨trivial, trivial, trivial⟩, ⟨MB.es zad true l2', ⟨MB.cs ⟨trivial, rfl, trivial⟩, ⟨MB.cs ⟨trivial, trivial, trivial, trivial⟩, trivial⟩⟩⟩⟩⟩) ?_
            refine ztd g27 (fun kp => ⟨trivial, trivial, trivial, trivial⟩) (fun kp => ⟨trivial, trivial, trivial⟩) (fun kp => trivial) (fun kp => trivial) el2' (zaa ?_)
            try simp only [rnA, Nat.reduceLT]
            obtain ⟨y28, g29, j18⟩ := bind_some j18
            refine EvL.znM (S' := ⟨187, [(1, (.ptr 0 0)), (2, (.ptr 1 0)), (3, (dI (zcg (zce (p0.nodes.length : Int) 1) 5))), (4, (.ptr 3 0)), (5, (fzE true (eI .i64) r5)), (10, (dI v10)), (11, (.ptr 4 0)), (12, (dI x24)), (15, (dI 0))], [.cells [(dU8 p0.grain), (fzE false zag p0.nodes), (fzE false (eI .u8) p0.order)], .cells [(dI 0), zb9], .els 3 (y26.map (zad.c true)), .cells [(dI (w64 (1 + (w64 (p0.grain.tmod 60))))), (.sl 2 0 3 (Int.toNat (zcg (zce (p0.nodes.length : Int) 1) 5)) (some (Int.toNat (zcg (zce (p0.nodes.length : Int) 1) 5))) (Int.toNat (zcg (zce (p0.nodes.length : Int) 1) 5)))], .cells [(dU8 b4_0), (dU8 b4_1), (fzE false (eI .u8) b4_2)]]⟩) (zam.m0 [.k, .k, .k, .k, .k] rfl (ms rfl rfl (ms rfl rfl (ms rfl trivial (ms rfl rfl (ms rfl trivial (ms rfl trivial (ms rfl rfl (ms rfl trivial (ms rfl trivial trivial))))))))) ⟨MB.cs ⟨trivial, trivial, trivial, trivial⟩, ⟨MB.cs ⟨trivial, trivial, trivial⟩, ⟨MB.es zad true y26, ⟨MB.cs ⟨trivial, rfl, trivial⟩, ⟨MB.cs ⟨trivial, trivial, trivial, trivial⟩, trivial⟩⟩⟩⟩⟩) ?_
            refine zt5 g29 (fun kp => ⟨trivial, trivial, trivial, trivial⟩) (fun kp => ⟨trivial, trivial, trivial⟩) (fun kp => trivial) (fun kp => trivial) ((zhl g27).trans el2') (zaa ?_)
            try simp only [rnA, Nat.reduceEqDiff, Nat.reduceLT]
            exact ⟨((w64 (v10 + 1)), y28), ⟨j18, ((zmz g29).trans ((zhl g27).trans el2'))⟩, by rw [hT21]; exact zam.m0 [.k, .k, .k, .k] rfl (ms rfl rfl (ms rfl rfl (ms rfl trivial (ms rfl rfl (ms rfl trivial (ms rfl trivial trivial)))))) ⟨MB.cs ⟨trivial, trivial, trivial, trivial⟩, ⟨MB.cs ⟨trivial, trivial, trivial⟩, ⟨MB.es zad true y28, ⟨MB.cs ⟨trivial, rfl, trivial⟩, trivial⟩⟩⟩⟩⟩
    · rintro l2' ⟨rfl, el2'⟩
      rw [congrFun hT18 l2']
      refine zaa ?_
      try simp only [rnA, Nat.reduceEqDiff, Nat.reduceLT, Nat.reduceAdd, Nat.reduceLeDiff]
      replace h := Option.some.inj h; subst h
      exact zdj.ret rfl (.zgT (.cons (.lit _) (.cons (zlO (e := zab) rfl (.inl rfl) (by rw [List.length_map]; exact (el2').symm) (by rw [List.length_map]; exact (el2').symm) (fun k h => by cases h; exact Nat.le_refl _) (zgL (fun _ => rfl) l2')) .nil)))
end Go.Dc
