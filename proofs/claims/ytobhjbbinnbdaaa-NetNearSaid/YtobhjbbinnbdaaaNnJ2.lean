/-
  What net.rows hands back: a closure over its node. Conditions: none.
-/
import Derived.Test.YtobhjbbinnbdaaaNnQt
namespace Go.Dc
open Go Go.Mx Go.Lx Go.Proofs
set_option maxRecDepth 100000
def zfG (x : S_api_Node) : Option S_api_Node := some x
def zhD : C :=
 .seq (.reg false false [⟨some 1, .box (.s 0), none⟩,
 ⟨some 2, .mov (.c .nilFunc), none⟩])
 (.seq (.reg false false [⟨some 3, .clo 236 [] [(.s 1)], none⟩,
 ⟨some 2, .mov (.s 3), none⟩])
 (.ret))
theorem zjJ : zeG mC 215 = some (4, zhD, [.tmp 2], false) := zaw (by kernel_rfl)
theorem zks {x r : S_api_Node} (h : zfG x = some r) : Lx.FnA mC 215 [.agg (zab.c false x)] (.clo 236 [] [.fptr false (zab.c false r)]) := by
  cases h
  refine FnA.of zjJ (zav rfl) (Nat.le_of_ble_eq_true rfl) ?_
  unfold zhD
  refine zaa ?_
  simp only [rnA, Nat.reduceEqDiff, reduceIte, Nat.reduceLT, Nat.reduceAdd, Nat.reduceLeDiff, Nat.reduceMul, Nat.reduceSub, Int.reduceLE, Int.reduceLT, Int.reduceBEq, Nat.reduceBEq, reduceCtorEq, zaB]
  refine zl8.ret rfl (.clo rfl rfl (fun i d d' h1 h2 => by simp at h1) fun i d d' h1 h2 => ?_)
  cases i with
  | zero =>
    simp only [List.getElem?_cons_zero, Option.some.injEq] at h1 h2
    subst h1
    subst h2
    exact .ptr rfl (Nat.le_refl _) fun k d d' h3 h4 => by
      rw [Nat.zero_add] at h3
      exact (zab.snp (L := _) (t := false) (t' := false) x id).get k d d' h3 h4
  | succ i => simp at h1
end Go.Dc
namespace Go.Dc
open Go Go.Mx Go.Lx Go.Proofs
set_option maxRecDepth 100000
def zjx : C :=
 (.seq (.reg false false [⟨some 9, .bin .lss (.s 8) (.s 7), none⟩])
 (.seq (.cond (.s 9) (.skip)
 (.exit 0))
 (.seq (.block 1 (.seq (.reg false false [⟨some 10, .mov (.s 8), none⟩,
 ⟨some 11, .idxS 1 (.s 6) (.s 8), none⟩,
 ⟨some 12, .load none (.s 11), none⟩,
 ⟨some 3, .mov (.s 10), none⟩,
 ⟨some 4, .mov (.s 12), none⟩])
 (.seq (.reg false false [⟨some 13, .mov (.s 0), none⟩,
 ⟨some 14, .mov (.s 3), none⟩,
 ⟨some 15, .mov (.s 4), none⟩,
 ⟨some 16, .zbb (.s 13) [(.s 14), (.s 15)], none⟩,
 ⟨some 17, .un .not (.s 16), none⟩])
 (.cond (.s 17) (.ret)
 (.skip)))))
 (.reg false false [⟨some 18, .bin .add (.s 8) (.c (.int .i64 1)), none⟩,
 ⟨some 8, .mov (.s 18), none⟩]))))
def zrl : C :=
 .seq (.reg false false [⟨some 5, .fld 2 (.s 1), none⟩,
 ⟨some 6, .load none (.s 5), none⟩,
 ⟨some 7, .len (.s 6), none⟩,
 ⟨some 8, .mov (.c (.int .i64 0)), none⟩])
 (.scope (.block 0 (.loop zjx)))
theorem zpC : zeG mC 236 = some (19, zrl, [], false) := zaw (by kernel_rfl)
theorem zpu {α : Type} {xs : List α} {i : Nat} {x : α} (h : xs[i]? = some x) : (zrk xs)[i]? = some ((i : Int), x) := by
  simp [zrk, h]
theorem zqt {α : Type} (xs : List α) : (zrk xs).length = xs.length := by simp [zrk]
theorem zmA {L L1 : List LB} (h : L = L1 ++ []) : L = L1 := by simpa using h
theorem zjC (x : S_api_Node) {u : Unit} (hu : zhB x.rows = some u) : Gen mC 236 [] [.fptr false (zab.c false x)] (zrk x.rows) (fun y n0 args G => args = [dI y.1, fzE false (eI .i64) y.2] ∧ G = []) := by
  intro n0 β P Ps hβ hlen hround L hP
  refine zc5.ofM zpC (zav rfl) (Nat.le_of_ble_eq_true rfl) ?_
  unfold zrl
  refine zaa ?_
  simp only [rnA, Nat.reduceEqDiff, Nat.reduceLT, Nat.reduceAdd, Nat.reduceLeDiff, reduceCtorEq, zaB, zax]
  refine EvL.scope (zaa ?_)
  simp only [rnA]
  have hw : ∀ (i : Nat), (i : Int) < x.rows.length → IntKind.i64.wrap ((i : Int) + 1) = ((i + 1 : Nat) : Int) := by
    intro i hi
    have := znO hu
    rw [wrap64 (by omega) (by omega)]
    omega
  refine EvL.loop (α := Nat × List LB) (fun a => ⟨19, [(0, .yld β), (6, fzE false (eL (eI .i64)) x.rows), (7, dI x.rows.length), (8, dI a.1)], a.2⟩) (fun a => P a.1 a.2 ∧ a.1 ≤ x.rows.length) (fun a => x.rows.length - a.1) (0, L) (zam.sub ⟨rfl, rfl, rfl, rfl, trivial⟩) ⟨hP, Nat.zero_le _⟩ ?_
  rintro ⟨i, L'⟩ ⟨hPi, hi⟩
  unfold zjx
  refine zaa ?_
  cases hc : decide ((i : Int) < (x.rows.length : Int)) with
  | false =>
    simp only [rnA, Nat.reduceEqDiff, Nat.reduceLT, reduceCtorEq, hc]
    refine ⟨[], rfl, L', [], by simp, hlen _ _ hPi, .inl ?_⟩
    rw [zqt]
    have h1 := of_decide_eq_false hc
    have h2 : i = x.rows.length := by omega
    rw [← h2]
    exact hPi
  | true =>
    have h1 := of_decide_eq_true hc
    have h2 : i < x.rows.length := by omega
    have hg : zbn x.rows (i : Int) = some x.rows[i] := zps h2
    simp only [rnA, Nat.reduceEqDiff, Nat.reduceLT, reduceCtorEq, hc, zak (n := 1) (e := eL (eI .i64)) rfl hg]
    refine EvL.yield rfl rfl rfl (hround i ((i : Int), x.rows[i]) L' _ [] (zpu (List.getElem?_eq_getElem h2)) hPi ⟨rfl, rfl⟩ |> fun h => by rw [List.append_nil] at h; exact h) ?_
    rintro b L2 ⟨L1, hL2, hl1, hb⟩
    have := zmA hL2
    subst this
    cases b with
    | true =>
      simp only [rnA, Nat.reduceEqDiff, Nat.reduceLT, reduceCtorEq]
      refine ⟨(i + 1, L2), ⟨hb, h2⟩, ?_, zam.sub ⟨rfl, rfl, rfl, ?_, trivial⟩⟩
      · show x.rows.length - (i + 1) < x.rows.length - i; omega
      · simp only [lk, if_true]
        rw [hw i h1]
    | false =>
      simp only [rnA, Nat.reduceEqDiff, Nat.reduceLT, reduceCtorEq]
      exact ⟨[], rfl, L2, [], by simp, hl1, .inr hb⟩
end Go.Dc
namespace Go.Dc
open Go Go.Mx Go.Lx Go.Proofs
set_option maxRecDepth 100000
set_option maxHeartbeats 4000000
def zaH (p1 : S_api_Node) (p0 : S_net_network) : Nat → Int → Int → Option Int
  | 0, _, _ => none
  | n+1, v5, v16 => (
bif (decide (v16 < (p1.parents.length : Int))) then (
(zbn p1.parents v16).bind fun x2 =>
(zbn p0.cards x2).bind fun x4 =>
zaH p1 p0 n (w64 (v5 * x4)) (w64 (v16 + 1)))
else (
some v5))
def zaG (y11 : (Int × (List Int))) : Nat → Int → Int → Option (Out Int Bool)
  | 0, _, _ => none
  | n+1, v10, v42 => (
bif (decide (v42 < (y11.2.length : Int))) then (
(zbn y11.2 v42).bind fun x13 =>
((bif (decide (x13 < 0)) then (
some true)
else (
some (decide (v10 < x13))) : Option Bool)).bind fun v52 =>
bif v52 then (
some (.ret false))
else (
zaG y11 n (w64 (v10 - x13)) (w64 (v42 + 1))))
else (
some (.go v10)))
def zaz (p0 : S_net_network) (p1 : S_api_Node) : List (Int × (List Int)) → Option (Out Unit Bool)
  | [] => some (.go ())
  | y11 :: ys => (
((zaG y11 ((y11.2.length : Int) - 0 + 2 : Int).toNat p0.net.grain 0 : Option (Out Int Bool))).bind fun o => match o with
| .go v10 => (
((bif ((y11.2.length : Int) == p1.card) then (
some (!(v10 == 0)))
else (
some true) : Option Bool)).bind fun v65 =>
bif v65 then (
some (.ret false))
else (
zaz p0 p1 ys))
| .ret r => some (.ret r))
def za0 (p0 : S_net_network) (p1 : S_api_Node) : Option Bool :=
((zaH p1 p0 ((p1.parents.length : Int) - 0 + 2 : Int).toNat 1 0 : Option Int)).bind fun v5 =>
bif ((p1.rows.length : Int) == v5) then (
(zfG p1).bind fun r7 =>
(zhB r7.rows).bind fun u9 =>
((zaz p0 p1 (zrk r7.rows) : Option (Out Unit Bool))).bind fun o => match o with
| .go _ => (
some true)
| .ret r => some r)
else (
some false)
def zcF : C :=
 .seq (.reg false false [⟨some 2, .box (.s 0), none⟩,
 ⟨some 3, .box (.s 1), none⟩,
 ⟨some 4, .alloc [(.bool false)], none⟩])
 (.seq (.reg false false [⟨some 5, .mov (.c (.int .i64 1)), none⟩])
 (.seq (.seq (.reg false false [⟨some 13, .fld 1 (.s 3), none⟩,
 ⟨some 14, .load none (.s 13), none⟩,
 ⟨some 15, .len (.s 14), none⟩,
 ⟨some 16, .mov (.c (.int .i64 0)), none⟩])
 (.scope (.block 0 (.loop (.seq (.reg false false [⟨some 17, .bin .lss (.s 16) (.s 15), none⟩])
 (.seq (.cond (.s 17) (.skip)
 (.exit 0))
 (.seq (.block 1 (.seq (.reg false false [⟨some 18, .idxS 1 (.s 14) (.s 16), none⟩,
 ⟨some 19, .load none (.s 18), none⟩,
 ⟨some 7, .mov (.s 19), none⟩])
 (.reg false false [⟨some 20, .mov (.s 5), none⟩,
 ⟨some 21, .fld 2 (.s 2), none⟩,
 ⟨some 22, .load none (.s 21), none⟩,
 ⟨some 23, .mov (.s 7), none⟩,
 ⟨some 24, .idxS 1 (.s 22) (.s 23), none⟩,
 ⟨some 25, .load none (.s 24), none⟩,
 ⟨some 26, .bin .mul (.s 20) (.s 25), none⟩,
 ⟨some 5, .mov (.s 26), none⟩])))
 (.reg false false [⟨some 27, .bin .add (.s 16) (.c (.int .i64 1)), none⟩,
 ⟨some 16, .mov (.s 27), none⟩]))))))))
 (.seq (.seq (.reg false false [⟨some 28, .fld 2 (.s 3), none⟩,
 ⟨some 29, .load none (.s 28), none⟩,
 ⟨some 30, .len (.s 29), none⟩,
 ⟨some 31, .mov (.s 5), none⟩,
 ⟨some 32, .bin .neq (.s 30) (.s 31), none⟩])
 (.cond (.s 32) (.seq (.reg false false [⟨none, .store 1 (.s 4) (.c (.bool false)), none⟩])
 (.ret))
 (.skip)))
 (.seq (.seq (.reg false false [⟨some 33, .load (some 3) (.s 3), none⟩,
 ⟨some 34, .call 215 [(.s 33)], none⟩])
 (.block 2 (.zdf (.s 34) [35, 36] (.reg false false [⟨some 9, .mov (.s 36), none⟩])
 (.block 3 (.seq (.reg false false [⟨some 37, .fld 0 (.s 2), none⟩,
 ⟨some 38, .fld 0 (.s 37), none⟩,
 ⟨some 39, .load none (.s 38), none⟩,
 ⟨some 10, .mov (.s 39), none⟩])
 (.seq (.seq (.reg false false [⟨some 40, .mov (.s 9), none⟩,
 ⟨some 41, .len (.s 40), none⟩,
 ⟨some 42, .mov (.c (.int .i64 0)), none⟩])
 (.block 4 (.loop (.seq (.reg false false [⟨some 43, .bin .lss (.s 42) (.s 41), none⟩])
 (.seq (.cond (.s 43) (.skip)
 (.exit 4))
 (.seq (.block 5 (.seq (.reg false false [⟨some 44, .idxS 1 (.s 40) (.s 42), none⟩,
 ⟨some 45, .load none (.s 44), none⟩,
 ⟨some 12, .mov (.s 45), none⟩])
 (.seq (.seq (.reg false false [⟨some 46, .mov (.s 12), none⟩,
 ⟨some 47, .bin .lss (.s 46) (.c (.int .i64 0)), none⟩,
 ⟨some 48, .mov (.s 47), none⟩,
 ⟨some 49, .mov (.s 12), some (48, false)⟩,
 ⟨some 50, .mov (.s 10), some (48, false)⟩,
 ⟨some 51, .bin .gtr (.s 49) (.s 50), some (48, false)⟩,
 ⟨some 52, .pick (.s 48) (.c (.bool true)) (.s 51), none⟩])
 (.cond (.s 52) (.seq (.reg false false [⟨none, .store 1 (.s 4) (.c (.bool false)), none⟩])
 (.ret))
 (.skip)))
 (.reg false false [⟨some 53, .mov (.s 10), none⟩,
 ⟨some 54, .mov (.s 12), none⟩,
 ⟨some 55, .bin .sub (.s 53) (.s 54), none⟩,
 ⟨some 10, .mov (.s 55), none⟩]))))
 (.reg false false [⟨some 56, .bin .add (.s 42) (.c (.int .i64 1)), none⟩,
 ⟨some 42, .mov (.s 56), none⟩])))))))
 (.seq (.reg false false [⟨some 57, .mov (.s 9), none⟩,
 ⟨some 58, .len (.s 57), none⟩,
 ⟨some 59, .fld 0 (.s 3), none⟩,
 ⟨some 60, .load none (.s 59), none⟩,
 ⟨some 61, .bin .neq (.s 58) (.s 60), none⟩,
 ⟨some 62, .mov (.s 61), none⟩,
 ⟨some 63, .mov (.s 10), some (62, false)⟩,
 ⟨some 64, .bin .neq (.s 63) (.c (.int .i64 0)), some (62, false)⟩,
 ⟨some 65, .pick (.s 62) (.c (.bool true)) (.s 64), none⟩])
 (.cond (.s 65) (.seq (.reg false false [⟨none, .store 1 (.s 4) (.c (.bool false)), none⟩])
 (.ret))
 (.skip)))))))))
 (.seq (.reg false false [⟨none, .store 1 (.s 4) (.c (.bool true)), none⟩])
 (.ret))))))
theorem zdU : zeG mC 206 = some (66, zcF, [.cell 4 none], false) := zaw (by kernel_rfl)
theorem zd7 {p0 : S_net_network} {p1 : S_api_Node} {r : Bool} (h : za0 p0 p1 = some r) : Lx.Fn mC 206 [(.agg [(dI p0.net.grain), (fzE false zab p0.net.nodes), (fzE false (eI .i64) p0.cards), (fzE false (eI .u64) p0.sets), (fzE false (eI .i64) p0.order)]), (.agg [(dI p1.card), (fzE false (eI .i64) p1.parents), (fzE false (eL (eI .i64)) p1.rows)])] (dB r) := by
  refine Fn.of zdU (zav rfl) (Nat.le_of_ble_eq_true rfl) ?_
  unfold za0 at h
  unfold zcF
  refine zaa ?_
  try simp only [rnA, Nat.reduceEqDiff, Nat.reduceLT, Nat.reduceAdd, reduceCtorEq, zax]
  obtain ⟨o1, j1, h⟩ := bind_some h
  obtain ⟨T1, hT1⟩ : ∃ T : Int → LSt, T = (fun a => ⟨66, [(2, (.ptr 0 0)), (3, (.ptr 1 0)), (4, (.ptr 2 0)), (5, (dI a))], [.cells [(dI p0.net.grain), (fzE false zab p0.net.nodes), (fzE false (eI .i64) p0.cards), (fzE false (eI .u64) p0.sets), (fzE false (eI .i64) p0.order)], .cells [(dI p1.card), (fzE false (eI .i64) p1.parents), (fzE false (eL (eI .i64)) p1.rows)], .cells [(dB false)]]⟩) := ⟨_, rfl⟩
  refine EvL.jn T1 (fun a => a = o1) ?_ ?_
  · refine zaa ?_
    simp only [rnA]
    obtain ⟨T2, hT2⟩ : ∃ T : (Int × Int) → LSt, T = (fun a => ⟨66, [(2, (.ptr 0 0)), (3, (.ptr 1 0)), (4, (.ptr 2 0)), (5, (dI a.1)), (14, (fzE false (eI .i64) p1.parents)), (15, (dI (p1.parents.length : Int))), (16, (dI a.2))], [.cells [(dI p0.net.grain), (fzE false zab p0.net.nodes), (fzE false (eI .i64) p0.cards), (fzE false (eI .u64) p0.sets), (fzE false (eI .i64) p0.order)], .cells [(dI p1.card), (fzE false (eI .i64) p1.parents), (fzE false (eL (eI .i64)) p1.rows)], .cells [(dB false)]]⟩) := ⟨_, rfl⟩
    refine EvL.rounds (α := (Int × Int)) T2 (fun n a => zaH p1 p0 n a.1 a.2 = some o1) ((p1.parents.length : Int) - 0 + 2 : Int).toNat (1, 0) (by rw [hT2]; exact zam.m0 [.k, .k, .k] rfl (ms rfl rfl (ms rfl rfl (ms rfl rfl (ms rfl trivial (ms rfl trivial (ms rfl trivial (ms rfl trivial trivial))))))) ⟨MB.cs ⟨trivial, trivial, trivial, trivial, trivial, trivial⟩, ⟨MB.cs ⟨trivial, trivial, trivial, trivial⟩, ⟨MB.cs ⟨trivial, trivial⟩, trivial⟩⟩⟩) j1 (fun _ h => nomatch (show (none : Option Int) = some o1 from h)) ?_
    · rintro n ⟨v5, v16⟩ j1
      simp only [zaH] at j1
      rw [congrFun hT2 (v5, v16)]
      refine zaa ?_
      try simp only [rnA, Nat.reduceEqDiff, Nat.reduceLT]
      cases c1 : (decide (v16 < (p1.parents.length : Int)))
      · rw [c1, cond_false] at j1
        try simp only [rnA]
        replace j1 := Option.some.inj j1; subst j1
        exact ⟨_, rfl, by rw [hT1]; exact zam.m0 [.k, .k, .k] rfl (ms rfl rfl (ms rfl rfl (ms rfl rfl (ms rfl trivial trivial)))) ⟨MB.cs ⟨trivial, trivial, trivial, trivial, trivial, trivial⟩, ⟨MB.cs ⟨trivial, trivial, trivial, trivial⟩, ⟨MB.cs ⟨trivial, trivial⟩, trivial⟩⟩⟩⟩
      · rw [c1, cond_true] at j1
        obtain ⟨x2, g3, j1⟩ := bind_some j1
        obtain ⟨x4, g5, j1⟩ := bind_some j1
        try simp only [rnA, Nat.reduceEqDiff, Nat.reduceLT, zak (n := 1) (e := (eI .i64)) rfl g3, zak (n := 1) (e := (eI .i64)) rfl g5]
        exact ⟨((w64 (v5 * x4)), (w64 (v16 + 1))), j1, by rw [hT2]; exact zam.m0 [.k, .k, .k] rfl (ms rfl rfl (ms rfl rfl (ms rfl rfl (ms rfl trivial (ms rfl trivial (ms rfl trivial (ms rfl trivial trivial))))))) ⟨MB.cs ⟨trivial, trivial, trivial, trivial, trivial, trivial⟩, ⟨MB.cs ⟨trivial, trivial, trivial, trivial⟩, ⟨MB.cs ⟨trivial, trivial⟩, trivial⟩⟩⟩⟩
  · rintro v5 rfl
    rw [congrFun hT1 v5]
    refine zaa ?_
    try simp only [rnA, Nat.reduceEqDiff, Nat.reduceLT, zax]
    cases c6 : ((p1.rows.length : Int) == v5)
    · rw [c6, cond_false] at h
      try simp only [rnA, Nat.reduceEqDiff, Nat.reduceLeDiff]
      replace h := Option.some.inj h; subst h
      exact zdj.ret rfl (.lit _)
    · rw [c6, cond_true] at h
      obtain ⟨r7, g8, h⟩ := bind_some h
      try simp only [rnA, Nat.reduceEqDiff, Nat.reduceLT, Nat.reduceAdd, Nat.reduceLeDiff]
      refine EvL.fnS (zks g8) rfl rfl (.cons (Mzs.agg (.cons (.lit _) (.cons (zet _ _ (fun h => by cases h <;> contradiction)) (.cons (zet _ _ (fun h => by cases h <;> contradiction)) .nil)))) .nil) ⟨⟨trivial, (za3 _ _), (za3 _ _), trivial⟩, trivial⟩ ⟨trivial, ⟨⟨rfl, zab.fr _⟩, trivial⟩⟩ ?_
      try simp only [rnA, Nat.reduceLT, zaB]
      obtain ⟨u9, g10, h⟩ := bind_some h
      obtain ⟨o12, j12, h⟩ := bind_some h
      obtain ⟨T12, hT12⟩ : ∃ T : Unit → List LB, T = (fun a => [.cells [(dI p0.net.grain), (fzE false zab p0.net.nodes), (fzE false (eI .i64) p0.cards), (fzE false (eI .u64) p0.sets), (fzE false (eI .i64) p0.order)], .cells [(dI p1.card), (fzE false (eI .i64) p1.parents), (fzE false (eL (eI .i64)) p1.rows)], .cells [(dB false)]]) := ⟨_, rfl⟩
      refine EvL.znM (S' := ⟨66, [(2, (.ptr 0 0)), (3, (.ptr 1 0)), (4, (.ptr 2 0)), (34, (.clo 236 [] [(.fptr false (zab.c false r7))]))], T12 ()⟩) (by rw [hT12]; exact zam.m0 [.k, .k, .k] rfl (ms rfl rfl (ms rfl rfl (ms rfl rfl (ms rfl ⟨trivial, ⟨trivial, trivial⟩⟩ trivial)))) ⟨MB.cs ⟨trivial, trivial, trivial, trivial, trivial, trivial⟩, ⟨MB.cs ⟨trivial, trivial, trivial, trivial⟩, ⟨MB.cs ⟨trivial, trivial⟩, trivial⟩⟩⟩) ?_
      refine EvL.zlI (n0 := 3) (zjC r7 g10) rfl (bm := .block 3 (.seq (.reg false false [⟨some 37, .fld 0 (.s 2), none⟩,
 ⟨some 38, .fld 0 (.s 37), none⟩,
 ⟨some 39, .load none (.s 38), none⟩,
 ⟨some 10, .mov (.s 39), none⟩])
 (.seq (.seq (.reg false false [⟨some 40, .mov (.s 9), none⟩,
 ⟨some 41, .len (.s 40), none⟩,
 ⟨some 42, .mov (.c (.int .i64 0)), none⟩])
 (.scope (.block 4 (.loop (.seq (.reg false false [⟨some 43, .bin .lss (.s 42) (.s 41), none⟩])
 (.seq (.cond (.s 43) (.skip)
 (.exit 4))
 (.seq (.block 5 (.seq (.reg false false [⟨some 44, .idxS 1 (.s 40) (.s 42), none⟩,
 ⟨some 45, .load none (.s 44), none⟩,
 ⟨some 12, .mov (.s 45), none⟩])
 (.seq (.seq (.scope (.reg false false [⟨some 46, .mov (.s 12), none⟩,
 ⟨some 47, .bin .lss (.s 46) (.c (.int .i64 0)), none⟩,
 ⟨some 48, .mov (.s 47), none⟩,
 ⟨some 49, .mov (.s 12), some (48, false)⟩,
 ⟨some 50, .mov (.s 10), some (48, false)⟩,
 ⟨some 51, .bin .gtr (.s 49) (.s 50), some (48, false)⟩,
 ⟨some 52, .pick (.s 48) (.c (.bool true)) (.s 51), none⟩]))
 (.cond (.s 52) (.seq (.reg false false [⟨none, .store 1 (.s 4) (.c (.bool false)), none⟩])
 (.ret))
 (.skip)))
 (.reg false false [⟨some 53, .mov (.s 10), none⟩,
 ⟨some 54, .mov (.s 12), none⟩,
 ⟨some 55, .bin .sub (.s 53) (.s 54), none⟩,
 ⟨some 10, .mov (.s 55), none⟩]))))
 (.reg false false [⟨some 56, .bin .add (.s 42) (.c (.int .i64 1)), none⟩,
 ⟨some 42, .mov (.s 56), none⟩]))))))))
 (.seq (.scope (.reg false false [⟨some 57, .mov (.s 9), none⟩,
 ⟨some 58, .len (.s 57), none⟩,
 ⟨some 59, .fld 0 (.s 3), none⟩,
 ⟨some 60, .load none (.s 59), none⟩,
 ⟨some 61, .bin .neq (.s 58) (.s 60), none⟩,
 ⟨some 62, .mov (.s 61), none⟩,
 ⟨some 63, .mov (.s 10), some (62, false)⟩,
 ⟨some 64, .bin .neq (.s 63) (.c (.int .i64 0)), some (62, false)⟩,
 ⟨some 65, .pick (.s 62) (.c (.bool true)) (.s 64), none⟩]))
 (.cond (.s 65) (.seq (.reg false false [⟨none, .store 1 (.s 4) (.c (.bool false)), none⟩])
 (.ret))
 (.skip)))))) rfl T12 (fun i a => zaz p0 p1 ((zrk r7.rows).drop i) = some o12) (fun x L1 => match x with | .normal => ∃ a, o12 = .go a ∧ L1 = T12 a | .ret => L1.length = 3 ∧ ze8 (3 + 1) L1 ∧ (zdj [.cell 4 none] ((dB r))) .ret ⟨66, [(2, (.ptr 0 0)), (3, (.ptr 1 0)), (4, (.ptr 2 0)), (34, (.clo 236 [] [(.fptr false (zab.c false r7))]))], L1 ++ [.lost]⟩ | _ => False) () ?_ (Nat.zero_le _) ?_ ?_ ?_ (fun d L1 hx => hx.elim) ?_ ?_ ?_ ?_ ?_ ?_
      · intro a; rw [hT12]; rfl
      · exact ⟨(Nat.le_of_ble_eq_true rfl), (Nat.le_of_ble_eq_true rfl), (Nat.le_of_ble_eq_true rfl), ⟨trivial, ⟨trivial, trivial⟩⟩, trivial⟩
      · intro a; rw [hT12]; exact ⟨⟨trivial, trivial, trivial, trivial, trivial, trivial⟩, ⟨trivial, trivial, trivial, trivial⟩, ⟨trivial, trivial⟩, trivial⟩
      · intro x L1 hx
        cases x with
        | normal => obtain ⟨a, _, rfl⟩ := hx; exact ⟨by rw [hT12]; rfl, by rw [hT12]; exact ⟨⟨trivial, trivial, trivial, trivial, trivial, trivial⟩, ⟨trivial, trivial, trivial, trivial⟩, ⟨trivial, trivial⟩, trivial⟩⟩
        | ret => exact ⟨hx.1, hx.2.1⟩
        | exit id => exact hx.elim
        | panic d => exact hx.elim
      · exact j12
      · rintro i ⟨⟩ y11 args G lpF hy hi12 ⟨rfl, rfl⟩ hkin
        rw [zpA hy] at hi12
        simp only [zaz] at hi12
        refine ⟨_, _, rfl, rfl, ?_⟩
        rw [congrFun hT12 ()]
        refine zaa ?_
        try simp only [rnA, Nat.reduceEqDiff, Nat.reduceLT, Nat.reduceAdd, zaB, zax]
        obtain ⟨o16, j16, hi12⟩ := bind_some hi12
        obtain ⟨T16, hT16⟩ : ∃ T : Int → LSt, T = (fun a => ⟨66, [(3, (.ptr 1 0)), (4, (.ptr 2 0)), (9, (fzE false (eI .i64) y11.2)), (10, (dI a))], [.cells [(dI p0.net.grain), (fzE false zab p0.net.nodes), (fzE false (eI .i64) p0.cards), (fzE false (eI .u64) p0.sets), (fzE false (eI .i64) p0.order)], .cells [(dI p1.card), (fzE false (eI .i64) p1.parents), (fzE false (eL (eI .i64)) p1.rows)], .cells [(dB false)], lpF]⟩) := ⟨_, rfl⟩
        refine EvL.jn T16 (fun a => o16 = .go a) ?_ ?_
        · refine zaa ?_
          simp only [rnA]
          obtain ⟨T19, hT19⟩ : ∃ T : (Int × Int) → LSt, T = (fun a => ⟨66, [(3, (.ptr 1 0)), (4, (.ptr 2 0)), (9, (fzE false (eI .i64) y11.2)), (10, (dI a.1)), (40, (fzE false (eI .i64) y11.2)), (41, (dI (y11.2.length : Int))), (42, (dI a.2))], [.cells [(dI p0.net.grain), (fzE false zab p0.net.nodes), (fzE false (eI .i64) p0.cards), (fzE false (eI .u64) p0.sets), (fzE false (eI .i64) p0.order)], .cells [(dI p1.card), (fzE false (eI .i64) p1.parents), (fzE false (eL (eI .i64)) p1.rows)], .cells [(dB false)], lpF]⟩) := ⟨_, rfl⟩
          refine EvL.rounds (α := (Int × Int)) T19 (fun n a => zaG y11 n a.1 a.2 = some o16) ((y11.2.length : Int) - 0 + 2 : Int).toNat (p0.net.grain, 0) (by rw [hT19]; exact zam.mK (k0 := 4) [.k, .k, .k, .k] rfl rfl (ms rfl rfl (ms rfl rfl (ms rfl trivial (ms rfl trivial (ms rfl trivial (ms rfl trivial (ms rfl trivial trivial))))))) ⟨MB.cs ⟨trivial, trivial, trivial, trivial, trivial, trivial⟩, ⟨MB.cs ⟨trivial, trivial, trivial, trivial⟩, ⟨MB.cs ⟨trivial, trivial⟩, ⟨.same (hkin _ (by decide)), trivial⟩⟩⟩⟩) j16 (fun _ h => nomatch (show (none : Option (Out Int Bool)) = some o16 from h)) ?_
          · rintro n ⟨v10, v42⟩ j16
            simp only [zaG] at j16
            rw [congrFun hT19 (v10, v42)]
            refine zaa ?_
            try simp only [rnA, Nat.reduceEqDiff, Nat.reduceLT]
            cases c12 : (decide (v42 < (y11.2.length : Int)))
            · rw [c12, cond_false] at j16
              try simp only [rnA, Nat.reduceEqDiff]
              replace j16 := Option.some.inj j16; subst j16
              exact ⟨_, rfl, by rw [hT16]; exact zam.mK (k0 := 4) [.k, .k, .k, .k] rfl rfl (ms rfl rfl (ms rfl rfl (ms rfl trivial (ms rfl trivial trivial)))) ⟨MB.cs ⟨trivial, trivial, trivial, trivial, trivial, trivial⟩, ⟨MB.cs ⟨trivial, trivial, trivial, trivial⟩, ⟨MB.cs ⟨trivial, trivial⟩, ⟨.same (hkin _ (by decide)), trivial⟩⟩⟩⟩⟩
            · rw [c12, cond_true] at j16
              obtain ⟨x13, g14, j16⟩ := bind_some j16
              try simp only [rnA, Nat.reduceEqDiff, Nat.reduceLT, zak (n := 1) (e := (eI .i64)) rfl g14]
              obtain ⟨o20, j20, j16⟩ := bind_some j16
              obtain ⟨T20, hT20⟩ : ∃ T : Bool → LSt, T = (fun a => ⟨66, [(3, (.ptr 1 0)), (4, (.ptr 2 0)), (9, (fzE false (eI .i64) y11.2)), (10, (dI v10)), (12, (dI x13)), (40, (fzE false (eI .i64) y11.2)), (41, (dI (y11.2.length : Int))), (42, (dI v42)), (52, (dB a))], [.cells [(dI p0.net.grain), (fzE false zab p0.net.nodes), (fzE false (eI .i64) p0.cards), (fzE false (eI .u64) p0.sets), (fzE false (eI .i64) p0.order)], .cells [(dI p1.card), (fzE false (eI .i64) p1.parents), (fzE false (eL (eI .i64)) p1.rows)], .cells [(dB false)], lpF]⟩) := ⟨_, rfl⟩
              refine EvL.jn T20 (fun a => a = o20) ?_ ?_
              · refine zaa ?_
                try simp only [rnA, Nat.reduceEqDiff, Nat.reduceLT]
                cases c15 : (decide (x13 < 0))
                · rw [c15, cond_false] at j20
                  try simp only [rnA, Nat.reduceEqDiff, Nat.reduceLT]
                  replace j20 := Option.some.inj j20; subst j20
                  exact ⟨_, rfl, by rw [hT20]; exact zam.mK (k0 := 4) [.k, .k, .k, .k] rfl rfl (ms rfl rfl (ms rfl rfl (ms rfl trivial (ms rfl trivial (ms rfl trivial (ms rfl trivial (ms rfl trivial (ms rfl trivial (ms rfl trivial trivial))))))))) ⟨MB.cs ⟨trivial, trivial, trivial, trivial, trivial, trivial⟩, ⟨MB.cs ⟨trivial, trivial, trivial, trivial⟩, ⟨MB.cs ⟨trivial, trivial⟩, ⟨.same (hkin _ (by decide)), trivial⟩⟩⟩⟩⟩
                · rw [c15, cond_true] at j20
                  try simp only [rnA, Nat.reduceEqDiff, Nat.reduceLT]
                  replace j20 := Option.some.inj j20; subst j20
                  exact ⟨_, rfl, by rw [hT20]; exact zam.mK (k0 := 4) [.k, .k, .k, .k] rfl rfl (ms rfl rfl (ms rfl rfl (ms rfl trivial (ms rfl trivial (ms rfl trivial (ms rfl trivial (ms rfl trivial (ms rfl trivial (ms rfl trivial trivial))))))))) ⟨MB.cs ⟨trivial, trivial, trivial, trivial, trivial, trivial⟩, ⟨MB.cs ⟨trivial, trivial, trivial, trivial⟩, ⟨MB.cs ⟨trivial, trivial⟩, ⟨.same (hkin _ (by decide)), trivial⟩⟩⟩⟩⟩
              · rintro v52 rfl
                rw [congrFun hT20 v52]
                refine zaa ?_
                try simp only [rnA, Nat.reduceEqDiff]
                cases c16 : v52
                · rw [c16, cond_false] at j16
                  try simp only [rnA, Nat.reduceEqDiff, Nat.reduceLT]
                  exact ⟨((w64 (v10 - x13)), (w64 (v42 + 1))), j16, by rw [hT19]; exact zam.mK (k0 := 4) [.k, .k, .k, .k] rfl rfl (ms rfl rfl (ms rfl rfl (ms rfl trivial (ms rfl trivial (ms rfl trivial (ms rfl trivial (ms rfl trivial trivial))))))) ⟨MB.cs ⟨trivial, trivial, trivial, trivial, trivial, trivial⟩, ⟨MB.cs ⟨trivial, trivial, trivial, trivial⟩, ⟨MB.cs ⟨trivial, trivial⟩, ⟨.same (hkin _ (by decide)), trivial⟩⟩⟩⟩⟩
                · rw [c16, cond_true] at j16
                  try simp only [rnA, Nat.reduceEqDiff, Nat.reduceLeDiff]
                  replace j16 := Option.some.inj j16; subst j16
                  dsimp only at hi12
                  replace hi12 := Option.some.inj hi12; subst hi12
                  dsimp only at h
                  replace h := Option.some.inj h; subst h
                  exact ⟨[.cells [(dI p0.net.grain), (fzE false zab p0.net.nodes), (fzE false (eI .i64) p0.cards), (fzE false (eI .u64) p0.sets), (fzE false (eI .i64) p0.order)], .cells [(dI p1.card), (fzE false (eI .i64) p1.parents), (fzE false (eL (eI .i64)) p1.rows)], .cells [(dB false)]], rfl, zam.mK [.k, .k, .k, .k] rfl rfl trivial ⟨MB.cs ⟨trivial, trivial, trivial, trivial, trivial, trivial⟩, ⟨MB.cs ⟨trivial, trivial, trivial, trivial⟩, ⟨MB.cs ⟨trivial, trivial⟩, ⟨.same (hkin _ (by decide)), trivial⟩⟩⟩⟩, rfl, ⟨⟨trivial, trivial, trivial, trivial, trivial, trivial⟩, ⟨trivial, trivial, trivial, trivial⟩, ⟨trivial, trivial⟩, trivial⟩, zdj.ret rfl (.lit _)⟩
        · rintro v10 rfl
          dsimp only at hi12
          rw [congrFun hT16 v10]
          refine zaa ?_
          try simp only [rnA]
          obtain ⟨o21, j21, hi12⟩ := bind_some hi12
          obtain ⟨T21, hT21⟩ : ∃ T : Bool → LSt, T = (fun a => ⟨66, [(4, (.ptr 2 0)), (65, (dB a))], [.cells [(dI p0.net.grain), (fzE false zab p0.net.nodes), (fzE false (eI .i64) p0.cards), (fzE false (eI .u64) p0.sets), (fzE false (eI .i64) p0.order)], .cells [(dI p1.card), (fzE false (eI .i64) p1.parents), (fzE false (eL (eI .i64)) p1.rows)], .cells [(dB false)], lpF]⟩) := ⟨_, rfl⟩
          refine EvL.jn T21 (fun a => a = o21) ?_ ?_
          · refine zaa ?_
            try simp only [rnA, Nat.reduceEqDiff, Nat.reduceLT, zax]
            cases c17 : ((y11.2.length : Int) == p1.card)
            · rw [c17, cond_false] at j21
              try simp only [rnA, Nat.reduceEqDiff, Nat.reduceLT]
              replace j21 := Option.some.inj j21; subst j21
              exact ⟨_, rfl, by rw [hT21]; exact zam.mK (k0 := 4) [.k, .k, .k, .k] rfl rfl (ms rfl rfl (ms rfl trivial trivial)) ⟨MB.cs ⟨trivial, trivial, trivial, trivial, trivial, trivial⟩, ⟨MB.cs ⟨trivial, trivial, trivial, trivial⟩, ⟨MB.cs ⟨trivial, trivial⟩, ⟨.same (hkin _ (by decide)), trivial⟩⟩⟩⟩⟩
            · rw [c17, cond_true] at j21
              try simp only [rnA, Nat.reduceEqDiff, Nat.reduceLT]
              replace j21 := Option.some.inj j21; subst j21
              exact ⟨_, rfl, by rw [hT21]; exact zam.mK (k0 := 4) [.k, .k, .k, .k] rfl rfl (ms rfl rfl (ms rfl trivial trivial)) ⟨MB.cs ⟨trivial, trivial, trivial, trivial, trivial, trivial⟩, ⟨MB.cs ⟨trivial, trivial, trivial, trivial⟩, ⟨MB.cs ⟨trivial, trivial⟩, ⟨.same (hkin _ (by decide)), trivial⟩⟩⟩⟩⟩
          · rintro v65 rfl
            rw [congrFun hT21 v65]
            refine zaa ?_
            try simp only [rnA, Nat.reduceEqDiff]
            cases c18 : v65
            · rw [c18, cond_false] at hi12
              try simp only [rnA]
              exact ⟨T12 (), by rw [hT12]; rfl, by rw [hT12]; exact zam.mK [.k, .k, .k, .k] rfl rfl trivial ⟨MB.cs ⟨trivial, trivial, trivial, trivial, trivial, trivial⟩, ⟨MB.cs ⟨trivial, trivial, trivial, trivial⟩, ⟨MB.cs ⟨trivial, trivial⟩, ⟨.same (hkin _ (by decide)), trivial⟩⟩⟩⟩, (), hi12, rfl⟩
            · rw [c18, cond_true] at hi12
              try simp only [rnA, Nat.reduceEqDiff, Nat.reduceLeDiff]
              replace hi12 := Option.some.inj hi12; subst hi12
              dsimp only at h
              replace h := Option.some.inj h; subst h
              exact ⟨[.cells [(dI p0.net.grain), (fzE false zab p0.net.nodes), (fzE false (eI .i64) p0.cards), (fzE false (eI .u64) p0.sets), (fzE false (eI .i64) p0.order)], .cells [(dI p1.card), (fzE false (eI .i64) p1.parents), (fzE false (eL (eI .i64)) p1.rows)], .cells [(dB false)]], rfl, zam.mK [.k, .k, .k, .k] rfl rfl trivial ⟨MB.cs ⟨trivial, trivial, trivial, trivial, trivial, trivial⟩, ⟨MB.cs ⟨trivial, trivial, trivial, trivial⟩, ⟨MB.cs ⟨trivial, trivial⟩, ⟨.same (hkin _ (by decide)), trivial⟩⟩⟩⟩, rfl, ⟨⟨trivial, trivial, trivial, trivial, trivial, trivial⟩, ⟨trivial, trivial, trivial, trivial⟩, ⟨trivial, trivial⟩, trivial⟩, zdj.ret rfl (.lit _)⟩
      · rintro ⟨⟩ hi12
        rw [List.drop_length] at hi12
        simp only [zaz] at hi12
        exact ⟨(), (Option.some.inj hi12).symm, rfl⟩
      · rintro _ ⟨⟨⟩, rfl, rfl⟩
        dsimp only at h
        rw [congrFun hT12 ()]
        refine zaa ?_
        try simp only [rnA, Nat.reduceEqDiff, Nat.reduceLeDiff, zaB]
        replace h := Option.some.inj h; subst h
        exact zdj.ret rfl (.lit _)
      · intro id L1 hx; exact hx.elim
      · intro L1 hx; exact hx.2.2
end Go.Dc
namespace Go.Dc
open Go Go.Mx Go.Lx Go.Proofs
set_option maxRecDepth 100000
set_option maxHeartbeats 4000000
def zbG (p0 : (List Int)) (v5 : Int) (C1 : Nat) : Nat → Int → (List Int) → Option (Out3 Unit (Int × (List Int)) ((List Int) × Bool))
  | 0, _, _ => none
  | n+1, v18, l0' => (
bif (decide (v18 < (p0.length : Int))) then (
(zbn p0 v18).bind fun x5 =>
(((zc7 .u64 v5 v18).bind fun q7 =>
bif ((zbM .u64 q7 1) == 0) then (
some (((zsr .u64 x5 v5) == 0), l0'))
else (
some (false, l0')) : Option ((Bool × (List Int))))).bind fun o => match o with
| (v33, l0'') => (
bif v33 then (
(zkh C1 l0'' [v18]).bind fun y11 =>
(zjj .u64 1 v18).bind fun q13 =>
some (.brk ((orI .u64 v5 q13), y11)))
else (
zbG p0 v5 C1 n (w64 (v18 + 1)) l0'')))
else (
some (.go ())))
def zbC (p0 : (List Int)) (C1 : Nat) : Nat → Int → (List Int) → Option (Out (List Int) ((List Int) × Bool))
  | 0, _, _ => none
  | n+1, v5, l0 => (
bif (decide (((l0.length : Nat) : Int) < (p0.length : Int))) then (
((zbG p0 v5 C1 ((p0.length : Int) - 0 + 2 : Int).toNat 0 l0 : Option (Out3 Unit (Int × (List Int)) ((List Int) × Bool)))).bind fun o => match o with
| .go _ => (
some (.ret ([], false)))
| .brk (v5', l0') => (
zbC p0 C1 n v5' l0')
| .ret r => some (.ret r))
else (
some (.go l0)))
def zcv (p0 : (List Int)) : Option ((List Int) × Bool) :=
(zsC 8 (p0.length : Int)).bind fun C1 =>
((zbC p0 C1 ((p0.length : Int) - ((([] : List Int).length : Nat) : Int) + 2 : Int).toNat 0 ([] : List Int) : Option (Out (List Int) ((List Int) × Bool)))).bind fun o => match o with
| .go l0 => (
some (l0, true))
| .ret r => some r
def zfJ : C :=
 .seq (.reg false false [⟨some 2, .mov (.c (.slice none 0 0)), none⟩,
 ⟨some 3, .mov (.c (.bool false)), none⟩])
 (.scope (.seq (.reg false false [⟨some 8, .mov (.s 0), none⟩,
 ⟨some 9, .len (.s 8), none⟩,
 ⟨some 10, .mk 1 8 [(.int .i64 0)] (.c (.int .i64 0)) (.s 9), none⟩,
 ⟨some 4, .mov (.s 10), none⟩,
 ⟨some 5, .mov (.c (.int .u64 0)), none⟩])
 (.seq (.label 0)
 (.seq (.scope (.block 0 (.loop (.seq (.seq (.reg false false [⟨some 11, .mov (.s 4), none⟩,
 ⟨some 12, .len (.s 11), none⟩,
 ⟨some 13, .mov (.s 0), none⟩,
 ⟨some 14, .len (.s 13), none⟩,
 ⟨some 15, .bin .lss (.s 12) (.s 14), none⟩])
 (.cond (.s 15) (.skip)
 (.exit 0)))
 (.block 1 (.seq (.seq (.reg false false [⟨some 16, .mov (.s 0), none⟩,
 ⟨some 17, .len (.s 16), none⟩,
 ⟨some 18, .mov (.c (.int .i64 0)), none⟩])
 (.scope (.block 2 (.loop (.seq (.reg false false [⟨some 19, .bin .lss (.s 18) (.s 17), none⟩])
 (.seq (.cond (.s 19) (.skip)
 (.exit 2))
 (.seq (.block 3 (.seq (.reg false false [⟨some 20, .mov (.s 18), none⟩,
 ⟨some 21, .idxS 1 (.s 16) (.s 18), none⟩,
 ⟨some 22, .load none (.s 21), none⟩,
 ⟨some 6, .mov (.s 20), none⟩,
 ⟨some 7, .mov (.s 22), none⟩])
 (.seq (.scope (.reg false false [⟨some 23, .mov (.s 5), none⟩,
 ⟨some 24, .mov (.s 6), none⟩,
 ⟨some 25, .bin .shr (.s 23) (.s 24), none⟩,
 ⟨some 26, .bin .and (.s 25) (.c (.int .u64 1)), none⟩,
 ⟨some 27, .bin .eql (.s 26) (.c (.int .u64 0)), none⟩,
 ⟨some 28, .mov (.s 27), none⟩,
 ⟨some 29, .mov (.s 7), some (28, true)⟩,
 ⟨some 30, .mov (.s 5), some (28, true)⟩,
 ⟨some 31, .bin .andNot (.s 29) (.s 30), some (28, true)⟩,
 ⟨some 32, .bin .eql (.s 31) (.c (.int .u64 0)), some (28, true)⟩,
 ⟨some 33, .pick (.s 28) (.s 32) (.c (.bool false)), none⟩]))
 (.cond (.s 33) (.seq (.reg false false [⟨some 34, .mov (.s 4), none⟩,
 ⟨some 35, .mov (.s 6), none⟩,
 ⟨some 36, .bsl 1 1 [(.int .i64 0)] [(0, (.s 35))], none⟩,
 ⟨some 37, .app 1 8 (.s 34) (.s 36), none⟩,
 ⟨some 4, .mov (.s 37), none⟩])
 (.seq (.reg false false [⟨some 38, .mov (.s 5), none⟩,
 ⟨some 39, .mov (.s 6), none⟩,
 ⟨some 40, .bin .shl (.c (.int .u64 1)) (.s 39), none⟩,
 ⟨some 41, .bin .or (.s 38) (.s 40), none⟩,
 ⟨some 5, .mov (.s 41), none⟩])
 (.exit 1)))
 (.skip)))))
 (.reg false false [⟨some 42, .bin .add (.s 18) (.c (.int .i64 1)), none⟩,
 ⟨some 18, .mov (.s 42), none⟩]))))))))
 (.seq (.reg false false [⟨some 2, .mov (.c (.slice none 0 0)), none⟩,
 ⟨some 3, .mov (.c (.bool false)), none⟩])
 (.ret))))))))
 (.seq (.reg false false [⟨some 43, .mov (.s 4), none⟩,
 ⟨some 2, .mov (.s 43), none⟩,
 ⟨some 3, .mov (.c (.bool true)), none⟩])
 (.ret))))))
theorem zgW : zeG mC 207 = some (44, zfJ, [.tmp 2, .tmp 3], false) := zaw (by kernel_rfl)
theorem zii {p0 : (List Int)} {r : ((List Int) × Bool)} (h : zcv p0 = some r) : Lx.Fn mC 207 [(fzE false (eI .u64) p0)] (.tup [(fzE true (eI .i64) r.1), (dB r.2)]) := by
  refine Fn.of zgW (zav rfl) (Nat.le_of_ble_eq_true rfl) ?_
  unfold zcv at h
  unfold zfJ
  refine zaa ?_
  try simp only [rnA, Nat.reduceLT]
  refine EvL.scope (zaa ?_)
  obtain ⟨C1, g2, h⟩ := bind_some h
  try simp only [rnA, Nat.reduceEqDiff, Nat.reduceLT, reduceCtorEq, zax, (zh1 g2).1.1, (zh1 g2).1.2, (zh1 g2).2, Int.le_refl, Int.toNat_zero, (show List.replicate C1 [(dI 0)] = (room [] C1 0).map ((eI .i64).c true) from zpO g2 0 ((eI .i64).c true))]
  obtain ⟨o84, j84, h⟩ := bind_some h
  obtain ⟨T84, hT84⟩ : ∃ T : (List Int) → LSt, T = (fun a => ⟨44, [(4, (.sl 0 0 1 a.length (some C1) C1))], [.els 1 ((room a C1 0).map ((eI .i64).c true))]⟩) := ⟨_, rfl⟩
  refine EvL.jn T84 (fun a => o84 = .go a ∧ a.length ≤ C1) ?_ ?_
  · refine zaa ?_
    simp only [rnA]
    obtain ⟨T103, hT103⟩ : ∃ T : (Int × (List Int)) → LSt, T = (fun a => ⟨44, [(0, (fzE false (eI .u64) p0)), (4, (.sl 0 0 1 a.2.length (some C1) C1)), (5, (dU a.1))], [.els 1 ((room a.2 C1 0).map ((eI .i64).c true))]⟩) := ⟨_, rfl⟩
    refine EvL.rounds (α := (Int × (List Int))) T103 (fun n a => zbC p0 C1 n a.1 a.2 = some o84 ∧ a.2.length ≤ C1) ((p0.length : Int) - ((([] : List Int).length : Nat) : Int) + 2 : Int).toNat (0, ([] : List Int)) (by rw [hT103]; exact zam.m0 [.k] rfl (ms rfl trivial (ms rfl rfl (ms rfl trivial trivial))) ⟨MB.es (eI .i64) true (room ([] : List Int) C1 0), trivial⟩) ⟨j84, (Nat.zero_le _)⟩ (fun _ h => nomatch (show (none : Option (Out (List Int) ((List Int) × Bool))) = some o84 from h.1)) ?_
    · rintro n ⟨v5, l0⟩ ⟨j84, el0⟩
      simp only [zbC] at j84
      rw [congrFun hT103 (v5, l0)]
      refine zaa ?_
      try simp only [rnA, Nat.reduceEqDiff, Nat.reduceLT, reduceCtorEq, zfY el0 0, zax]
      cases c3 : (decide (((l0.length : Nat) : Int) < (p0.length : Int)))
      · rw [c3, cond_false] at j84
        try simp only [rnA]
        replace j84 := Option.some.inj j84; subst j84
        exact ⟨_, ⟨rfl, el0⟩, by rw [hT84]; exact zam.m0 [.k] rfl (ms rfl rfl trivial) ⟨MB.es (eI .i64) true (room l0 C1 0), trivial⟩⟩
      · rw [c3, cond_true] at j84
        try simp only [rnA, Nat.reduceEqDiff, Nat.reduceLT, reduceCtorEq, zax]
        obtain ⟨o108, j108, j84⟩ := bind_some j84
        obtain ⟨T108, hT108⟩ : ∃ T : Unit → LSt, T = (fun a => ⟨44, [], []⟩) := ⟨_, rfl⟩
        obtain ⟨TB108, hTB108⟩ : ∃ T : (Int × (List Int)) → LSt, T = (fun a => ⟨44, [(0, (fzE false (eI .u64) p0)), (4, (.sl 0 0 1 a.2.length (some C1) C1)), (5, (dU a.1))], [.els 1 ((room a.2 C1 0).map ((eI .i64).c true))]⟩) := ⟨_, rfl⟩
        refine EvL.jn2 (id := 1) T108 (fun a => o108 = .go a) TB108 (fun a => o108 = .brk a ∧ a.2.length ≤ C1) (fun id S hx => by first | (rcases hx with ⟨hx | hx, _⟩ <;> cases hx) | exact hx.elim) ?_ ?_ ?_
        · refine zaa ?_
          simp only [rnA]
          obtain ⟨T111, hT111⟩ : ∃ T : (Int × (List Int)) → LSt, T = (fun a => ⟨44, [(0, (fzE false (eI .u64) p0)), (4, (.sl 0 0 1 a.2.length (some C1) C1)), (5, (dU v5)), (16, (fzE false (eI .u64) p0)), (17, (dI (p0.length : Int))), (18, (dI a.1))], [.els 1 ((room a.2 C1 0).map ((eI .i64).c true))]⟩) := ⟨_, rfl⟩
          refine EvL.rounds (α := (Int × (List Int))) T111 (fun n a => zbG p0 v5 C1 n a.1 a.2 = some o108 ∧ a.2.length ≤ C1) ((p0.length : Int) - 0 + 2 : Int).toNat (0, l0) (by rw [hT111]; exact zam.m0 [.k] rfl (ms rfl trivial (ms rfl rfl (ms rfl trivial (ms rfl trivial (ms rfl trivial (ms rfl trivial trivial)))))) ⟨MB.es (eI .i64) true (room l0 C1 0), trivial⟩) ⟨j108, el0⟩ (fun _ h => nomatch (show (none : Option (Out3 Unit (Int × (List Int)) ((List Int) × Bool))) = some o108 from h.1)) ?_
          · rintro n ⟨v18, l0'⟩ ⟨j108, el0'⟩
            simp only [zbG] at j108
            rw [congrFun hT111 (v18, l0')]
            refine zaa ?_
            try simp only [rnA, Nat.reduceEqDiff, Nat.reduceLT, reduceCtorEq]
            cases c4 : (decide (v18 < (p0.length : Int)))
            · rw [c4, cond_false] at j108
              try simp only [rnA, Nat.reduceEqDiff]
              replace j108 := Option.some.inj j108; subst j108
              exact ⟨_, rfl, by rw [hT108]; exact zam.m0 [] rfl trivial trivial⟩
            · rw [c4, cond_true] at j108
              obtain ⟨x5, g6, j108⟩ := bind_some j108
              try simp only [rnA, Nat.reduceEqDiff, Nat.reduceLT, reduceCtorEq, zak (n := 1) (e := (eI .u64)) rfl g6]
              obtain ⟨o112, j112, j108⟩ := bind_some j108
              obtain ⟨T112, hT112⟩ : ∃ T : (Bool × (List Int)) → LSt, T = (fun a => ⟨44, [(0, (fzE false (eI .u64) p0)), (4, (.sl 0 0 1 a.2.length (some C1) C1)), (5, (dU v5)), (6, (dI v18)), (16, (fzE false (eI .u64) p0)), (17, (dI (p0.length : Int))), (18, (dI v18)), (33, (dB a.1))], [.els 1 ((room a.2 C1 0).map ((eI .i64).c true))]⟩) := ⟨_, rfl⟩
              refine EvL.jn T112 (fun a => a = o112 ∧ a.2.length ≤ C1) ?_ ?_
              · refine zaa ?_
                obtain ⟨q7, g8, j112⟩ := bind_some j112
                try simp only [rnA, Nat.reduceEqDiff, Nat.reduceLT, reduceCtorEq, (zaf g8).1, (zaf g8).2]
                cases c9 : ((zbM .u64 q7 1) == 0)
                · rw [c9, cond_false] at j112
                  try simp only [rnA, Nat.reduceEqDiff, Nat.reduceLT, reduceCtorEq]
                  replace j112 := Option.some.inj j112; subst j112
                  exact ⟨_, ⟨rfl, el0'⟩, by rw [hT112]; exact zam.m0 [.k] rfl (ms rfl trivial (ms rfl rfl (ms rfl trivial (ms rfl trivial (ms rfl trivial (ms rfl trivial (ms rfl trivial (ms rfl trivial trivial)))))))) ⟨MB.es (eI .i64) true (room l0' C1 0), trivial⟩⟩
                · rw [c9, cond_true] at j112
                  try simp only [rnA, Nat.reduceEqDiff, Nat.reduceLT, reduceCtorEq]
                  replace j112 := Option.some.inj j112; subst j112
                  exact ⟨_, ⟨rfl, el0'⟩, by rw [hT112]; exact zam.m0 [.k] rfl (ms rfl trivial (ms rfl rfl (ms rfl trivial (ms rfl trivial (ms rfl trivial (ms rfl trivial (ms rfl trivial (ms rfl trivial trivial)))))))) ⟨MB.es (eI .i64) true (room l0' C1 0), trivial⟩⟩
              · rintro ⟨v33, l0''⟩ ⟨rfl, el0''⟩
                dsimp only at j108
                rw [congrFun hT112 (v33, l0'')]
                refine zaa ?_
                try simp only [rnA, Nat.reduceEqDiff, reduceCtorEq]
                cases c10 : v33
                · rw [c10, cond_false] at j108
                  try simp only [rnA, Nat.reduceEqDiff, Nat.reduceLT, reduceCtorEq]
                  exact ⟨((w64 (v18 + 1)), l0''), ⟨j108, el0''⟩, by rw [hT111]; exact zam.m0 [.k] rfl (ms rfl trivial (ms rfl rfl (ms rfl trivial (ms rfl trivial (ms rfl trivial (ms rfl trivial trivial)))))) ⟨MB.es (eI .i64) true (room l0'' C1 0), trivial⟩⟩
                · rw [c10, cond_true] at j108
                  obtain ⟨y11, g12, j108⟩ := bind_some j108
                  obtain ⟨q13, g14, j108⟩ := bind_some j108
                  try simp only [rnA, Nat.reduceEqDiff, Nat.reduceLT, Nat.reduceAdd, Nat.reduceLeDiff, reduceCtorEq, zfY el0'' 0, (show l0''.length + 1 = y11.length from zju g12), zlx g12, (show ((room l0'' C1 0).map ((eI .i64).c true)).take l0''.length ++ [[(dI v18)]] ++ ((room l0'' C1 0).map ((eI .i64).c true)).drop y11.length = (room y11 C1 0).map ((eI .i64).c true) from zn1 g12 0 ((eI .i64).c true)), (za9 g14).1, (za9 g14).2]
                  replace j108 := Option.some.inj j108; subst j108
                  exact ⟨_, ⟨rfl, (zlx g12)⟩, by rw [hTB108]; exact zam.m0 [.k] rfl (ms rfl trivial (ms rfl rfl (ms rfl trivial trivial))) ⟨MB.es (eI .i64) true (room y11 C1 0), trivial⟩⟩
        · rintro ⟨⟩ rfl
          dsimp only at j84
          rw [congrFun hT108 ()]
          refine zaa ?_
          try simp only [rnA, Nat.reduceLT]
          replace j84 := Option.some.inj j84; subst j84
          dsimp only at h
          replace h := Option.some.inj h; subst h
          exact zdj.ret rfl (Snp.zg0 (.cons (zaQ (eI .i64)) (.cons (.lit _) .nil)))
        · rintro ⟨v5', l0'⟩ ⟨rfl, el0'⟩
          dsimp only at j84
          rw [congrFun hTB108 (v5', l0')]
          refine zaa ?_
          try simp only [rnA, reduceCtorEq]
          exact ⟨(v5', l0'), ⟨j84, el0'⟩, by rw [hT103]; exact zam.m0 [.k] rfl (ms rfl trivial (ms rfl rfl (ms rfl trivial trivial))) ⟨MB.es (eI .i64) true (room l0' C1 0), trivial⟩⟩
  · rintro l0 ⟨rfl, el0⟩
    dsimp only at h
    rw [congrFun hT84 l0]
    refine zaa ?_
    try simp only [rnA, Nat.reduceEqDiff, Nat.reduceLT]
    replace h := Option.some.inj h; subst h
    exact zdj.ret rfl (Snp.zg0 (.cons (zo8 (e := (eI .i64)) (t := true) (z := 0) rfl rfl el0 (fun _ => rfl)) (.cons (.lit _) .nil)))
end Go.Dc
namespace Go.Dc
open Go Go.Mx Go.Lx Go.Proofs
set_option maxRecDepth 100000
set_option maxHeartbeats 4000000
def zbV (p0 : S_api_Net) : Nat → Int → Int → (List Int) → Option (Out (Int × (List Int)) (S_net_network × Int))
  | 0, _, _, _ => none
  | n+1, v5, v50, l2 => (
bif (decide (v50 < (p0.nodes.length : Int))) then (
(zbn p0.nodes v50).bind fun x10 =>
((bif (decide (x10.card < 1)) then (
some true)
else (
some (decide (4 < x10.card))) : Option Bool)).bind fun v62 =>
bif v62 then (
some (.ret ((S_net_network.mk (S_api_Net.mk 0 []) [] [] []), 50)))
else (
(zbn l2 v50).bind fun x14 =>
(zgD l2 v50 x10.card).bind fun y16 =>
zbV p0 n (w64 (v5 * x10.card)) (w64 (v50 + 1)) y16))
else (
some (.go (v5, l2))))
def zck (x20 : S_api_Node) (p0 : S_api_Net) (v82 : Int) : Nat → Int → Int → (List Int) → Option (Out (List Int) (S_net_network × Int))
  | 0, _, _, _ => none
  | n+1, v10, v90, l3' => (
bif (decide (v90 < (x20.parents.length : Int))) then (
(zbn x20.parents v90).bind fun x23 =>
((bif (decide (x23 ≤ v10)) then (
some true)
else (
bif (decide ((p0.nodes.length : Int) ≤ x23)) then (
some true)
else (
some (x23 == v82))) : Option Bool)).bind fun v109 =>
bif v109 then (
some (.ret ((S_net_network.mk (S_api_Net.mk 0 []) [] [] []), 50)))
else (
(zbn l3' v82).bind fun x28 =>
(zjj .u64 1 x23).bind fun q30 =>
(zgD l3' v82 (orI .u64 x28 q30)).bind fun y32 =>
zck x20 p0 v82 n x23 (w64 (v90 + 1)) y32))
else (
some (.go l3')))
def zbW (p0 : S_api_Net) (l2 : (List Int)) : Nat → Int → (List Int) → Option (Out (List Int) (S_net_network × Int))
  | 0, _, _ => none
  | n+1, v82, l3 => (
bif (decide (v82 < (p0.nodes.length : Int))) then (
(zbn p0.nodes v82).bind fun x20 =>
((zck x20 p0 v82 ((x20.parents.length : Int) - 0 + 2 : Int).toNat (-1) 0 l3 : Option (Out (List Int) (S_net_network × Int)))).bind fun o => match o with
| .go l3' => (
(za0 (S_net_network.mk p0 l2 l3' []) x20).bind fun r34 =>
bif r34 then (
zbW p0 l2 n (w64 (v82 + 1)) l3')
else (
some (.ret ((S_net_network.mk (S_api_Net.mk 0 []) [] [] []), 50))))
| .ret r => some (.ret r))
else (
some (.go l3)))
def zbE (p0 : S_api_Net) : Option (S_net_network × Int) :=
((bif (decide (p0.grain < 1)) then (
some true)
else (
bif (decide (60 < p0.grain)) then (
some true)
else (
bif (decide ((p0.nodes.length : Int) < 1)) then (
some true)
else (
some (decide (8 < (p0.nodes.length : Int)))))) : Option Bool)).bind fun v34 =>
bif v34 then (
some ((S_net_network.mk (S_api_Net.mk 0 []) [] [] []), 50))
else (
(zfF 8 (p0.nodes.length : Int) 0).bind fun y5 =>
(zfF 8 (p0.nodes.length : Int) 0).bind fun y7 =>
((zbV p0 ((p0.nodes.length : Int) - 0 + 2 : Int).toNat 1 0 y5 : Option (Out (Int × (List Int)) (S_net_network × Int)))).bind fun o => match o with
| .go (v5, l2) => (
bif (decide (1024 < v5)) then (
some ((S_net_network.mk (S_api_Net.mk 0 []) [] [] []), 50))
else (
((zbW p0 l2 ((p0.nodes.length : Int) - 0 + 2 : Int).toNat 0 y7 : Option (Out (List Int) (S_net_network × Int)))).bind fun o => match o with
| .go l3 => (
(zcv l3).bind fun r37 =>
bif r37.2 then (
some ((S_net_network.mk p0 l2 l3 r37.1), 0))
else (
some ((S_net_network.mk (S_api_Net.mk 0 []) [] [] []), 50)))
| .ret r => some r))
| .ret r => some r)
def zhb : C :=
 .seq (.reg false false [⟨some 1, .box (.s 0), none⟩,
 ⟨some 2, .alloc [(.int .i64 0), (.slice none 0 0), (.slice none 0 0), (.slice none 0 0), (.slice none 0 0)], none⟩,
 ⟨some 3, .mov (.c (.int .i64 0)), none⟩])
 (.seq (.seq (.scope (.reg false false [⟨some 15, .fld 0 (.s 1), none⟩,
 ⟨some 16, .load none (.s 15), none⟩,
 ⟨some 17, .bin .lss (.s 16) (.c (.int .i64 1)), none⟩,
 ⟨some 18, .mov (.s 17), none⟩,
 ⟨some 19, .fld 0 (.s 1), some (18, false)⟩,
 ⟨some 20, .load none (.s 19), some (18, false)⟩,
 ⟨some 21, .bin .gtr (.s 20) (.c (.int .i64 60)), some (18, false)⟩,
 ⟨some 22, .pick (.s 18) (.c (.bool true)) (.s 21), none⟩,
 ⟨some 23, .mov (.s 22), none⟩,
 ⟨some 24, .fld 1 (.s 1), some (23, false)⟩,
 ⟨some 25, .load none (.s 24), some (23, false)⟩,
 ⟨some 26, .len (.s 25), some (23, false)⟩,
 ⟨some 27, .bin .lss (.s 26) (.c (.int .i64 1)), some (23, false)⟩,
 ⟨some 28, .pick (.s 23) (.c (.bool true)) (.s 27), none⟩,
 ⟨some 29, .mov (.s 28), none⟩,
 ⟨some 30, .fld 1 (.s 1), some (29, false)⟩,
 ⟨some 31, .load none (.s 30), some (29, false)⟩,
 ⟨some 32, .len (.s 31), some (29, false)⟩,
 ⟨some 33, .bin .gtr (.s 32) (.c (.int .i64 8)), some (29, false)⟩,
 ⟨some 34, .pick (.s 29) (.c (.bool true)) (.s 33), none⟩]))
 (.cond (.s 34) (.seq (.reg false false [⟨some 35, .build [(.int .i64 0), (.slice none 0 0), (.slice none 0 0), (.slice none 0 0), (.slice none 0 0)] [], none⟩,
 ⟨none, .store 5 (.s 2) (.s 35), none⟩,
 ⟨some 3, .mov (.c (.int .i64 50)), none⟩])
 (.ret))
 (.skip)))
 (.seq (.reg true false [⟨some 36, .load (some 2) (.s 1), none⟩,
 ⟨some 37, .fld 1 (.s 1), none⟩,
 ⟨some 38, .load none (.s 37), none⟩,
 ⟨some 39, .len (.s 38), none⟩,
 ⟨some 41, .fld 1 (.s 1), none⟩,
 ⟨some 42, .load none (.s 41), none⟩,
 ⟨some 43, .len (.s 42), none⟩,
 ⟨some 40, .mk 1 8 [(.int .i64 0)] (.s 39) (.s 39), none⟩,
 ⟨some 44, .mk 1 8 [(.int .u64 0)] (.s 43) (.s 43), none⟩,
 ⟨some 45, .build [(.int .i64 0), (.slice none 0 0), (.slice none 0 0), (.slice none 0 0), (.slice none 0 0)] [(0, 2, (.s 36)), (2, 1, (.s 40)), (3, 1, (.s 44))], none⟩,
 ⟨some 4, .alloc [(.int .i64 0), (.slice none 0 0), (.slice none 0 0), (.slice none 0 0), (.slice none 0 0)], none⟩,
 ⟨none, .store 5 (.s 4) (.s 45), none⟩])
 (.seq (.reg false false [⟨some 5, .mov (.c (.int .i64 1)), none⟩])
 (.seq (.seq (.reg false false [⟨some 46, .fld 0 (.s 4), none⟩,
 ⟨some 47, .fld 1 (.s 46), none⟩,
 ⟨some 48, .load none (.s 47), none⟩,
 ⟨some 49, .len (.s 48), none⟩,
 ⟨some 50, .mov (.c (.int .i64 0)), none⟩])
 (.scope (.block 0 (.loop (.seq (.reg false false [⟨some 51, .bin .lss (.s 50) (.s 49), none⟩])
 (.seq (.cond (.s 51) (.skip)
 (.exit 0))
 (.seq (.block 1 (.seq (.reg false false [⟨some 52, .mov (.s 50), none⟩,
 ⟨some 53, .idxS 3 (.s 48) (.s 50), none⟩,
 ⟨some 54, .load (some 3) (.s 53), none⟩,
 ⟨some 7, .alloc [(.int .i64 0), (.slice none 0 0), (.slice none 0 0)], none⟩,
 ⟨some 6, .mov (.s 52), none⟩,
 ⟨none, .store 3 (.s 7) (.s 54), none⟩])
 (.seq (.seq (.scope (.reg false false [⟨some 55, .fld 0 (.s 7), none⟩,
 ⟨some 56, .load none (.s 55), none⟩,
 ⟨some 57, .bin .lss (.s 56) (.c (.int .i64 1)), none⟩,
 ⟨some 58, .mov (.s 57), none⟩,
 ⟨some 59, .fld 0 (.s 7), some (58, false)⟩,
 ⟨some 60, .load none (.s 59), some (58, false)⟩,
 ⟨some 61, .bin .gtr (.s 60) (.c (.int .i64 4)), some (58, false)⟩,
 ⟨some 62, .pick (.s 58) (.c (.bool true)) (.s 61), none⟩]))
 (.cond (.s 62) (.seq (.reg false false [⟨some 63, .build [(.int .i64 0), (.slice none 0 0), (.slice none 0 0), (.slice none 0 0), (.slice none 0 0)] [], none⟩,
 ⟨none, .store 5 (.s 2) (.s 63), none⟩,
 ⟨some 3, .mov (.c (.int .i64 50)), none⟩])
 (.ret))
 (.skip)))
 (.seq (.reg false false [⟨some 64, .fld 2 (.s 4), none⟩,
 ⟨some 65, .load none (.s 64), none⟩,
 ⟨some 66, .mov (.s 6), none⟩,
 ⟨some 67, .fld 0 (.s 7), none⟩,
 ⟨some 68, .load none (.s 67), none⟩,
 ⟨some 69, .idxS 1 (.s 65) (.s 66), none⟩,
 ⟨none, .store 1 (.s 69) (.s 68), none⟩])
 (.reg false false [⟨some 70, .mov (.s 5), none⟩,
 ⟨some 71, .fld 0 (.s 7), none⟩,
 ⟨some 72, .load none (.s 71), none⟩,
 ⟨some 73, .bin .mul (.s 70) (.s 72), none⟩,
 ⟨some 5, .mov (.s 73), none⟩])))))
 (.reg false false [⟨some 74, .bin .add (.s 50) (.c (.int .i64 1)), none⟩,
 ⟨some 50, .mov (.s 74), none⟩]))))))))
 (.seq (.seq (.reg false false [⟨some 75, .mov (.s 5), none⟩,
 ⟨some 76, .bin .gtr (.s 75) (.c (.int .i64 1024)), none⟩])
 (.cond (.s 76) (.seq (.reg false false [⟨some 77, .build [(.int .i64 0), (.slice none 0 0), (.slice none 0 0), (.slice none 0 0), (.slice none 0 0)] [], none⟩,
 ⟨none, .store 5 (.s 2) (.s 77), none⟩,
 ⟨some 3, .mov (.c (.int .i64 50)), none⟩])
 (.ret))
 (.skip)))
 (.seq (.seq (.reg false false [⟨some 78, .fld 0 (.s 4), none⟩,
 ⟨some 79, .fld 1 (.s 78), none⟩,
 ⟨some 80, .load none (.s 79), none⟩,
 ⟨some 81, .len (.s 80), none⟩,
 ⟨some 82, .mov (.c (.int .i64 0)), none⟩])
 (.scope (.block 2 (.loop (.seq (.reg false false [⟨some 83, .bin .lss (.s 82) (.s 81), none⟩])
 (.seq (.cond (.s 83) (.skip)
 (.exit 2))
 (.seq (.block 3 (.seq (.reg false false [⟨some 84, .mov (.s 82), none⟩,
 ⟨some 85, .idxS 3 (.s 80) (.s 82), none⟩,
 ⟨some 86, .load (some 3) (.s 85), none⟩,
 ⟨some 9, .alloc [(.int .i64 0), (.slice none 0 0), (.slice none 0 0)], none⟩,
 ⟨some 8, .mov (.s 84), none⟩,
 ⟨none, .store 3 (.s 9) (.s 86), none⟩])
 (.seq (.reg false false [⟨some 10, .mov (.c (.int .i64 (-1))), none⟩])
 (.seq (.seq (.reg false false [⟨some 87, .fld 1 (.s 9), none⟩,
 ⟨some 88, .load none (.s 87), none⟩,
 ⟨some 89, .len (.s 88), none⟩,
 ⟨some 90, .mov (.c (.int .i64 0)), none⟩])
 (.scope (.block 4 (.loop (.seq (.reg false false [⟨some 91, .bin .lss (.s 90) (.s 89), none⟩])
 (.seq (.cond (.s 91) (.skip)
 (.exit 4))
 (.seq (.block 5 (.seq (.reg false false [⟨some 92, .idxS 1 (.s 88) (.s 90), none⟩,
 ⟨some 93, .load none (.s 92), none⟩,
 ⟨some 12, .mov (.s 93), none⟩])
 (.seq (.seq (.scope (.reg false false [⟨some 94, .mov (.s 12), none⟩,
 ⟨some 95, .mov (.s 10), none⟩,
 ⟨some 96, .bin .leq (.s 94) (.s 95), none⟩,
 ⟨some 97, .mov (.s 96), none⟩,
 ⟨some 98, .mov (.s 12), some (97, false)⟩,
 ⟨some 99, .fld 0 (.s 4), some (97, false)⟩,
 ⟨some 100, .fld 1 (.s 99), some (97, false)⟩,
 ⟨some 101, .load none (.s 100), some (97, false)⟩,
 ⟨some 102, .len (.s 101), some (97, false)⟩,
 ⟨some 103, .bin .geq (.s 98) (.s 102), some (97, false)⟩,
 ⟨some 104, .pick (.s 97) (.c (.bool true)) (.s 103), none⟩,
 ⟨some 105, .mov (.s 104), none⟩,
 ⟨some 106, .mov (.s 12), some (105, false)⟩,
 ⟨some 107, .mov (.s 8), some (105, false)⟩,
 ⟨some 108, .bin .eql (.s 106) (.s 107), some (105, false)⟩,
 ⟨some 109, .pick (.s 105) (.c (.bool true)) (.s 108), none⟩]))
 (.cond (.s 109) (.seq (.reg false false [⟨some 110, .build [(.int .i64 0), (.slice none 0 0), (.slice none 0 0), (.slice none 0 0), (.slice none 0 0)] [], none⟩,
 ⟨none, .store 5 (.s 2) (.s 110), none⟩,
 ⟨some 3, .mov (.c (.int .i64 50)), none⟩])
 (.ret))
 (.skip)))
 (.seq (.reg false false [⟨some 111, .mov (.s 12), none⟩,
 ⟨some 10, .mov (.s 111), none⟩])
 (.reg true false [⟨some 112, .fld 3 (.s 4), none⟩,
 ⟨some 113, .load none (.s 112), none⟩,
 ⟨some 114, .mov (.s 8), none⟩,
 ⟨some 115, .idxS 1 (.s 113) (.s 114), none⟩,
 ⟨some 116, .load none (.s 115), none⟩,
 ⟨some 117, .mov (.s 12), none⟩,
 ⟨some 118, .bin .shl (.c (.int .u64 1)) (.s 117), none⟩,
 ⟨some 119, .bin .or (.s 116) (.s 118), none⟩,
 ⟨some 120, .idxS 1 (.s 113) (.s 114), none⟩,
 ⟨none, .store 1 (.s 120) (.s 119), none⟩])))))
 (.reg false false [⟨some 121, .bin .add (.s 90) (.c (.int .i64 1)), none⟩,
 ⟨some 90, .mov (.s 121), none⟩]))))))))
 (.seq (.reg false false [⟨some 122, .load (some 5) (.s 4), none⟩,
 ⟨some 123, .load (some 3) (.s 9), none⟩,
 ⟨some 124, .call 206 [(.s 122), (.s 123)], none⟩,
 ⟨some 125, .un .not (.s 124), none⟩])
 (.cond (.s 125) (.seq (.reg false false [⟨some 126, .build [(.int .i64 0), (.slice none 0 0), (.slice none 0 0), (.slice none 0 0), (.slice none 0 0)] [], none⟩,
 ⟨none, .store 5 (.s 2) (.s 126), none⟩,
 ⟨some 3, .mov (.c (.int .i64 50)), none⟩])
 (.ret))
 (.skip)))))))
 (.reg false false [⟨some 127, .bin .add (.s 82) (.c (.int .i64 1)), none⟩,
 ⟨some 82, .mov (.s 127), none⟩]))))))))
 (.seq (.reg false false [⟨some 129, .fld 3 (.s 4), none⟩,
 ⟨some 130, .load none (.s 129), none⟩,
 ⟨some 131, .call 207 [(.s 130)], none⟩,
 ⟨some 128, .mov (.s 131), none⟩,
 ⟨some 132, .ext (.s 128) 0, none⟩,
 ⟨some 133, .ext (.s 128) 1, none⟩,
 ⟨some 13, .mov (.s 132), none⟩,
 ⟨some 14, .mov (.s 133), none⟩])
 (.seq (.seq (.reg false false [⟨some 134, .mov (.s 14), none⟩,
 ⟨some 135, .un .not (.s 134), none⟩])
 (.cond (.s 135) (.seq (.reg false false [⟨some 136, .build [(.int .i64 0), (.slice none 0 0), (.slice none 0 0), (.slice none 0 0), (.slice none 0 0)] [], none⟩,
 ⟨none, .store 5 (.s 2) (.s 136), none⟩,
 ⟨some 3, .mov (.c (.int .i64 50)), none⟩])
 (.ret))
 (.skip)))
 (.seq (.reg false false [⟨some 137, .mov (.s 13), none⟩,
 ⟨some 138, .fld 4 (.s 4), none⟩,
 ⟨none, .store 1 (.s 138) (.s 137), none⟩])
 (.seq (.reg false false [⟨some 139, .load (some 5) (.s 4), none⟩,
 ⟨none, .store 5 (.s 2) (.s 139), none⟩,
 ⟨some 3, .mov (.c (.int .i64 0)), none⟩])
 (.ret)))))))))))
theorem zi5 : zeG mC 145 = some (140, zhb, [.cell 2 (some 5), .tmp 3], false) := zaw (by kernel_rfl)
theorem zcP {p0 : S_api_Net} {r : (S_net_network × Int)} (h : zbE p0 = some r) : Lx.FnA mC 145 [(.agg [(dI p0.grain), (fzE false zab p0.nodes)])] (.tup [(.agg [(dI r.1.net.grain), (fzE false zab r.1.net.nodes), (fzE false (eI .i64) r.1.cards), (fzE false (eI .u64) r.1.sets), (fzE false (eI .i64) r.1.order)]), (dI r.2)]) := by
  refine FnA.of zi5 (zav rfl) (Nat.le_of_ble_eq_true rfl) ?_
  unfold zbE at h
  unfold zhb
  refine zaa ?_
  try simp only [rnA, Nat.reduceLT]
  obtain ⟨o1, j1, h⟩ := bind_some h
  obtain ⟨T1, hT1⟩ : ∃ T : Bool → LSt, T = (fun a => ⟨140, [(1, (.ptr 0 0)), (2, (.ptr 1 0)), (34, (dB a))], [.cells [(dI p0.grain), (fzE false zab p0.nodes)], .cells [(dI 0), zb9, zb9, zb9, zb9]]⟩) := ⟨_, rfl⟩
  refine EvL.jn T1 (fun a => a = o1) ?_ ?_
  · refine zaa ?_
    try simp only [rnA, Nat.reduceEqDiff, Nat.reduceLT, reduceCtorEq]
    cases c1 : (decide (p0.grain < 1))
    · rw [c1, cond_false] at j1
      try simp only [rnA, Nat.reduceEqDiff, Nat.reduceLT, reduceCtorEq]
      cases c2 : (decide (60 < p0.grain))
      · rw [c2, cond_false] at j1
        try simp only [rnA, Nat.reduceEqDiff, Nat.reduceLT, reduceCtorEq, zax]
        cases c3 : (decide ((p0.nodes.length : Int) < 1))
        · rw [c3, cond_false] at j1
          try simp only [rnA, Nat.reduceEqDiff, Nat.reduceLT, reduceCtorEq, zax]
          replace j1 := Option.some.inj j1; subst j1
          exact ⟨_, rfl, by rw [hT1]; exact zam.m0 [.k, .k] rfl (ms rfl rfl (ms rfl rfl (ms rfl trivial trivial))) ⟨MB.cs ⟨trivial, trivial, trivial⟩, ⟨MB.cs ⟨trivial, trivial, trivial, trivial, trivial, trivial⟩, trivial⟩⟩⟩
        · rw [c3, cond_true] at j1
          try simp only [rnA, Nat.reduceEqDiff, Nat.reduceLT, reduceCtorEq]
          replace j1 := Option.some.inj j1; subst j1
          exact ⟨_, rfl, by rw [hT1]; exact zam.m0 [.k, .k] rfl (ms rfl rfl (ms rfl rfl (ms rfl trivial trivial))) ⟨MB.cs ⟨trivial, trivial, trivial⟩, ⟨MB.cs ⟨trivial, trivial, trivial, trivial, trivial, trivial⟩, trivial⟩⟩⟩
      · rw [c2, cond_true] at j1
        try simp only [rnA, Nat.reduceEqDiff, Nat.reduceLT, reduceCtorEq]
        replace j1 := Option.some.inj j1; subst j1
        exact ⟨_, rfl, by rw [hT1]; exact zam.m0 [.k, .k] rfl (ms rfl rfl (ms rfl rfl (ms rfl trivial trivial))) ⟨MB.cs ⟨trivial, trivial, trivial⟩, ⟨MB.cs ⟨trivial, trivial, trivial, trivial, trivial, trivial⟩, trivial⟩⟩⟩
    · rw [c1, cond_true] at j1
      try simp only [rnA, Nat.reduceEqDiff, Nat.reduceLT, reduceCtorEq]
      replace j1 := Option.some.inj j1; subst j1
      exact ⟨_, rfl, by rw [hT1]; exact zam.m0 [.k, .k] rfl (ms rfl rfl (ms rfl rfl (ms rfl trivial trivial))) ⟨MB.cs ⟨trivial, trivial, trivial⟩, ⟨MB.cs ⟨trivial, trivial, trivial, trivial, trivial, trivial⟩, trivial⟩⟩⟩
  · rintro v34 rfl
    rw [congrFun hT1 v34]
    refine zaa ?_
    try simp only [rnA, Nat.reduceEqDiff]
    cases c4 : v34
    · rw [c4, cond_false] at h
      obtain ⟨y5, g6, h⟩ := bind_some h
      obtain ⟨y7, g8, h⟩ := bind_some h
      try simp only [rnA, Nat.reduceEqDiff, Nat.reduceLT, Nat.reduceAdd, Nat.reduceLeDiff, zax, (zbd g6).1.1, (zbd g6).1.2, Int.le_refl, (show List.replicate (Int.toNat (p0.nodes.length : Int)) [(dI 0)] = y5.map ((eI .i64).c true) from zcR g6 ((eI .i64).c true)), (show List.replicate (Int.toNat (p0.nodes.length : Int)) [(dU 0)] = y7.map ((eI .u64).c true) from zcR g8 ((eI .u64).c true))]
      obtain ⟨o5, j5, h⟩ := bind_some h
      obtain ⟨T5, hT5⟩ : ∃ T : (Int × (List Int)) → LSt, T = (fun a => ⟨140, [(2, (.ptr 1 0)), (4, (.ptr 4 0)), (5, (dI a.1))], [.gone, .cells [(dI 0), zb9, zb9, zb9, zb9], .els 1 (a.2.map ((eI .i64).c true)), .els 1 (y7.map ((eI .u64).c true)), .cells [(dI p0.grain), (fzE false zab p0.nodes), (.sl 2 0 1 (Int.toNat (p0.nodes.length : Int)) (some (Int.toNat (p0.nodes.length : Int))) (Int.toNat (p0.nodes.length : Int))), (.sl 3 0 1 (Int.toNat (p0.nodes.length : Int)) (some (Int.toNat (p0.nodes.length : Int))) (Int.toNat (p0.nodes.length : Int))), zb9]]⟩) := ⟨_, rfl⟩
      refine EvL.jn T5 (fun a => o5 = .go a ∧ a.2.length = (Int.toNat (p0.nodes.length : Int))) ?_ ?_
      · refine zaa ?_
        simp only [rnA]
        obtain ⟨T8, hT8⟩ : ∃ T : (Int × Int × (List Int)) → LSt, T = (fun a => ⟨140, [(2, (.ptr 1 0)), (4, (.ptr 4 0)), (5, (dI a.1)), (48, (fzE false zab p0.nodes)), (49, (dI (p0.nodes.length : Int))), (50, (dI a.2.1))], [.gone, .cells [(dI 0), zb9, zb9, zb9, zb9], .els 1 (a.2.2.map ((eI .i64).c true)), .els 1 (y7.map ((eI .u64).c true)), .cells [(dI p0.grain), (fzE false zab p0.nodes), (.sl 2 0 1 (Int.toNat (p0.nodes.length : Int)) (some (Int.toNat (p0.nodes.length : Int))) (Int.toNat (p0.nodes.length : Int))), (.sl 3 0 1 (Int.toNat (p0.nodes.length : Int)) (some (Int.toNat (p0.nodes.length : Int))) (Int.toNat (p0.nodes.length : Int))), zb9]]⟩) := ⟨_, rfl⟩
        refine EvL.rounds (α := (Int × Int × (List Int))) T8 (fun n a => zbV p0 n a.1 a.2.1 a.2.2 = some o5 ∧ a.2.2.length = (Int.toNat (p0.nodes.length : Int))) ((p0.nodes.length : Int) - 0 + 2 : Int).toNat (1, 0, y5) (by rw [hT8]; exact zam.m0 [.d, .k, .k, .k, .k] rfl (ms rfl rfl (ms rfl rfl (ms rfl trivial (ms rfl trivial (ms rfl trivial (ms rfl trivial trivial)))))) ⟨rfl, ⟨MB.cs ⟨trivial, trivial, trivial, trivial, trivial, trivial⟩, ⟨MB.es (eI .i64) true y5, ⟨MB.es (eI .u64) true y7, ⟨MB.cs ⟨trivial, trivial, rfl, rfl, trivial, trivial⟩, trivial⟩⟩⟩⟩⟩) ⟨j5, zcx g6⟩ (fun _ h => nomatch (show (none : Option (Out (Int × (List Int)) (S_net_network × Int))) = some o5 from h.1)) ?_
        · rintro n ⟨v5, v50, l2⟩ ⟨j5, el2⟩
          simp only [zbV] at j5
          rw [congrFun hT8 (v5, v50, l2)]
          refine zaa ?_
          try simp only [rnA, Nat.reduceEqDiff, Nat.reduceLT]
          cases c9 : (decide (v50 < (p0.nodes.length : Int)))
          · rw [c9, cond_false] at j5
            try simp only [rnA]
            replace j5 := Option.some.inj j5; subst j5
            exact ⟨_, ⟨rfl, el2⟩, by rw [hT5]; exact zam.m0 [.d, .k, .k, .k, .k] rfl (ms rfl rfl (ms rfl rfl (ms rfl trivial trivial))) ⟨rfl, ⟨MB.cs ⟨trivial, trivial, trivial, trivial, trivial, trivial⟩, ⟨MB.es (eI .i64) true l2, ⟨MB.es (eI .u64) true y7, ⟨MB.cs ⟨trivial, trivial, rfl, rfl, trivial, trivial⟩, trivial⟩⟩⟩⟩⟩⟩
          · rw [c9, cond_true] at j5
            obtain ⟨x10, g11, j5⟩ := bind_some j5
            try simp only [rnA, Nat.reduceEqDiff, Nat.reduceLT, Nat.reduceAdd, Nat.reduceLeDiff, zaB, zak (n := 3) (e := zab) rfl g11]
            obtain ⟨o9, j9, j5⟩ := bind_some j5
            obtain ⟨T9, hT9⟩ : ∃ T : Bool → LSt, T = (fun a => ⟨140, [(2, (.ptr 1 0)), (4, (.ptr 4 0)), (5, (dI v5)), (6, (dI v50)), (7, (.ptr 5 0)), (48, (fzE false zab p0.nodes)), (49, (dI (p0.nodes.length : Int))), (50, (dI v50)), (62, (dB a))], [.gone, .cells [(dI 0), zb9, zb9, zb9, zb9], .els 1 (l2.map ((eI .i64).c true)), .els 1 (y7.map ((eI .u64).c true)), .cells [(dI p0.grain), (fzE false zab p0.nodes), (.sl 2 0 1 (Int.toNat (p0.nodes.length : Int)) (some (Int.toNat (p0.nodes.length : Int))) (Int.toNat (p0.nodes.length : Int))), (.sl 3 0 1 (Int.toNat (p0.nodes.length : Int)) (some (Int.toNat (p0.nodes.length : Int))) (Int.toNat (p0.nodes.length : Int))), zb9], .cells [(dI x10.card), (fzE false (eI .i64) x10.parents), (fzE false (eL (eI .i64)) x10.rows)]]⟩) := ⟨_, rfl⟩
            refine EvL.jn T9 (fun a => a = o9) ?_ ?_
            · refine zaa ?_
              try simp only [rnA, Nat.reduceEqDiff, Nat.reduceLT]
              cases c12 : (decide (x10.card < 1))
              · rw [c12, cond_false] at j9
                try simp only [rnA, Nat.reduceEqDiff, Nat.reduceLT]
                replace j9 := Option.some.inj j9; subst j9
                exact ⟨_, rfl, by rw [hT9]; exact zam.m0 [.d, .k, .k, .k, .k, .k] rfl (ms rfl rfl (ms rfl rfl (ms rfl trivial (ms rfl trivial (ms rfl rfl (ms rfl trivial (ms rfl trivial (ms rfl trivial (ms rfl trivial trivial))))))))) ⟨rfl, ⟨MB.cs ⟨trivial, trivial, trivial, trivial, trivial, trivial⟩, ⟨MB.es (eI .i64) true l2, ⟨MB.es (eI .u64) true y7, ⟨MB.cs ⟨trivial, trivial, rfl, rfl, trivial, trivial⟩, ⟨MB.cs ⟨trivial, trivial, trivial, trivial⟩, trivial⟩⟩⟩⟩⟩⟩⟩
              · rw [c12, cond_true] at j9
                try simp only [rnA, Nat.reduceEqDiff, Nat.reduceLT]
                replace j9 := Option.some.inj j9; subst j9
                exact ⟨_, rfl, by rw [hT9]; exact zam.m0 [.d, .k, .k, .k, .k, .k] rfl (ms rfl rfl (ms rfl rfl (ms rfl trivial (ms rfl trivial (ms rfl rfl (ms rfl trivial (ms rfl trivial (ms rfl trivial (ms rfl trivial trivial))))))))) ⟨rfl, ⟨MB.cs ⟨trivial, trivial, trivial, trivial, trivial, trivial⟩, ⟨MB.es (eI .i64) true l2, ⟨MB.es (eI .u64) true y7, ⟨MB.cs ⟨trivial, trivial, rfl, rfl, trivial, trivial⟩, ⟨MB.cs ⟨trivial, trivial, trivial, trivial⟩, trivial⟩⟩⟩⟩⟩⟩⟩
            · rintro v62 rfl
              rw [congrFun hT9 v62]
              refine zaa ?_
              try simp only [rnA, Nat.reduceEqDiff]
              cases c13 : v62
              · rw [c13, cond_false] at j5
                obtain ⟨x14, g15, j5⟩ := bind_some j5
                obtain ⟨y16, g17, j5⟩ := bind_some j5
                try simp only [rnA, Nat.reduceEqDiff, Nat.reduceLT, Nat.reduceLeDiff, el2, zbS g15, (show v50 < (((Int.toNat (p0.nodes.length : Int)) : Nat) : Int) from el2 ▸ zcm g15), zbu g15 ((eI .i64).c true), (show (l2.map ((eI .i64).c true)).set v50.toNat [(dI x10.card)] = y16.map ((eI .i64).c true) from zcs g17 ((eI .i64).c true))]
                exact ⟨((w64 (v5 * x10.card)), (w64 (v50 + 1)), y16), ⟨j5, (zcc g17).trans el2⟩, by rw [hT8]; exact zam.m0 [.d, .k, .k, .k, .k] rfl (ms rfl rfl (ms rfl rfl (ms rfl trivial (ms rfl trivial (ms rfl trivial (ms rfl trivial trivial)))))) ⟨rfl, ⟨MB.cs ⟨trivial, trivial, trivial, trivial, trivial, trivial⟩, ⟨MB.es (eI .i64) true y16, ⟨MB.es (eI .u64) true y7, ⟨MB.cs ⟨trivial, trivial, rfl, rfl, trivial, trivial⟩, trivial⟩⟩⟩⟩⟩⟩
              · rw [c13, cond_true] at j5
                try simp only [rnA, Nat.reduceEqDiff, Nat.reduceLT, Nat.reduceAdd, Nat.reduceLeDiff]
                replace j5 := Option.some.inj j5; subst j5
                dsimp only at h
                replace h := Option.some.inj h; subst h
                exact zl8.ret rfl (Snp.zg0 (.cons (.zgT (.cons (.lit _) (.cons (zaQ zab) (.cons (zaQ (eI .i64)) (.cons (zaQ (eI .u64)) (.cons (zaQ (eI .i64)) .nil)))))) (.cons (.lit _) .nil)))
      · rintro ⟨v5, l2⟩ ⟨rfl, el2⟩
        dsimp only at h
        rw [congrFun hT5 (v5, l2)]
        refine zaa ?_
        try simp only [rnA, Nat.reduceEqDiff, Nat.reduceLT]
        cases c18 : (decide (1024 < v5))
        · rw [c18, cond_false] at h
          try simp only [rnA, Nat.reduceEqDiff, Nat.reduceLT, zax]
          obtain ⟨o34, j34, h⟩ := bind_some h
          obtain ⟨T34, hT34⟩ : ∃ T : (List Int) → LSt, T = (fun a => ⟨140, [(2, (.ptr 1 0)), (4, (.ptr 4 0))], [.gone, .cells [(dI 0), zb9, zb9, zb9, zb9], .els 1 (l2.map ((eI .i64).c true)), .els 1 (a.map ((eI .u64).c true)), .cells [(dI p0.grain), (fzE false zab p0.nodes), (.sl 2 0 1 (Int.toNat (p0.nodes.length : Int)) (some (Int.toNat (p0.nodes.length : Int))) (Int.toNat (p0.nodes.length : Int))), (.sl 3 0 1 (Int.toNat (p0.nodes.length : Int)) (some (Int.toNat (p0.nodes.length : Int))) (Int.toNat (p0.nodes.length : Int))), zb9]]⟩) := ⟨_, rfl⟩
          refine EvL.jn T34 (fun a => o34 = .go a ∧ a.length = (Int.toNat (p0.nodes.length : Int))) ?_ ?_
          · refine zaa ?_
            simp only [rnA]
            obtain ⟨T51, hT51⟩ : ∃ T : (Int × (List Int)) → LSt, T = (fun a => ⟨140, [(2, (.ptr 1 0)), (4, (.ptr 4 0)), (80, (fzE false zab p0.nodes)), (81, (dI (p0.nodes.length : Int))), (82, (dI a.1))], [.gone, .cells [(dI 0), zb9, zb9, zb9, zb9], .els 1 (l2.map ((eI .i64).c true)), .els 1 (a.2.map ((eI .u64).c true)), .cells [(dI p0.grain), (fzE false zab p0.nodes), (.sl 2 0 1 (Int.toNat (p0.nodes.length : Int)) (some (Int.toNat (p0.nodes.length : Int))) (Int.toNat (p0.nodes.length : Int))), (.sl 3 0 1 (Int.toNat (p0.nodes.length : Int)) (some (Int.toNat (p0.nodes.length : Int))) (Int.toNat (p0.nodes.length : Int))), zb9]]⟩) := ⟨_, rfl⟩
            refine EvL.rounds (α := (Int × (List Int))) T51 (fun n a => zbW p0 l2 n a.1 a.2 = some o34 ∧ a.2.length = (Int.toNat (p0.nodes.length : Int))) ((p0.nodes.length : Int) - 0 + 2 : Int).toNat (0, y7) (by rw [hT51]; exact zam.m0 [.d, .k, .k, .k, .k] rfl (ms rfl rfl (ms rfl rfl (ms rfl trivial (ms rfl trivial (ms rfl trivial trivial))))) ⟨rfl, ⟨MB.cs ⟨trivial, trivial, trivial, trivial, trivial, trivial⟩, ⟨MB.es (eI .i64) true l2, ⟨MB.es (eI .u64) true y7, ⟨MB.cs ⟨trivial, trivial, rfl, rfl, trivial, trivial⟩, trivial⟩⟩⟩⟩⟩) ⟨j34, zcx g8⟩ (fun _ h => nomatch (show (none : Option (Out (List Int) (S_net_network × Int))) = some o34 from h.1)) ?_
            · rintro n ⟨v82, l3⟩ ⟨j34, el3⟩
              simp only [zbW] at j34
              rw [congrFun hT51 (v82, l3)]
              refine zaa ?_
              try simp only [rnA, Nat.reduceEqDiff, Nat.reduceLT]
              cases c19 : (decide (v82 < (p0.nodes.length : Int)))
              · rw [c19, cond_false] at j34
                try simp only [rnA]
                replace j34 := Option.some.inj j34; subst j34
                exact ⟨_, ⟨rfl, el3⟩, by rw [hT34]; exact zam.m0 [.d, .k, .k, .k, .k] rfl (ms rfl rfl (ms rfl rfl trivial)) ⟨rfl, ⟨MB.cs ⟨trivial, trivial, trivial, trivial, trivial, trivial⟩, ⟨MB.es (eI .i64) true l2, ⟨MB.es (eI .u64) true l3, ⟨MB.cs ⟨trivial, trivial, rfl, rfl, trivial, trivial⟩, trivial⟩⟩⟩⟩⟩⟩
              · rw [c19, cond_true] at j34
                obtain ⟨x20, g21, j34⟩ := bind_some j34
                try simp only [rnA, Nat.reduceEqDiff, Nat.reduceLT, Nat.reduceAdd, Nat.reduceLeDiff, zaB, zak (n := 3) (e := zab) rfl g21, zax]
                obtain ⟨o55, j55, j34⟩ := bind_some j34
                obtain ⟨T55, hT55⟩ : ∃ T : (List Int) → LSt, T = (fun a => ⟨140, [(2, (.ptr 1 0)), (4, (.ptr 4 0)), (9, (.ptr 5 0)), (80, (fzE false zab p0.nodes)), (81, (dI (p0.nodes.length : Int))), (82, (dI v82))], [.gone, .cells [(dI 0), zb9, zb9, zb9, zb9], .els 1 (l2.map ((eI .i64).c true)), .els 1 (a.map ((eI .u64).c true)), .cells [(dI p0.grain), (fzE false zab p0.nodes), (.sl 2 0 1 (Int.toNat (p0.nodes.length : Int)) (some (Int.toNat (p0.nodes.length : Int))) (Int.toNat (p0.nodes.length : Int))), (.sl 3 0 1 (Int.toNat (p0.nodes.length : Int)) (some (Int.toNat (p0.nodes.length : Int))) (Int.toNat (p0.nodes.length : Int))), zb9], .cells [(dI x20.card), (fzE false (eI .i64) x20.parents), (fzE false (eL (eI .i64)) x20.rows)]]⟩) := ⟨_, rfl⟩
                refine EvL.jn T55 (fun a => o55 = .go a ∧ a.length = (Int.toNat (p0.nodes.length : Int))) ?_ ?_
                · refine zaa ?_
                  simp only [rnA]
                  obtain ⟨T58, hT58⟩ : ∃ T : (Int × Int × (List Int)) → LSt, T = (fun a => ⟨140, [(2, (.ptr 1 0)), (4, (.ptr 4 0)), (8, (dI v82)), (9, (.ptr 5 0)), (10, (dI a.1)), (80, (fzE false zab p0.nodes)), (81, (dI (p0.nodes.length : Int))), (82, (dI v82)), (88, (fzE false (eI .i64) x20.parents)), (89, (dI (x20.parents.length : Int))), (90, (dI a.2.1))], [.gone, .cells [(dI 0), zb9, zb9, zb9, zb9], .els 1 (l2.map ((eI .i64).c true)), .els 1 (a.2.2.map ((eI .u64).c true)), .cells [(dI p0.grain), (fzE false zab p0.nodes), (.sl 2 0 1 (Int.toNat (p0.nodes.length : Int)) (some (Int.toNat (p0.nodes.length : Int))) (Int.toNat (p0.nodes.length : Int))), (.sl 3 0 1 (Int.toNat (p0.nodes.length : Int)) (some (Int.toNat (p0.nodes.length : Int))) (Int.toNat (p0.nodes.length : Int))), zb9], .cells [(dI x20.card), (fzE false (eI .i64) x20.parents), (fzE false (eL (eI .i64)) x20.rows)]]⟩) := ⟨_, rfl⟩
                  refine EvL.rounds (α := (Int × Int × (List Int))) T58 (fun n a => zck x20 p0 v82 n a.1 a.2.1 a.2.2 = some o55 ∧ a.2.2.length = (Int.toNat (p0.nodes.length : Int))) ((x20.parents.length : Int) - 0 + 2 : Int).toNat ((-1), 0, l3) (by rw [hT58]; exact zam.m0 [.d, .k, .k, .k, .k, .k] rfl (ms rfl rfl (ms rfl rfl (ms rfl trivial (ms rfl rfl (ms rfl trivial (ms rfl trivial (ms rfl trivial (ms rfl trivial (ms rfl trivial (ms rfl trivial (ms rfl trivial trivial))))))))))) ⟨rfl, ⟨MB.cs ⟨trivial, trivial, trivial, trivial, trivial, trivial⟩, ⟨MB.es (eI .i64) true l2, ⟨MB.es (eI .u64) true l3, ⟨MB.cs ⟨trivial, trivial, rfl, rfl, trivial, trivial⟩, ⟨MB.cs ⟨trivial, trivial, trivial, trivial⟩, trivial⟩⟩⟩⟩⟩⟩) ⟨j55, el3⟩ (fun _ h => nomatch (show (none : Option (Out (List Int) (S_net_network × Int))) = some o55 from h.1)) ?_
                  · rintro n ⟨v10, v90, l3'⟩ ⟨j55, el3'⟩
                    simp only [zck] at j55
                    rw [congrFun hT58 (v10, v90, l3')]
                    refine zaa ?_
                    try simp only [rnA, Nat.reduceEqDiff, Nat.reduceLT]
                    cases c22 : (decide (v90 < (x20.parents.length : Int)))
                    · rw [c22, cond_false] at j55
                      try simp only [rnA, Nat.reduceEqDiff, Nat.reduceLT]
                      replace j55 := Option.some.inj j55; subst j55
                      exact ⟨_, ⟨rfl, el3'⟩, by rw [hT55]; exact zam.m0 [.d, .k, .k, .k, .k, .k] rfl (ms rfl rfl (ms rfl rfl (ms rfl rfl (ms rfl trivial (ms rfl trivial (ms rfl trivial trivial)))))) ⟨rfl, ⟨MB.cs ⟨trivial, trivial, trivial, trivial, trivial, trivial⟩, ⟨MB.es (eI .i64) true l2, ⟨MB.es (eI .u64) true l3', ⟨MB.cs ⟨trivial, trivial, rfl, rfl, trivial, trivial⟩, ⟨MB.cs ⟨trivial, trivial, trivial, trivial⟩, trivial⟩⟩⟩⟩⟩⟩⟩
                    · rw [c22, cond_true] at j55
                      obtain ⟨x23, g24, j55⟩ := bind_some j55
                      try simp only [rnA, Nat.reduceEqDiff, Nat.reduceLT, zak (n := 1) (e := (eI .i64)) rfl g24]
                      obtain ⟨o59, j59, j55⟩ := bind_some j55
                      obtain ⟨T59, hT59⟩ : ∃ T : Bool → LSt, T = (fun a => ⟨140, [(2, (.ptr 1 0)), (4, (.ptr 4 0)), (8, (dI v82)), (9, (.ptr 5 0)), (12, (dI x23)), (80, (fzE false zab p0.nodes)), (81, (dI (p0.nodes.length : Int))), (82, (dI v82)), (88, (fzE false (eI .i64) x20.parents)), (89, (dI (x20.parents.length : Int))), (90, (dI v90)), (109, (dB a))], [.gone, .cells [(dI 0), zb9, zb9, zb9, zb9], .els 1 (l2.map ((eI .i64).c true)), .els 1 (l3'.map ((eI .u64).c true)), .cells [(dI p0.grain), (fzE false zab p0.nodes), (.sl 2 0 1 (Int.toNat (p0.nodes.length : Int)) (some (Int.toNat (p0.nodes.length : Int))) (Int.toNat (p0.nodes.length : Int))), (.sl 3 0 1 (Int.toNat (p0.nodes.length : Int)) (some (Int.toNat (p0.nodes.length : Int))) (Int.toNat (p0.nodes.length : Int))), zb9], .cells [(dI x20.card), (fzE false (eI .i64) x20.parents), (fzE false (eL (eI .i64)) x20.rows)]]⟩) := ⟨_, rfl⟩
                      refine EvL.jn T59 (fun a => a = o59) ?_ ?_
                      · refine zaa ?_
                        try simp only [rnA, Nat.reduceEqDiff, Nat.reduceLT]
                        cases c25 : (decide (x23 ≤ v10))
                        · rw [c25, cond_false] at j59
                          try simp only [rnA, Nat.reduceEqDiff, Nat.reduceLT, zax]
                          cases c26 : (decide ((p0.nodes.length : Int) ≤ x23))
                          · rw [c26, cond_false] at j59
                            try simp only [rnA, Nat.reduceEqDiff, Nat.reduceLT]
                            replace j59 := Option.some.inj j59; subst j59
                            exact ⟨_, rfl, by rw [hT59]; exact zam.m0 [.d, .k, .k, .k, .k, .k] rfl (ms rfl rfl (ms rfl rfl (ms rfl trivial (ms rfl rfl (ms rfl trivial (ms rfl trivial (ms rfl trivial (ms rfl trivial (ms rfl trivial (ms rfl trivial (ms rfl trivial (ms rfl trivial trivial)))))))))))) ⟨rfl, ⟨MB.cs ⟨trivial, trivial, trivial, trivial, trivial, trivial⟩, ⟨MB.es (eI .i64) true l2, ⟨MB.es (eI .u64) true l3', ⟨MB.cs ⟨trivial, trivial, rfl, rfl, trivial, trivial⟩, ⟨MB.cs ⟨trivial, trivial, trivial, trivial⟩, trivial⟩⟩⟩⟩⟩⟩⟩
                          · rw [c26, cond_true] at j59
                            try simp only [rnA, Nat.reduceEqDiff, Nat.reduceLT]
                            replace j59 := Option.some.inj j59; subst j59
                            exact ⟨_, rfl, by rw [hT59]; exact zam.m0 [.d, .k, .k, .k, .k, .k] rfl (ms rfl rfl (ms rfl rfl (ms rfl trivial (ms rfl rfl (ms rfl trivial (ms rfl trivial (ms rfl trivial (ms rfl trivial (ms rfl trivial (ms rfl trivial (ms rfl trivial (ms rfl trivial trivial)))))))))))) ⟨rfl, ⟨MB.cs ⟨trivial, trivial, trivial, trivial, trivial, trivial⟩, ⟨MB.es (eI .i64) true l2, ⟨MB.es (eI .u64) true l3', ⟨MB.cs ⟨trivial, trivial, rfl, rfl, trivial, trivial⟩, ⟨MB.cs ⟨trivial, trivial, trivial, trivial⟩, trivial⟩⟩⟩⟩⟩⟩⟩
                        · rw [c25, cond_true] at j59
                          try simp only [rnA, Nat.reduceEqDiff, Nat.reduceLT]
                          replace j59 := Option.some.inj j59; subst j59
                          exact ⟨_, rfl, by rw [hT59]; exact zam.m0 [.d, .k, .k, .k, .k, .k] rfl (ms rfl rfl (ms rfl rfl (ms rfl trivial (ms rfl rfl (ms rfl trivial (ms rfl trivial (ms rfl trivial (ms rfl trivial (ms rfl trivial (ms rfl trivial (ms rfl trivial (ms rfl trivial trivial)))))))))))) ⟨rfl, ⟨MB.cs ⟨trivial, trivial, trivial, trivial, trivial, trivial⟩, ⟨MB.es (eI .i64) true l2, ⟨MB.es (eI .u64) true l3', ⟨MB.cs ⟨trivial, trivial, rfl, rfl, trivial, trivial⟩, ⟨MB.cs ⟨trivial, trivial, trivial, trivial⟩, trivial⟩⟩⟩⟩⟩⟩⟩
                      · rintro v109 rfl
                        rw [congrFun hT59 v109]
                        refine zaa ?_
                        try simp only [rnA, Nat.reduceEqDiff]
                        cases c27 : v109
                        · rw [c27, cond_false] at j55
                          obtain ⟨x28, g29, j55⟩ := bind_some j55
                          obtain ⟨q30, g31, j55⟩ := bind_some j55
                          obtain ⟨y32, g33, j55⟩ := bind_some j55
                          try simp only [rnA, Nat.reduceEqDiff, Nat.reduceLT, Nat.reduceLeDiff, el3', zbS g29, (show v82 < (((Int.toNat (p0.nodes.length : Int)) : Nat) : Int) from el3' ▸ zcm g29), zbu g29 ((eI .u64).c true), (za9 g31).1, (za9 g31).2, (show (l3'.map ((eI .u64).c true)).set v82.toNat [(dU (orI .u64 x28 q30))] = y32.map ((eI .u64).c true) from zcs g33 ((eI .u64).c true))]
                          exact ⟨(x23, (w64 (v90 + 1)), y32), ⟨j55, (zcc g33).trans el3'⟩, by rw [hT58]; exact zam.m0 [.d, .k, .k, .k, .k, .k] rfl (ms rfl rfl (ms rfl rfl (ms rfl trivial (ms rfl rfl (ms rfl trivial (ms rfl trivial (ms rfl trivial (ms rfl trivial (ms rfl trivial (ms rfl trivial (ms rfl trivial trivial))))))))))) ⟨rfl, ⟨MB.cs ⟨trivial, trivial, trivial, trivial, trivial, trivial⟩, ⟨MB.es (eI .i64) true l2, ⟨MB.es (eI .u64) true y32, ⟨MB.cs ⟨trivial, trivial, rfl, rfl, trivial, trivial⟩, ⟨MB.cs ⟨trivial, trivial, trivial, trivial⟩, trivial⟩⟩⟩⟩⟩⟩⟩
                        · rw [c27, cond_true] at j55
                          try simp only [rnA, Nat.reduceEqDiff, Nat.reduceLT, Nat.reduceAdd, Nat.reduceLeDiff]
                          replace j55 := Option.some.inj j55; subst j55
                          dsimp only at j34
                          replace j34 := Option.some.inj j34; subst j34
                          dsimp only at h
                          replace h := Option.some.inj h; subst h
                          exact zl8.ret rfl (Snp.zg0 (.cons (.zgT (.cons (.lit _) (.cons (zaQ zab) (.cons (zaQ (eI .i64)) (.cons (zaQ (eI .u64)) (.cons (zaQ (eI .i64)) .nil)))))) (.cons (.lit _) .nil)))
                · rintro l3' ⟨rfl, el3'⟩
                  dsimp only at j34
                  rw [congrFun hT55 l3']
                  refine zaa ?_
                  obtain ⟨r34, g35, j34⟩ := bind_some j34
                  try simp only [rnA, Nat.reduceEqDiff, Nat.reduceLT, Nat.reduceAdd, Nat.reduceLeDiff]
                  refine EvL.fn (zd7 g35) rfl rfl (.cons (.zgT (.cons (.lit _) (.cons (zaq _ _ (fun h => nomatch h)) (.cons (zb8 (e := (eI .i64)) (t := true) rfl (.inl rfl) (el2).symm (el2).symm (fun k h => by cases h; exact Nat.le_refl _) (fun h => nomatch h)) (.cons (zb8 (e := (eI .u64)) (t := true) rfl (.inl rfl) (el3').symm (el3').symm (fun k h => by cases h; exact Nat.le_refl _) (fun h => nomatch h)) (.cons (zaQ (eI .i64)) .nil)))))) (.cons (.zgT (.cons (.lit _) (.cons (zaq _ _ (fun h => nomatch h)) (.cons (zaq _ _ (fun h => nomatch h)) .nil)))) .nil)) ?_
                  try simp only [rnA, Nat.reduceEqDiff, Nat.reduceLT]
                  cases c36 : r34
                  · rw [c36, cond_false] at j34
                    try simp only [rnA, Nat.reduceEqDiff, Nat.reduceLT, Nat.reduceAdd, Nat.reduceLeDiff]
                    replace j34 := Option.some.inj j34; subst j34
                    dsimp only at h
                    replace h := Option.some.inj h; subst h
                    exact zl8.ret rfl (Snp.zg0 (.cons (.zgT (.cons (.lit _) (.cons (zaQ zab) (.cons (zaQ (eI .i64)) (.cons (zaQ (eI .u64)) (.cons (zaQ (eI .i64)) .nil)))))) (.cons (.lit _) .nil)))
                  · rw [c36, cond_true] at j34
                    try simp only [rnA, Nat.reduceEqDiff, Nat.reduceLT]
                    exact ⟨((w64 (v82 + 1)), l3'), ⟨j34, el3'⟩, by rw [hT51]; exact zam.m0 [.d, .k, .k, .k, .k] rfl (ms rfl rfl (ms rfl rfl (ms rfl trivial (ms rfl trivial (ms rfl trivial trivial))))) ⟨rfl, ⟨MB.cs ⟨trivial, trivial, trivial, trivial, trivial, trivial⟩, ⟨MB.es (eI .i64) true l2, ⟨MB.es (eI .u64) true l3', ⟨MB.cs ⟨trivial, trivial, rfl, rfl, trivial, trivial⟩, trivial⟩⟩⟩⟩⟩⟩
          · rintro l3 ⟨rfl, el3⟩
            dsimp only at h
            rw [congrFun hT34 l3]
            refine zaa ?_
            obtain ⟨r37, g38, h⟩ := bind_some h
            try simp only [rnA, Nat.reduceEqDiff, Nat.reduceLT]
            refine EvL.fn (zii g38) rfl rfl (.cons (zb8 (e := (eI .u64)) (t := true) rfl (.inl rfl) (el3).symm (el3).symm (fun k h => by cases h; exact Nat.le_refl _) (fun h => nomatch h)) .nil) ?_
            try simp only [rnA, Nat.reduceEqDiff, Nat.reduceLT]
            cases c39 : r37.2
            · rw [c39, cond_false] at h
              try simp only [rnA, Nat.reduceEqDiff, Nat.reduceLT, Nat.reduceAdd, Nat.reduceLeDiff]
              replace h := Option.some.inj h; subst h
              exact zl8.ret rfl (Snp.zg0 (.cons (.zgT (.cons (.lit _) (.cons (zaQ zab) (.cons (zaQ (eI .i64)) (.cons (zaQ (eI .u64)) (.cons (zaQ (eI .i64)) .nil)))))) (.cons (.lit _) .nil)))
            · rw [c39, cond_true] at h
              try simp only [rnA, Nat.reduceEqDiff, Nat.reduceLT, Nat.reduceAdd, Nat.reduceLeDiff]
              replace h := Option.some.inj h; subst h
              exact zl8.ret rfl (Snp.zg0 (.cons (.zgT (.cons (.lit _) (.cons (zaq _ _ (fun h => nomatch h)) (.cons (zb8 (e := (eI .i64)) (t := true) rfl (.inl rfl) (el2).symm (el2).symm (fun k h => by cases h; exact Nat.le_refl _) (fun h => nomatch h)) (.cons (zb8 (e := (eI .u64)) (t := true) rfl (.inl rfl) (el3).symm (el3).symm (fun k h => by cases h; exact Nat.le_refl _) (fun h => nomatch h)) (.cons (zaq _ _ (fun h => nomatch h)) .nil)))))) (.cons (.lit _) .nil)))
        · rw [c18, cond_true] at h
          try simp only [rnA, Nat.reduceEqDiff, Nat.reduceLT, Nat.reduceAdd, Nat.reduceLeDiff]
          replace h := Option.some.inj h; subst h
          exact zl8.ret rfl (Snp.zg0 (.cons (.zgT (.cons (.lit _) (.cons (zaQ zab) (.cons (zaQ (eI .i64)) (.cons (zaQ (eI .u64)) (.cons (zaQ (eI .i64)) .nil)))))) (.cons (.lit _) .nil)))
    · rw [c4, cond_true] at h
      try simp only [rnA, Nat.reduceEqDiff, Nat.reduceLT, Nat.reduceAdd, Nat.reduceLeDiff]
      replace h := Option.some.inj h; subst h
      exact zl8.ret rfl (Snp.zg0 (.cons (.zgT (.cons (.lit _) (.cons (zaQ zab) (.cons (zaQ (eI .i64)) (.cons (zaQ (eI .u64)) (.cons (zaQ (eI .i64)) .nil)))))) (.cons (.lit _) .nil)))
end Go.Dc
namespace Go.Dc
open Go Go.Mx Go.Lx Go.Proofs
set_option maxRecDepth 100000
set_option maxHeartbeats 4000000
def zeN (g : List Int) (again : Int → Int → Option Int) (set : Int) : Nat → Int → Int → Option Int
  | 0, _, _ => none
  | n + 1, v, r => bif decide (v < (g.length : Int)) then
      (zc7 .u64 (zsr .u64 set r) v).bind fun q =>
      bif zbM .u64 q 1 == 1 then
        (zjj .u64 1 v).bind fun b => (zbn g v).bind fun x => (again x (orI .u64 r b)).bind fun r2 => zeN g again set n (w64 (v + 1)) r2
      else zeN g again set n (w64 (v + 1)) r
    else some r
def zeI (g : List Int) : Nat → Int → Int → Option Int
  | 0, _, _ => none
  | n + 1, set, r => zeN g (zeI g n) set (g.length + 2) 0 r
def zm6 : C :=
 .seq (.reg false false [⟨some 6, .load none (.s 1), none⟩,
 ⟨some 7, .len (.s 6), none⟩,
 ⟨some 8, .mov (.c (.int .i64 0)), none⟩])
 (.scope (.block 0 (.loop (.seq (.reg false false [⟨some 9, .bin .lss (.s 8) (.s 7), none⟩])
 (.seq (.cond (.s 9) (.skip)
 (.exit 0))
 (.seq (.block 1 (.seq (.reg false false [⟨some 10, .mov (.s 8), none⟩,
 ⟨some 5, .mov (.s 10), none⟩])
 (.seq (.reg false false [⟨some 11, .mov (.s 0), none⟩,
 ⟨some 12, .load none (.s 2), none⟩,
 ⟨some 13, .bin .andNot (.s 11) (.s 12), none⟩,
 ⟨some 14, .mov (.s 5), none⟩,
 ⟨some 15, .bin .shr (.s 13) (.s 14), none⟩,
 ⟨some 16, .bin .and (.s 15) (.c (.int .u64 1)), none⟩,
 ⟨some 17, .bin .eql (.s 16) (.c (.int .u64 1)), none⟩])
 (.scope (.cond (.s 17) (.seq (.reg true false [⟨some 18, .load none (.s 2), none⟩,
 ⟨some 19, .mov (.s 5), none⟩,
 ⟨some 20, .bin .shl (.c (.int .u64 1)) (.s 19), none⟩,
 ⟨some 21, .bin .or (.s 18) (.s 20), none⟩,
 ⟨none, .store 1 (.s 2) (.s 21), none⟩])
 (.reg true false [⟨some 22, .load none (.s 3), none⟩,
 ⟨some 23, .load none (.s 1), none⟩,
 ⟨some 24, .mov (.s 5), none⟩,
 ⟨some 25, .idxS 1 (.s 23) (.s 24), none⟩,
 ⟨some 26, .load none (.s 25), none⟩,
 ⟨some 27, .zbb (.s 22) [(.s 26)], none⟩]))
 (.skip))))))
 (.reg false false [⟨some 28, .bin .add (.s 8) (.c (.int .i64 1)), none⟩,
 ⟨some 8, .mov (.s 28), none⟩])))))))
theorem znN : zeG mC 216 = some (29, zm6, [], false) := zaw (by kernel_rfl)
def L3 (g : List Int) (r : Int) : List LB := [.cells [fzE false (eI .u64) g], .cells [dU r], .cells [.clo 216 [] [.ptr 0 0, .ptr 1 0, .ptr 2 0]]]
theorem zk6 (g : List Int) : ∀ (N : Nat) {set r r' : Int}, zeI g N set r = some r' → zc5 mC false 216 [dU set, .ptr 0 0, .ptr 1 0, .ptr 2 0] (L3 g r) (fun _ L' => L' = L3 g r') (fun _ _ => False)
  | 0, set, r, r', h => by cases h
  | N + 1, set, r, r', h => by
    refine zc5.ofM znN (zav rfl) (Nat.le_of_ble_eq_true rfl) ?_
    unfold zm6 L3
    refine zaa ?_
    simp only [rnA, Nat.reduceEqDiff, Nat.reduceLT, Nat.reduceAdd, reduceCtorEq, zax]
    refine EvL.scope (zaa ?_)
    simp only [rnA]
    obtain ⟨T, hT⟩ : ∃ T : Int × Int → LSt, T = (fun a => ⟨29, [(0, dU set), (1, .ptr 0 0), (2, .ptr 1 0), (3, .ptr 2 0), (6, fzE false (eI .u64) g), (7, dI g.length), (8, dI a.1)], [.cells [fzE false (eI .u64) g], .cells [dU a.2], .cells [.clo 216 [] [.ptr 0 0, .ptr 1 0, .ptr 2 0]]]⟩) := ⟨_, rfl⟩
    refine EvL.rounds T (fun n a => zeN g (zeI g N) set n a.1 a.2 = some r') (g.length + 2) (0, r) (by rw [hT]; exact zam.sub ⟨rfl, rfl, rfl, rfl, rfl, rfl, rfl, trivial⟩) h (fun _ h => nomatch h) ?_
    rintro n ⟨v, r⟩ h
    simp only [zeN] at h
    rw [congrFun hT (v, r)]
    refine zaa ?_
    cases c1 : decide (v < (g.length : Int)) with
    | false =>
      rw [c1, cond_false] at h
      simp only [rnA, Nat.reduceEqDiff, Nat.reduceLT, reduceCtorEq, c1]
      cases h
      exact ⟨[], rfl, rfl⟩
    | true =>
      rw [c1, cond_true] at h
      obtain ⟨q, g1, h⟩ := bind_some h
      simp only [rnA, Nat.reduceEqDiff, Nat.reduceLT, reduceCtorEq, c1, (zaf g1).1, (zaf g1).2]
      refine EvL.scope (zaa ?_)
      cases c2 : (zbM .u64 q 1 == 1) with
      | false =>
        rw [c2, cond_false] at h
        simp only [rnA, Nat.reduceEqDiff, Nat.reduceLT, reduceCtorEq]
        exact ⟨(w64 (v + 1), r), h, by rw [hT]; exact zam.sub ⟨rfl, rfl, rfl, rfl, rfl, rfl, rfl, trivial⟩⟩
      | true =>
        rw [c2, cond_true] at h
        obtain ⟨b, g2, h⟩ := bind_some h
        obtain ⟨x, g3, h⟩ := bind_some h
        obtain ⟨r2, g4, h⟩ := bind_some h
        simp only [rnA, Nat.reduceEqDiff, Nat.reduceLT, Nat.reduceLeDiff, reduceCtorEq, (za9 g2).1, (za9 g2).2, zak (n := 1) (e := (eI .u64)) rfl g3]
        refine EvL.zbb rfl rfl rfl (zk6 g N g4) ?_ (fun _ _ h => h.elim)
        rintro d L' rfl
        unfold L3
        simp only [rnA, Nat.reduceEqDiff, Nat.reduceLT, reduceCtorEq]
        exact ⟨(w64 (v + 1), r2), h, by rw [hT]; exact zam.sub ⟨rfl, rfl, rfl, rfl, rfl, rfl, rfl, trivial⟩⟩
def zb7 (N : Nat) (g : List Int) (set : Int) : Option Int := zeI g N set 0
def ze9 : C :=
 .seq (.reg false false [⟨some 2, .box (.s 0), none⟩,
 ⟨some 4, .mov (.c (.int .u64 0)), none⟩])
 (.seq (.reg false false [⟨some 5, .alloc [(.int .u64 0)], none⟩,
 ⟨none, .store 1 (.s 5) (.c (.int .u64 0)), none⟩])
 (.seq (.reg false false [⟨some 6, .alloc [.nilFunc], none⟩])
 (.seq (.reg false false [⟨some 7, .clo 216 [] [(.s 2), (.s 5), (.s 6)], none⟩,
 ⟨none, .store 1 (.s 6) (.s 7), none⟩])
 (.seq (.reg false false [⟨some 8, .load none (.s 6), none⟩,
 ⟨some 9, .mov (.s 1), none⟩,
 ⟨some 10, .zbb (.s 8) [(.s 9)], none⟩])
 (.seq (.reg false false [⟨some 11, .load none (.s 5), none⟩,
 ⟨some 4, .mov (.s 11), none⟩])
 (.ret))))))
theorem zgw : zeG mC 154 = some (12, ze9, [.tmp 4], false) := zaw (by kernel_rfl)
theorem zew {N : Nat} {p0 : List Int} {p1 r : Int} (h : zb7 N p0 p1 = some r) : Lx.Fn mC 154 [(fzE false (eI .u64) p0), (dU p1)] (dU r) := by
  refine Fn.of zgw (zav rfl) (Nat.le_of_ble_eq_true rfl) ?_
  unfold ze9
  refine zaa ?_
  simp only [rnA, Nat.reduceEqDiff, Nat.reduceLT, Nat.reduceAdd, Nat.reduceLeDiff, reduceCtorEq]
  refine EvL.zbb rfl rfl rfl (zk6 p0 N h) ?_ (fun _ _ h => h.elim)
  rintro d L' rfl
  unfold L3
  simp only [rnA, Nat.reduceEqDiff, Nat.reduceLT, reduceCtorEq]
  exact zdj.ret rfl (.lit _)
end Go.Dc
namespace Go.Dc
open Go Go.Mx Go.Lx Go.Proofs
set_option maxRecDepth 100000
set_option maxHeartbeats 4000000
def zbw (N : Nat) (p0 : S_api_Net) (p1 : Int) : Option (Int × Int) :=
(zbE p0).bind fun r1 =>
bif (r1.2 == 0) then (
(zc7 .u64 p1 (r1.1.net.nodes.length : Int)).bind fun q4 =>
bif (q4 == 0) then (
(zb7 N r1.1.sets p1).bind fun r7 =>
some (r7, 0))
else (
some (0, 2)))
else (
some (0, r1.2))
def zeh : C :=
 .seq (.reg false false [⟨some 2, .box (.s 0), none⟩,
 ⟨some 4, .mov (.c (.int .u64 0)), none⟩,
 ⟨some 5, .mov (.c (.int .i64 0)), none⟩])
 (.seq (.reg false false [⟨some 9, .load (some 2) (.s 2), none⟩,
 ⟨some 10, .call 145 [(.s 9)], none⟩,
 ⟨some 8, .mov (.s 10), none⟩,
 ⟨some 11, .ext (.s 8) 0, none⟩,
 ⟨some 12, .ext (.s 8) 1, none⟩,
 ⟨some 6, .alloc [(.int .i64 0), (.slice none 0 0), (.slice none 0 0), (.slice none 0 0), (.slice none 0 0)], none⟩,
 ⟨none, .store 5 (.s 6) (.s 11), none⟩,
 ⟨some 7, .mov (.s 12), none⟩])
 (.seq (.seq (.reg false false [⟨some 13, .mov (.s 7), none⟩,
 ⟨some 14, .bin .neq (.s 13) (.c (.int .i64 0)), none⟩])
 (.cond (.s 14) (.seq (.reg false false [⟨some 15, .mov (.s 7), none⟩,
 ⟨some 4, .mov (.c (.int .u64 0)), none⟩,
 ⟨some 5, .mov (.s 15), none⟩])
 (.ret))
 (.skip)))
 (.seq (.seq (.reg false false [⟨some 16, .mov (.s 1), none⟩,
 ⟨some 17, .fld 0 (.s 6), none⟩,
 ⟨some 18, .fld 1 (.s 17), none⟩,
 ⟨some 19, .load none (.s 18), none⟩,
 ⟨some 20, .len (.s 19), none⟩,
 ⟨some 21, .bin .shr (.s 16) (.s 20), none⟩,
 ⟨some 22, .bin .neq (.s 21) (.c (.int .u64 0)), none⟩])
 (.cond (.s 22) (.seq (.reg false false [⟨some 4, .mov (.c (.int .u64 0)), none⟩,
 ⟨some 5, .mov (.c (.int .i64 2)), none⟩])
 (.ret))
 (.skip)))
 (.seq (.reg false false [⟨some 23, .fld 3 (.s 6), none⟩,
 ⟨some 24, .load none (.s 23), none⟩,
 ⟨some 25, .mov (.s 1), none⟩,
 ⟨some 26, .call 154 [(.s 24), (.s 25)], none⟩,
 ⟨some 4, .mov (.s 26), none⟩,
 ⟨some 5, .mov (.c (.int .i64 0)), none⟩])
 (.ret)))))
theorem zfx : zeG mC 62 = some (27, zeh, [.tmp 4, .tmp 5], false) := zaw (by kernel_rfl)
theorem zfO {N : Nat} {p0 : S_api_Net} {p1 : Int} {r : (Int × Int)} (h : zbw N p0 p1 = some r) : Lx.Fn mC 62 [(.agg [(dI p0.grain), (fzE false zab p0.nodes)]), (dU p1)] (.tup [(dU r.1), (dI r.2)]) := by
  refine Fn.of zfx (zav rfl) (Nat.le_of_ble_eq_true rfl) ?_
  unfold zbw at h
  unfold zeh
  refine zaa ?_
  obtain ⟨r1, g2, h⟩ := bind_some h
  try simp only [rnA, Nat.reduceEqDiff, Nat.reduceLT, Nat.reduceAdd, Nat.reduceLeDiff, reduceCtorEq]
  refine EvL.fnS (zcP g2) rfl rfl (.cons (Mzs.agg (.cons (.lit _) (.cons (zet _ _ (fun h => by cases h <;> contradiction)) .nil))) .nil) ⟨⟨trivial, (za3 _ _), trivial⟩, trivial⟩ ⟨⟨trivial, (za3 _ _), (za3 _ _), (za3 _ _), (za3 _ _), trivial⟩, trivial, trivial⟩ ?_
  try simp only [rnA, Nat.reduceEqDiff, Nat.reduceLT, Nat.reduceAdd, Nat.reduceLeDiff, reduceCtorEq]
  cases c3 : (r1.2 == 0)
  · rw [c3, cond_false] at h
    try simp only [rnA, Nat.reduceEqDiff, Nat.reduceLT, reduceCtorEq]
    replace h := Option.some.inj h; subst h
    exact zdj.ret rfl (Snp.zg0 (.cons (.lit _) (.cons (.lit _) .nil)))
  · rw [c3, cond_true] at h
    obtain ⟨q4, g5, h⟩ := bind_some h
    try simp only [rnA, Nat.reduceEqDiff, Nat.reduceLT, reduceCtorEq, zax, (zaf g5).1, (zaf g5).2]
    cases c6 : (q4 == 0)
    · rw [c6, cond_false] at h
      try simp only [rnA, Nat.reduceLT]
      replace h := Option.some.inj h; subst h
      exact zdj.ret rfl (Snp.zg0 (.cons (.lit _) (.cons (.lit _) .nil)))
    · rw [c6, cond_true] at h
      obtain ⟨r7, g8, h⟩ := bind_some h
      try simp only [rnA, Nat.reduceEqDiff, Nat.reduceLT, reduceCtorEq]
      refine EvL.fn (zew g8) rfl rfl (.cons (zaq _ _ (fun h => nomatch h)) (.cons (.lit _) .nil)) ?_
      try simp only [rnA, Nat.reduceEqDiff, Nat.reduceLT, reduceCtorEq]
      replace h := Option.some.inj h; subst h
      exact zdj.ret rfl (Snp.zg0 (.cons (.lit _) (.cons (.lit _) .nil)))
end Go.Dc
namespace Go.Dc
open Go Go.Mx Go.Lx Go.Proofs
set_option maxRecDepth 100000
set_option maxHeartbeats 4000000
def zcJ (p0 : S_api_Net) : Option ((List Int) × Int) :=
(zbE p0).bind fun r1 =>
some (r1.1.sets, r1.2)
def ze4 : C :=
 .seq (.reg false false [⟨some 1, .box (.s 0), none⟩,
 ⟨some 2, .mov (.c (.slice none 0 0)), none⟩,
 ⟨some 3, .mov (.c (.int .i64 0)), none⟩])
 (.seq (.reg false false [⟨some 7, .load (some 2) (.s 1), none⟩,
 ⟨some 8, .call 145 [(.s 7)], none⟩,
 ⟨some 6, .mov (.s 8), none⟩,
 ⟨some 9, .ext (.s 6) 0, none⟩,
 ⟨some 10, .ext (.s 6) 1, none⟩,
 ⟨some 4, .alloc [(.int .i64 0), (.slice none 0 0), (.slice none 0 0), (.slice none 0 0), (.slice none 0 0)], none⟩,
 ⟨none, .store 5 (.s 4) (.s 9), none⟩,
 ⟨some 5, .mov (.s 10), none⟩])
 (.seq (.reg false false [⟨some 11, .fld 3 (.s 4), none⟩,
 ⟨some 12, .load none (.s 11), none⟩,
 ⟨some 13, .mov (.s 5), none⟩,
 ⟨some 2, .mov (.s 12), none⟩,
 ⟨some 3, .mov (.s 13), none⟩])
 (.ret)))
theorem zgz : zeG mC 54 = some (14, ze4, [.tmp 2, .tmp 3], false) := zaw (by kernel_rfl)
theorem zg4 {p0 : S_api_Net} {r : ((List Int) × Int)} (h : zcJ p0 = some r) : Lx.FnA mC 54 [(.agg [(dI p0.grain), (fzE false zab p0.nodes)])] (.tup [(fzE false (eI .u64) r.1), (dI r.2)]) := by
  refine FnA.of zgz (zav rfl) (Nat.le_of_ble_eq_true rfl) ?_
  unfold zcJ at h
  unfold ze4
  refine zaa ?_
  obtain ⟨r1, g2, h⟩ := bind_some h
  try simp only [rnA, Nat.reduceEqDiff, Nat.reduceLT, Nat.reduceAdd, Nat.reduceLeDiff, reduceCtorEq]
  refine EvL.fnS (zcP g2) rfl rfl (.cons (Mzs.agg (.cons (.lit _) (.cons (zet _ _ (fun h => by cases h <;> contradiction)) .nil))) .nil) ⟨⟨trivial, (za3 _ _), trivial⟩, trivial⟩ ⟨⟨trivial, (za3 _ _), (za3 _ _), (za3 _ _), (za3 _ _), trivial⟩, trivial, trivial⟩ ?_
  try simp only [rnA, Nat.reduceEqDiff, Nat.reduceLT, Nat.reduceAdd, Nat.reduceLeDiff, reduceCtorEq]
  replace h := Option.some.inj h; subst h
  exact zl8.ret rfl (Snp.zg0 (.cons (zaq _ _ (fun h => nomatch h)) (.cons (.lit _) .nil)))
end Go.Dc
namespace Go.Dc
open Go Go.Mx Go.Lx Go.Proofs
set_option maxRecDepth 100000
set_option maxHeartbeats 4000000
end Go.Dc
