/-
  What net_Descendants computes. Conditions: none.
-/
import Derived.Test.YtobhjbbinnbdaaaNnJ2
import Derived.Test.YtobhjbbinnbdaaaNnJ3
import Derived.Test.YtobhjbbinnbdaaaNnQt
import Derived.Test.YtobhjbbinnbdaaaNnDm
import Derived.Test.YtobhjbbinnbdaaaNnJ1
namespace Go.Dc
open Go Go.Mx Go.Lx Go.Proofs
set_option maxRecDepth 100000
set_option maxHeartbeats 4000000
def zaW (r1 : (S_net_network × Int)) (x10 : Int) (v34 : Int) : Nat → Int → (List Int) → Option (List Int)
  | 0, _, _ => none
  | n+1, v41, l2' => (
bif (decide (v41 < (((Int.toNat (r1.1.sets.length : Int)) : Nat) : Int))) then (
(zbn l2' v41).bind fun x13 =>
(zc7 .u64 x10 v41).bind fun q15 =>
(zjj .u64 (zbM .u64 q15 1) v34).bind fun q17 =>
(zgD l2' v41 (orI .u64 x13 q17)).bind fun y19 =>
zaW r1 x10 v34 n (w64 (v41 + 1)) y19)
else (
some l2'))
def zaV (r1 : (S_net_network × Int)) : Nat → Int → (List Int) → Option (List Int)
  | 0, _, _ => none
  | n+1, v34, l2 => (
bif (decide (v34 < (r1.1.sets.length : Int))) then (
(zbn r1.1.sets v34).bind fun x10 =>
((zaW r1 x10 v34 ((((Int.toNat (r1.1.sets.length : Int)) : Nat) : Int) - 0 + 2 : Int).toNat 0 l2 : Option (List Int))).bind fun l2' =>
zaV r1 n (w64 (v34 + 1)) l2')
else (
some l2))
def zbf (N : Nat) (p0 : S_api_Net) (p1 : Int) : Option (Int × Int) :=
(zbE p0).bind fun r1 =>
bif (r1.2 == 0) then (
(zc7 .u64 p1 (r1.1.net.nodes.length : Int)).bind fun q4 =>
bif (q4 == 0) then (
(zfF 8 (r1.1.sets.length : Int) 0).bind fun y7 =>
((zaV r1 ((r1.1.sets.length : Int) - 0 + 2 : Int).toNat 0 y7 : Option (List Int))).bind fun l2 =>
(zb7 N l2 p1).bind fun r21 =>
some (r21, 0))
else (
some (0, 2)))
else (
some (0, r1.2))
def zdm : C :=
 .seq (.reg false false [⟨some 2, .box (.s 0), none⟩,
 ⟨some 4, .mov (.c (.int .u64 0)), none⟩,
 ⟨some 5, .mov (.c (.int .i64 0)), none⟩])
 (.seq (.reg false false [⟨some 13, .load (some 2) (.s 2), none⟩,
 ⟨some 14, .call 145 [(.s 13)], none⟩,
 ⟨some 12, .mov (.s 14), none⟩,
 ⟨some 15, .ext (.s 12) 0, none⟩,
 ⟨some 16, .ext (.s 12) 1, none⟩,
 ⟨some 6, .alloc [(.int .i64 0), (.slice none 0 0), (.slice none 0 0), (.slice none 0 0), (.slice none 0 0)], none⟩,
 ⟨none, .store 5 (.s 6) (.s 15), none⟩,
 ⟨some 7, .mov (.s 16), none⟩])
 (.seq (.seq (.reg false false [⟨some 17, .mov (.s 7), none⟩,
 ⟨some 18, .bin .neq (.s 17) (.c (.int .i64 0)), none⟩])
 (.cond (.s 18) (.seq (.reg false false [⟨some 19, .mov (.s 7), none⟩,
 ⟨some 4, .mov (.c (.int .u64 0)), none⟩,
 ⟨some 5, .mov (.s 19), none⟩])
 (.ret))
 (.skip)))
 (.seq (.seq (.reg false false [⟨some 20, .mov (.s 1), none⟩,
 ⟨some 21, .fld 0 (.s 6), none⟩,
 ⟨some 22, .fld 1 (.s 21), none⟩,
 ⟨some 23, .load none (.s 22), none⟩,
 ⟨some 24, .len (.s 23), none⟩,
 ⟨some 25, .bin .shr (.s 20) (.s 24), none⟩,
 ⟨some 26, .bin .neq (.s 25) (.c (.int .u64 0)), none⟩])
 (.cond (.s 26) (.seq (.reg false false [⟨some 4, .mov (.c (.int .u64 0)), none⟩,
 ⟨some 5, .mov (.c (.int .i64 2)), none⟩])
 (.ret))
 (.skip)))
 (.seq (.reg false false [⟨some 27, .fld 3 (.s 6), none⟩,
 ⟨some 28, .load none (.s 27), none⟩,
 ⟨some 29, .len (.s 28), none⟩,
 ⟨some 30, .mk 1 8 [(.int .u64 0)] (.s 29) (.s 29), none⟩,
 ⟨some 8, .mov (.s 30), none⟩])
 (.seq (.seq (.reg false false [⟨some 31, .fld 3 (.s 6), none⟩,
 ⟨some 32, .load none (.s 31), none⟩,
 ⟨some 33, .len (.s 32), none⟩,
 ⟨some 34, .mov (.c (.int .i64 0)), none⟩])
 (.scope (.block 0 (.loop (.seq (.reg false false [⟨some 35, .bin .lss (.s 34) (.s 33), none⟩])
 (.seq (.cond (.s 35) (.skip)
 (.exit 0))
 (.seq (.block 1 (.seq (.reg false false [⟨some 36, .mov (.s 34), none⟩,
 ⟨some 37, .idxS 1 (.s 32) (.s 34), none⟩,
 ⟨some 38, .load none (.s 37), none⟩,
 ⟨some 9, .mov (.s 36), none⟩,
 ⟨some 10, .mov (.s 38), none⟩])
 (.seq (.reg false false [⟨some 39, .mov (.s 8), none⟩,
 ⟨some 40, .len (.s 39), none⟩,
 ⟨some 41, .mov (.c (.int .i64 0)), none⟩])
 (.scope (.block 2 (.loop (.seq (.reg false false [⟨some 42, .bin .lss (.s 41) (.s 40), none⟩])
 (.seq (.cond (.s 42) (.skip)
 (.exit 2))
 (.seq (.block 3 (.seq (.reg false false [⟨some 43, .mov (.s 41), none⟩,
 ⟨some 11, .mov (.s 43), none⟩])
 (.reg true false [⟨some 44, .mov (.s 8), none⟩,
 ⟨some 45, .mov (.s 11), none⟩,
 ⟨some 46, .idxS 1 (.s 44) (.s 45), none⟩,
 ⟨some 47, .load none (.s 46), none⟩,
 ⟨some 48, .mov (.s 10), none⟩,
 ⟨some 49, .mov (.s 11), none⟩,
 ⟨some 50, .bin .shr (.s 48) (.s 49), none⟩,
 ⟨some 51, .bin .and (.s 50) (.c (.int .u64 1)), none⟩,
 ⟨some 52, .mov (.s 9), none⟩,
 ⟨some 53, .bin .shl (.s 51) (.s 52), none⟩,
 ⟨some 54, .bin .or (.s 47) (.s 53), none⟩,
 ⟨some 55, .idxS 1 (.s 44) (.s 45), none⟩,
 ⟨none, .store 1 (.s 55) (.s 54), none⟩])))
 (.reg false false [⟨some 56, .bin .add (.s 41) (.c (.int .i64 1)), none⟩,
 ⟨some 41, .mov (.s 56), none⟩]))))))))))
 (.reg false false [⟨some 57, .bin .add (.s 34) (.c (.int .i64 1)), none⟩,
 ⟨some 34, .mov (.s 57), none⟩]))))))))
 (.seq (.reg false false [⟨some 58, .mov (.s 8), none⟩,
 ⟨some 59, .mov (.s 1), none⟩,
 ⟨some 60, .call 154 [(.s 58), (.s 59)], none⟩,
 ⟨some 4, .mov (.s 60), none⟩,
 ⟨some 5, .mov (.c (.int .i64 0)), none⟩])
 (.ret)))))))
theorem zeM : zeG mC 63 = some (61, zdm, [.tmp 4, .tmp 5], false) := zaw (by kernel_rfl)
theorem ze3 {N : Nat} {p0 : S_api_Net} {p1 : Int} {r : (Int × Int)} (h : zbf N p0 p1 = some r) : Lx.Fn mC 63 [(.agg [(dI p0.grain), (fzE false zab p0.nodes)]), (dU p1)] (.tup [(dU r.1), (dI r.2)]) := by
  refine Fn.of zeM (zav rfl) (Nat.le_of_ble_eq_true rfl) ?_
  unfold zbf at h
  unfold zdm
  refine zaa ?_
  obtain ⟨r1, g2, h⟩ := bind_some h
  try simp only [rnA, Nat.reduceEqDiff, Nat.reduceLT, Nat.reduceAdd, Nat.reduceLeDiff, reduceCtorEq]
  refine EvL.fnS (zcP g2) rfl rfl (.cons (Mzs.agg (.cons (.lit _) (.cons (zet _ _ (fun h => by cases h <;> contradiction)) .nil))) .nil) ⟨⟨trivial, (za3 _ _), trivial⟩, trivial⟩ ⟨⟨trivial, (za3 _ _), (za3 _ _), (za3 _ _), (za3 _ _), trivial⟩, trivial, trivial⟩ ?_
  try simp only [rnA, Nat.reduceEqDiff, Nat.reduceLT, Nat.reduceAdd, Nat.reduceLeDiff, reduceCtorEq]
  cases c3 : (r1.2 == 0)
  · rw [c3, cond_false] at h
    try simp only [rnA, Nat.reduceEqDiff, Nat.reduceLT, reduceCtorEq]
    replace h := Option.some.inj h; subst h
    exact zdj.ret rfl (Snp.zg0 (.cons (.lit _) (.cons (.lit _) .nil)))
  · rw [c3, cond_true] at h
    obtain ⟨q4, g5, h⟩ := bind_some h
    try simp only [rnA, Nat.reduceEqDiff, Nat.reduceLT, reduceCtorEq, zax, (zaf g5).1, (zaf g5).2]
    cases c6 : (q4 == 0)
    · rw [c6, cond_false] at h
      try simp only [rnA, Nat.reduceLT]
      replace h := Option.some.inj h; subst h
      exact zdj.ret rfl (Snp.zg0 (.cons (.lit _) (.cons (.lit _) .nil)))
    · rw [c6, cond_true] at h
      obtain ⟨y7, g8, h⟩ := bind_some h
      try simp only [rnA, Nat.reduceEqDiff, Nat.reduceLT, Nat.reduceAdd, reduceCtorEq, zax, (zbd g8).1.1, (zbd g8).1.2, Int.le_refl, (show List.replicate (Int.toNat (r1.1.sets.length : Int)) [(dU 0)] = y7.map ((eI .u64).c true) from zcR g8 ((eI .u64).c true))]
      obtain ⟨o7, j7, h⟩ := bind_some h
      obtain ⟨T7, hT7⟩ : ∃ T : (List Int) → LSt, T = (fun a => ⟨61, [(1, (dU p1)), (8, (.sl 2 0 1 (Int.toNat (r1.1.sets.length : Int)) (some (Int.toNat (r1.1.sets.length : Int))) (Int.toNat (r1.1.sets.length : Int))))], [.gone, .gone, .els 1 (a.map ((eI .u64).c true))]⟩) := ⟨_, rfl⟩
      refine EvL.jn T7 (fun a => a = o7 ∧ a.length = (Int.toNat (r1.1.sets.length : Int))) ?_ ?_
      · refine zaa ?_
        simp only [rnA]
        obtain ⟨T12, hT12⟩ : ∃ T : (Int × (List Int)) → LSt, T = (fun a => ⟨61, [(1, (dU p1)), (8, (.sl 2 0 1 (Int.toNat (r1.1.sets.length : Int)) (some (Int.toNat (r1.1.sets.length : Int))) (Int.toNat (r1.1.sets.length : Int)))), (32, (fzE false (eI .u64) r1.1.sets)), (33, (dI (r1.1.sets.length : Int))), (34, (dI a.1))], [.gone, .gone, .els 1 (a.2.map ((eI .u64).c true))]⟩) := ⟨_, rfl⟩
        refine EvL.rounds (α := (Int × (List Int))) T12 (fun n a => zaV r1 n a.1 a.2 = some o7 ∧ a.2.length = (Int.toNat (r1.1.sets.length : Int))) ((r1.1.sets.length : Int) - 0 + 2 : Int).toNat (0, y7) (by rw [hT12]; exact zam.m0 [.d, .d, .k] rfl (ms rfl trivial (ms rfl rfl (ms rfl trivial (ms rfl trivial (ms rfl trivial trivial))))) ⟨rfl, ⟨rfl, ⟨MB.es (eI .u64) true y7, trivial⟩⟩⟩) ⟨j7, zcx g8⟩ (fun _ h => nomatch (show (none : Option (List Int)) = some o7 from h.1)) ?_
        · rintro n ⟨v34, l2⟩ ⟨j7, el2⟩
          simp only [zaV] at j7
          rw [congrFun hT12 (v34, l2)]
          refine zaa ?_
          try simp only [rnA, Nat.reduceEqDiff, Nat.reduceLT]
          cases c9 : (decide (v34 < (r1.1.sets.length : Int)))
          · rw [c9, cond_false] at j7
            try simp only [rnA]
            replace j7 := Option.some.inj j7; subst j7
            exact ⟨_, ⟨rfl, el2⟩, by rw [hT7]; exact zam.m0 [.d, .d, .k] rfl (ms rfl trivial (ms rfl rfl trivial)) ⟨rfl, ⟨rfl, ⟨MB.es (eI .u64) true l2, trivial⟩⟩⟩⟩
          · rw [c9, cond_true] at j7
            obtain ⟨x10, g11, j7⟩ := bind_some j7
            try simp only [rnA, Nat.reduceEqDiff, Nat.reduceLT, zak (n := 1) (e := (eI .u64)) rfl g11, el2]
            obtain ⟨o13, j13, j7⟩ := bind_some j7
            obtain ⟨T13, hT13⟩ : ∃ T : (List Int) → LSt, T = (fun a => ⟨61, [(1, (dU p1)), (8, (.sl 2 0 1 (Int.toNat (r1.1.sets.length : Int)) (some (Int.toNat (r1.1.sets.length : Int))) (Int.toNat (r1.1.sets.length : Int)))), (32, (fzE false (eI .u64) r1.1.sets)), (33, (dI (r1.1.sets.length : Int))), (34, (dI v34))], [.gone, .gone, .els 1 (a.map ((eI .u64).c true))]⟩) := ⟨_, rfl⟩
            refine EvL.jn T13 (fun a => a = o13 ∧ a.length = (Int.toNat (r1.1.sets.length : Int))) ?_ ?_
            · refine zaa ?_
              simp only [rnA]
              obtain ⟨T14, hT14⟩ : ∃ T : (Int × (List Int)) → LSt, T = (fun a => ⟨61, [(1, (dU p1)), (8, (.sl 2 0 1 (Int.toNat (r1.1.sets.length : Int)) (some (Int.toNat (r1.1.sets.length : Int))) (Int.toNat (r1.1.sets.length : Int)))), (9, (dI v34)), (10, (dU x10)), (32, (fzE false (eI .u64) r1.1.sets)), (33, (dI (r1.1.sets.length : Int))), (34, (dI v34)), (40, (dI (((Int.toNat (r1.1.sets.length : Int)) : Nat) : Int))), (41, (dI a.1))], [.gone, .gone, .els 1 (a.2.map ((eI .u64).c true))]⟩) := ⟨_, rfl⟩
              refine EvL.rounds (α := (Int × (List Int))) T14 (fun n a => zaW r1 x10 v34 n a.1 a.2 = some o13 ∧ a.2.length = (Int.toNat (r1.1.sets.length : Int))) ((((Int.toNat (r1.1.sets.length : Int)) : Nat) : Int) - 0 + 2 : Int).toNat (0, l2) (by rw [hT14]; exact zam.m0 [.d, .d, .k] rfl (ms rfl trivial (ms rfl rfl (ms rfl trivial (ms rfl trivial (ms rfl trivial (ms rfl trivial (ms rfl trivial (ms rfl trivial (ms rfl trivial trivial))))))))) ⟨rfl, ⟨rfl, ⟨MB.es (eI .u64) true l2, trivial⟩⟩⟩) ⟨j13, el2⟩ (fun _ h => nomatch (show (none : Option (List Int)) = some o13 from h.1)) ?_
              · rintro n ⟨v41, l2'⟩ ⟨j13, el2'⟩
                simp only [zaW] at j13
                rw [congrFun hT14 (v41, l2')]
                refine zaa ?_
                try simp only [rnA, Nat.reduceEqDiff, Nat.reduceLT]
                cases c12 : (decide (v41 < (((Int.toNat (r1.1.sets.length : Int)) : Nat) : Int)))
                · rw [c12, cond_false] at j13
                  try simp only [rnA, Nat.reduceEqDiff, Nat.reduceLT, reduceCtorEq]
                  replace j13 := Option.some.inj j13; subst j13
                  exact ⟨_, ⟨rfl, el2'⟩, by rw [hT13]; exact zam.m0 [.d, .d, .k] rfl (ms rfl trivial (ms rfl rfl (ms rfl trivial (ms rfl trivial (ms rfl trivial trivial))))) ⟨rfl, ⟨rfl, ⟨MB.es (eI .u64) true l2', trivial⟩⟩⟩⟩
                · rw [c12, cond_true] at j13
                  obtain ⟨x13, g14, j13⟩ := bind_some j13
                  obtain ⟨q15, g16, j13⟩ := bind_some j13
                  obtain ⟨q17, g18, j13⟩ := bind_some j13
                  obtain ⟨y19, g20, j13⟩ := bind_some j13
                  try simp only [rnA, Nat.reduceEqDiff, Nat.reduceLT, Nat.reduceLeDiff, el2', zbS g14, (show v41 < (((Int.toNat (r1.1.sets.length : Int)) : Nat) : Int) from el2' ▸ zcm g14), zbu g14 ((eI .u64).c true), (zaf g16).2, (za9 g18).1, (za9 g18).2, (show (l2'.map ((eI .u64).c true)).set v41.toNat [(dU (orI .u64 x13 q17))] = y19.map ((eI .u64).c true) from zcs g20 ((eI .u64).c true))]
                  exact ⟨((w64 (v41 + 1)), y19), ⟨j13, (zcc g20).trans el2'⟩, by rw [hT14]; exact zam.m0 [.d, .d, .k] rfl (ms rfl trivial (ms rfl rfl (ms rfl trivial (ms rfl trivial (ms rfl trivial (ms rfl trivial (ms rfl trivial (ms rfl trivial (ms rfl trivial trivial))))))))) ⟨rfl, ⟨rfl, ⟨MB.es (eI .u64) true y19, trivial⟩⟩⟩⟩
            · rintro l2' ⟨rfl, el2'⟩
              rw [congrFun hT13 l2']
              refine zaa ?_
              try simp only [rnA, Nat.reduceEqDiff, Nat.reduceLT]
              exact ⟨((w64 (v34 + 1)), l2'), ⟨j7, el2'⟩, by rw [hT12]; exact zam.m0 [.d, .d, .k] rfl (ms rfl trivial (ms rfl rfl (ms rfl trivial (ms rfl trivial (ms rfl trivial trivial))))) ⟨rfl, ⟨rfl, ⟨MB.es (eI .u64) true l2', trivial⟩⟩⟩⟩
      · rintro l2 ⟨rfl, el2⟩
        rw [congrFun hT7 l2]
        refine zaa ?_
        obtain ⟨r21, g22, h⟩ := bind_some h
        try simp only [rnA, Nat.reduceEqDiff, Nat.reduceLT]
        refine EvL.fn (zew g22) rfl rfl (.cons (zb8 (e := (eI .u64)) (t := true) rfl (.inl rfl) (el2).symm (el2).symm (fun k h => by cases h; exact Nat.le_refl _) (fun h => nomatch h)) (.cons (.lit _) .nil)) ?_
        try simp only [rnA, Nat.reduceEqDiff, Nat.reduceLT]
        replace h := Option.some.inj h; subst h
        exact zdj.ret rfl (Snp.zg0 (.cons (.lit _) (.cons (.lit _) .nil)))
end Go.Dc
namespace Go.Dc
open Go Go.Mx Go.Lx
theorem zly {xs : List Nat} {i j y : Nat} (h : i < xs.length) : (xs.set i y).getD j 0 = if i = j then y else xs.getD j 0 := by
  simp only [List.getD_eq_getElem?_getD, List.getElem?_set]
  split
  · rename_i hij
    subst hij
    simp [h]
  · rfl
theorem zdY {xs : List Nat} (h : ∀ m ∈ xs, m < 18446744073709551616) (i : Nat) : xs.getD i 0 < 18446744073709551616 := by
  by_cases hi : i < xs.length
  · rw [show xs.getD i 0 = xs[i] by simp [hi]]; exact h _ (List.getElem_mem hi)
  · rw [show xs.getD i 0 = 0 by simp [hi]]; decide
theorem zeV {xs : List Nat} {i : Nat} (h : i < xs.length) : zbn (iL xs) (i : Int) = some ((xs.getD i 0 : Nat) : Int) := by
  rw [zby h]; simp [h]
theorem zno {b : Bool} {v j : Nat} : (b.toNat * 2 ^ v).testBit j = (b && decide (v = j)) := by
  cases b with
  | false => simp
  | true => simp [Nat.testBit_two_pow]
theorem zvV {b : Bool} {v : Nat} (hv : v < 64) : zjj .u64 ((b.toNat : Nat) : Int) (v : Int) = some ((b.toNat * 2 ^ v : Nat) : Int) := by
  cases b with
  | true => rw [show (((true : Bool).toNat : Nat) : Int) = 1 from rfl, zqX hv, show (true : Bool).toNat * 2 ^ v = 2 ^ v from Nat.one_mul _]
  | false =>
    unfold zjj
    rw [if_pos (Int.natCast_nonneg v)]
    simp [IntKind.wrap]
    intro h
    cases h
theorem znB {r1 : S_net_network × Int} {n x v : Nat} {ds0 : List Nat} (hr : r1.1.sets.length = n) (hn : n ≤ 8) (hv : v < n) (hx : x < 18446744073709551616) : ∀ (m k : Nat) (ds : List Nat), ds.length = n → (∀ d ∈ ds, d < 18446744073709551616) →
    (∀ i j, i < n → (ds.getD i 0).testBit j = ((ds0.getD i 0).testBit j || (decide (i < k) && x.testBit i && decide (v = j)))) → k ≤ n → n - k < m →
    ∃ ds', ds'.length = n ∧ (∀ d ∈ ds', d < 18446744073709551616) ∧ (∀ i j, i < n → (ds'.getD i 0).testBit j = ((ds0.getD i 0).testBit j || (x.testBit i && decide (v = j)))) ∧ zaW r1 (x : Int) (v : Int) m (k : Int) (iL ds) = some (iL ds')
  | 0, _, _, _, _, _, _, h => absurd h (Nat.not_lt_zero _)
  | m + 1, k, ds, h1, h2, h3, h4, h5 => by
    unfold zaW
    rw [hr, Int.toNat_natCast, zay]
    by_cases hk : k < n
    · obtain ⟨q, q1, q2⟩ := znG (a := x) (v := k) hx (by omega)
      have hpw : (x.testBit k).toNat * 2 ^ v < 18446744073709551616 := by
        have : 2 ^ v < 2 ^ 64 := Nat.pow_lt_pow_right (by decide) (by omega)
        cases x.testBit k with
        | true => simpa using this
        | false => simp
      have hdk := zdY h2 k
      have hor : ds.getD k 0 ||| (x.testBit k).toNat * 2 ^ v < 18446744073709551616 := Nat.or_lt_two_pow (n := 64) hdk hpw
      obtain ⟨ds', f1, f2, f3, f4⟩ := znB (r1 := r1) (ds0 := ds0) hr hn hv hx m (k + 1) (ds.set k (ds.getD k 0 ||| (x.testBit k).toNat * 2 ^ v)) (by simpa using h1)
        (fun d hd => by
          rcases List.mem_or_eq_of_mem_set hd with hd | hd
          · exact h2 d hd
          · rw [hd]; exact hor)
        (fun i j hi => by
          rw [zly (by omega)]
          by_cases hik : k = i
          · subst hik
            rw [if_pos rfl, Nat.testBit_or, h3 k j hi, zno]
            simp
          · rw [if_neg hik, h3 i j hi]
            have : decide (i < k + 1) = decide (i < k) := by simp; omega
            rw [this]) hk (by omega)
      refine ⟨ds', f1, f2, f3, ?_⟩
      rw [decide_eq_true hk, cond_true, zeV (by omega), Option.bind_some, q1, Option.bind_some, q2, zvV (by omega), Option.bind_some, orU hdk hpw, zhN (by omega), Option.bind_some, zao (by omega), f4]
    · refine ⟨ds, h1, h2, fun i j hi => ?_, by rw [decide_eq_false hk, cond_false]⟩
      rw [h3 i j hi, decide_eq_true (show i < k by omega), Bool.true_and]
theorem zoR {r1 : S_net_network × Int} {ms : List Nat} (hr : r1.1.sets = iL ms) (hn : ms.length ≤ 8) (hm : ∀ m ∈ ms, m < 18446744073709551616) : ∀ (m k : Nat) (ds : List Nat), ds.length = ms.length → (∀ d ∈ ds, d < 18446744073709551616) →
    (∀ i j, i < ms.length → (ds.getD i 0).testBit j = (decide (j < k) && (ms.getD j 0).testBit i)) → k ≤ ms.length → ms.length - k < m →
    ∃ ds', ds'.length = ms.length ∧ (∀ d ∈ ds', d < 18446744073709551616) ∧ (∀ i j, i < ms.length → (ds'.getD i 0).testBit j = (decide (j < ms.length) && (ms.getD j 0).testBit i)) ∧ zaV r1 m (k : Int) (iL ds) = some (iL ds')
  | 0, _, _, _, _, _, _, h => absurd h (Nat.not_lt_zero _)
  | m + 1, k, ds, h1, h2, h3, h4, h5 => by
    unfold zaV
    have hrl : r1.1.sets.length = ms.length := by rw [hr, zaL]
    rw [hrl, zay]
    by_cases hk : k < ms.length
    · obtain ⟨d1, g1, g2, g3, g4⟩ := znB (r1 := r1) (x := ms.getD k 0) (ds0 := ds) hrl hn hk (zdY hm k) (ms.length + 2) 0 ds h1 h2 (fun i j hi => by simp) (Nat.zero_le _) (by omega)
      obtain ⟨ds', f1, f2, f3, f4⟩ := zoR hr hn hm m (k + 1) d1 g1 g2 (fun i j hi => by
        rw [g3 i j hi, h3 i j hi]
        by_cases hkj : k = j
        · subst hkj; simp
        · have : decide (j < k + 1) = decide (j < k) := by simp; omega
          rw [this]; simp [hkj]) hk (by omega)
      refine ⟨ds', f1, f2, f3, ?_⟩
      rw [show ((0 : Nat) : Int) = 0 from rfl] at g4
      rw [decide_eq_true hk, cond_true, hr, zeV hk, Option.bind_some, Int.toNat_natCast, zba, g4, Option.bind_some, zao (by omega), f4]
    · have : k = ms.length := by omega
      subst this
      exact ⟨ds, h1, h2, h3, by rw [decide_eq_false hk, cond_false]⟩
theorem Reach.tr {ms : List Nat} {a b c : Nat} (h1 : Reach ms a b) (h2 : Reach ms b c) : Reach ms a c := by
  induction h1 with
  | refl => exact h2
  | step e _ ih => exact .step e (ih h2)
theorem zjb {ms ds : List Nat} (h : ∀ i j, (ds.getD i 0).testBit j = true → (ms.getD j 0).testBit i = true) {a b : Nat} (hr : Reach ds a b) : Reach ms b a := by
  induction hr with
  | refl i => exact .refl i
  | step e _ ih => exact ih.tr (.step (h _ _ e) (.refl _))
theorem NetOk.zv4 {num : List Nat} {g : Nat} {ns : List NN} (h : NetOk num g ns) {ds : List Nat} (h1 : ds.length = (zai ns).length) (h2 : ∀ d ∈ ds, d < 18446744073709551616)
    (h3 : ∀ i j, i < (zai ns).length → (ds.getD i 0).testBit j = (decide (j < (zai ns).length) && ((zai ns).getD j 0).testBit i)) : GOk ds (fun v => 8 - num.idxOf v) := by
  obtain ⟨hg, hrk⟩ := h.gok
  refine ⟨by rw [h1]; exact hg.len, h2, fun v p hp => ?_⟩
  by_cases hv : v < (zai ns).length
  · rw [h3 v p hv] at hp
    obtain ⟨k1, k2⟩ := Bool.and_eq_true_iff.1 hp
    have k1 := of_decide_eq_true k1
    have k3 : v < (zai ns).length ∧ num.idxOf v < num.idxOf p := hg.down p v k2
    have k4 : num.idxOf p ≤ 8 := hrk p k1
    exact ⟨by omega, show 8 - num.idxOf p < 8 - num.idxOf v by omega⟩
  · rw [show ds.getD v 0 = 0 by simp [h1, hv]] at hp
    simp at hp
theorem zsj {num : List Nat} {g : Nat} {ns : List NN} (h : NetOk num g ns) {N set : Nat} (hN : 10 ≤ N) (h2 : ∀ s, set.testBit s = true → s < ns.length) (h1 : set < 2 ^ ns.length) :
    ∃ r : Nat, zbf N (zdD g ns) (set : Int) = some ((r : Int), 0) ∧ r < 18446744073709551616 ∧ ∀ i, r.testBit i = true ↔ ∃ s, set.testBit s = true ∧ Reach (zai ns) i s := by
  have hml : (zai ns).length = ns.length := by simp [zai]
  have hn := h.n2
  obtain ⟨hg, hrk⟩ := h.gok
  have h64 : set < 18446744073709551616 := Nat.lt_of_lt_of_le h1 (Nat.pow_le_pow_right (n := 2) (by decide) (show ns.length ≤ 64 by omega))
  obtain ⟨os, _, _, e2⟩ := ziu h
  obtain ⟨ds, d1, d2, d3, d4⟩ := zoR (r1 := (⟨zdD g ns, iL (ns.map (·.c)), iL (zai ns), iL os⟩, 0)) (ms := zai ns) rfl (by omega) h.zee (ns.length + 2) 0 (List.replicate ns.length 0) (by simp [hml])
    (fun d hd => by rw [(List.mem_replicate.1 hd).2]; decide) (fun i j hi => by simp [List.getElem?_replicate]; split <;> simp) (Nat.zero_le _) (by omega)
  obtain ⟨r, e, hr, hi⟩ := zhE (h.zv4 d1 d2 d3) (fun v _ => Nat.sub_le 8 _) hN h64 fun s hs => by rw [d1, hml]; exact h2 s hs
  refine ⟨r, ?_, hr, fun i => ?_⟩
  · have hz : List.replicate ns.length (0 : Int) = iL (List.replicate ns.length 0) := by simp [iL]
    rw [show ((0 : Nat) : Int) = 0 from rfl] at d4
    unfold zbf
    rw [e2, Option.bind_some]
    simp only []
    rw [show ((0 : Int) == 0) = true from rfl, cond_true, show (zdD g ns).nodes.length = ns.length by simp [zdD], zuM (by omega), Option.bind_some,
      show set >>> ns.length = 0 by rw [Nat.shiftRight_eq_div_pow]; exact Nat.div_eq_of_lt h1, show (((0 : Nat) : Int) == 0) = true from rfl, cond_true, zaL, hml, zfD (by omega), Option.bind_some, zba, hz, d4, Option.bind_some, e, Option.bind_some]
  · rw [hi]
    have k1 : ∀ i j, (ds.getD i 0).testBit j = true → ((zai ns).getD j 0).testBit i = true := fun i j hij => by
      by_cases hil : i < (zai ns).length
      · rw [d3 i j hil] at hij
        exact (Bool.and_eq_true_iff.1 hij).2
      · rw [show ds.getD i 0 = 0 by simp [d1, hil]] at hij
        simp at hij
    have k2 : ∀ i j, ((zai ns).getD i 0).testBit j = true → (ds.getD j 0).testBit i = true := fun i j hij => by
      have hj := (hg.down i j hij).1
      have hil : i < (zai ns).length := Classical.byContradiction fun hno => by
        rw [show (zai ns).getD i 0 = 0 by simp [hno]] at hij
        simp at hij
      rw [d3 j i hj, hij, decide_eq_true hil]
      rfl
    exact ⟨fun ⟨s, hs, hr⟩ => ⟨s, hs, zjb k1 hr⟩, fun ⟨s, hs, hr⟩ => ⟨s, hs, zjb k2 hr⟩⟩
end Go.Dc
namespace Go.Dc
open Go Go.Mx Go.Lx Go.Proofs
set_option maxRecDepth 100000
set_option maxHeartbeats 4000000
def zaN (p0 : S_net_network) (x4 : Int) (q6 : Int) : Nat → Int → (List Int) → Option (List Int)
  | 0, _, _ => none
  | n+1, v26, l1' => (
bif (decide (v26 < (((Int.toNat (p0.sets.length : Int)) : Nat) : Int))) then (
(zc7 .u64 (orI .u64 x4 q6) v26).bind fun q9 =>
((bif ((zbM .u64 q9 1) == 1) then (
(zbn l1' v26).bind fun x12 =>
(zjj .u64 1 v26).bind fun q14 =>
(zgD l1' v26 (orI .u64 x12 (zsr .u64 (orI .u64 x4 q6) q14))).bind fun y16 =>
some y16)
else (
some l1') : Option (List Int))).bind fun l1'' =>
zaN p0 x4 q6 n (w64 (v26 + 1)) l1'')
else (
some l1'))
def zaO (p0 : S_net_network) : Nat → Int → (List Int) → Option (List Int)
  | 0, _, _ => none
  | n+1, v15, l1 => (
bif (decide (v15 < (p0.sets.length : Int))) then (
(zbn p0.sets v15).bind fun x4 =>
(zjj .u64 1 v15).bind fun q6 =>
((zaN p0 x4 q6 ((((Int.toNat (p0.sets.length : Int)) : Nat) : Int) - 0 + 2 : Int).toNat 0 l1 : Option (List Int))).bind fun l1' =>
zaO p0 n (w64 (v15 + 1)) l1')
else (
some l1))
def zaR (p0 : S_net_network) : Option (List Int) :=
(zfF 8 (p0.sets.length : Int) 0).bind fun y1 =>
((zaO p0 ((p0.sets.length : Int) - 0 + 2 : Int).toNat 0 y1 : Option (List Int))).bind fun l1 =>
some l1
def zcQ : C :=
 .seq (.reg false false [⟨some 1, .box (.s 0), none⟩,
 ⟨some 2, .mov (.c (.slice none 0 0)), none⟩])
 (.seq (.reg false false [⟨some 8, .fld 3 (.s 1), none⟩,
 ⟨some 9, .load none (.s 8), none⟩,
 ⟨some 10, .len (.s 9), none⟩,
 ⟨some 11, .mk 1 8 [(.int .u64 0)] (.s 10) (.s 10), none⟩,
 ⟨some 3, .mov (.s 11), none⟩])
 (.seq (.seq (.reg false false [⟨some 12, .fld 3 (.s 1), none⟩,
 ⟨some 13, .load none (.s 12), none⟩,
 ⟨some 14, .len (.s 13), none⟩,
 ⟨some 15, .mov (.c (.int .i64 0)), none⟩])
 (.scope (.block 0 (.loop (.seq (.reg false false [⟨some 16, .bin .lss (.s 15) (.s 14), none⟩])
 (.seq (.cond (.s 16) (.skip)
 (.exit 0))
 (.seq (.block 1 (.seq (.reg false false [⟨some 17, .mov (.s 15), none⟩,
 ⟨some 18, .idxS 1 (.s 13) (.s 15), none⟩,
 ⟨some 19, .load none (.s 18), none⟩,
 ⟨some 4, .mov (.s 17), none⟩,
 ⟨some 5, .mov (.s 19), none⟩])
 (.seq (.reg false false [⟨some 20, .mov (.s 5), none⟩,
 ⟨some 21, .mov (.s 4), none⟩,
 ⟨some 22, .bin .shl (.c (.int .u64 1)) (.s 21), none⟩,
 ⟨some 23, .bin .or (.s 20) (.s 22), none⟩,
 ⟨some 6, .mov (.s 23), none⟩])
 (.seq (.reg false false [⟨some 24, .mov (.s 3), none⟩,
 ⟨some 25, .len (.s 24), none⟩,
 ⟨some 26, .mov (.c (.int .i64 0)), none⟩])
 (.scope (.block 2 (.loop (.seq (.reg false false [⟨some 27, .bin .lss (.s 26) (.s 25), none⟩])
 (.seq (.cond (.s 27) (.skip)
 (.exit 2))
 (.seq (.block 3 (.seq (.reg false false [⟨some 28, .mov (.s 26), none⟩,
 ⟨some 7, .mov (.s 28), none⟩])
 (.seq (.reg false false [⟨some 29, .mov (.s 6), none⟩,
 ⟨some 30, .mov (.s 7), none⟩,
 ⟨some 31, .bin .shr (.s 29) (.s 30), none⟩,
 ⟨some 32, .bin .and (.s 31) (.c (.int .u64 1)), none⟩,
 ⟨some 33, .bin .eql (.s 32) (.c (.int .u64 1)), none⟩])
 (.scope (.cond (.s 33) (.reg true false [⟨some 34, .mov (.s 3), none⟩,
 ⟨some 35, .mov (.s 7), none⟩,
 ⟨some 36, .idxS 1 (.s 34) (.s 35), none⟩,
 ⟨some 37, .load none (.s 36), none⟩,
 ⟨some 38, .mov (.s 6), none⟩,
 ⟨some 39, .mov (.s 7), none⟩,
 ⟨some 40, .bin .shl (.c (.int .u64 1)) (.s 39), none⟩,
 ⟨some 41, .bin .andNot (.s 38) (.s 40), none⟩,
 ⟨some 42, .bin .or (.s 37) (.s 41), none⟩,
 ⟨some 43, .idxS 1 (.s 34) (.s 35), none⟩,
 ⟨none, .store 1 (.s 43) (.s 42), none⟩])
 (.skip))))))
 (.reg false false [⟨some 44, .bin .add (.s 26) (.c (.int .i64 1)), none⟩,
 ⟨some 26, .mov (.s 44), none⟩])))))))))))
 (.reg false false [⟨some 45, .bin .add (.s 15) (.c (.int .i64 1)), none⟩,
 ⟨some 15, .mov (.s 45), none⟩]))))))))
 (.seq (.reg false false [⟨some 46, .mov (.s 3), none⟩,
 ⟨some 2, .mov (.s 46), none⟩])
 (.ret))))
theorem zed : zeG mC 153 = some (47, zcQ, [.tmp 2], false) := zaw (by kernel_rfl)
theorem zcG {p0 : S_net_network} {r : (List Int)} (h : zaR p0 = some r) : Lx.Fn mC 153 [(.agg [(dI p0.net.grain), (fzE false zab p0.net.nodes), (fzE false (eI .i64) p0.cards), (fzE false (eI .u64) p0.sets), (fzE false (eI .i64) p0.order)])] (fzE true (eI .u64) r) := by
  refine Fn.of zed (zav rfl) (Nat.le_of_ble_eq_true rfl) ?_
  unfold zaR at h
  unfold zcQ
  refine zaa ?_
  obtain ⟨y1, g2, h⟩ := bind_some h
  try simp only [rnA, Nat.reduceEqDiff, Nat.reduceLT, reduceCtorEq, zax, (zbd g2).1.1, (zbd g2).1.2, Int.le_refl, (show List.replicate (Int.toNat (p0.sets.length : Int)) [(dU 0)] = y1.map ((eI .u64).c true) from zcR g2 ((eI .u64).c true))]
  obtain ⟨o25, j25, h⟩ := bind_some h
  obtain ⟨T25, hT25⟩ : ∃ T : (List Int) → LSt, T = (fun a => ⟨47, [(3, (.sl 1 0 1 (Int.toNat (p0.sets.length : Int)) (some (Int.toNat (p0.sets.length : Int))) (Int.toNat (p0.sets.length : Int))))], [.gone, .els 1 (a.map ((eI .u64).c true))]⟩) := ⟨_, rfl⟩
  refine EvL.jn T25 (fun a => a = o25 ∧ a.length = (Int.toNat (p0.sets.length : Int))) ?_ ?_
  · refine zaa ?_
    simp only [rnA]
    obtain ⟨T42, hT42⟩ : ∃ T : (Int × (List Int)) → LSt, T = (fun a => ⟨47, [(3, (.sl 1 0 1 (Int.toNat (p0.sets.length : Int)) (some (Int.toNat (p0.sets.length : Int))) (Int.toNat (p0.sets.length : Int)))), (13, (fzE false (eI .u64) p0.sets)), (14, (dI (p0.sets.length : Int))), (15, (dI a.1))], [.gone, .els 1 (a.2.map ((eI .u64).c true))]⟩) := ⟨_, rfl⟩
    refine EvL.rounds (α := (Int × (List Int))) T42 (fun n a => zaO p0 n a.1 a.2 = some o25 ∧ a.2.length = (Int.toNat (p0.sets.length : Int))) ((p0.sets.length : Int) - 0 + 2 : Int).toNat (0, y1) (by rw [hT42]; exact zam.m0 [.d, .k] rfl (ms rfl rfl (ms rfl trivial (ms rfl trivial (ms rfl trivial trivial)))) ⟨rfl, ⟨MB.es (eI .u64) true y1, trivial⟩⟩) ⟨j25, zcx g2⟩ (fun _ h => nomatch (show (none : Option (List Int)) = some o25 from h.1)) ?_
    · rintro n ⟨v15, l1⟩ ⟨j25, el1⟩
      simp only [zaO] at j25
      rw [congrFun hT42 (v15, l1)]
      refine zaa ?_
      try simp only [rnA, Nat.reduceEqDiff, Nat.reduceLT]
      cases c3 : (decide (v15 < (p0.sets.length : Int)))
      · rw [c3, cond_false] at j25
        try simp only [rnA]
        replace j25 := Option.some.inj j25; subst j25
        exact ⟨_, ⟨rfl, el1⟩, by rw [hT25]; exact zam.m0 [.d, .k] rfl (ms rfl rfl trivial) ⟨rfl, ⟨MB.es (eI .u64) true l1, trivial⟩⟩⟩
      · rw [c3, cond_true] at j25
        obtain ⟨x4, g5, j25⟩ := bind_some j25
        obtain ⟨q6, g7, j25⟩ := bind_some j25
        try simp only [rnA, Nat.reduceEqDiff, Nat.reduceLT, zak (n := 1) (e := (eI .u64)) rfl g5, (za9 g7).1, (za9 g7).2, el1]
        obtain ⟨o46, j46, j25⟩ := bind_some j25
        obtain ⟨T46, hT46⟩ : ∃ T : (List Int) → LSt, T = (fun a => ⟨47, [(3, (.sl 1 0 1 (Int.toNat (p0.sets.length : Int)) (some (Int.toNat (p0.sets.length : Int))) (Int.toNat (p0.sets.length : Int)))), (13, (fzE false (eI .u64) p0.sets)), (14, (dI (p0.sets.length : Int))), (15, (dI v15))], [.gone, .els 1 (a.map ((eI .u64).c true))]⟩) := ⟨_, rfl⟩
        refine EvL.jn T46 (fun a => a = o46 ∧ a.length = (Int.toNat (p0.sets.length : Int))) ?_ ?_
        · refine zaa ?_
          simp only [rnA]
          obtain ⟨T49, hT49⟩ : ∃ T : (Int × (List Int)) → LSt, T = (fun a => ⟨47, [(3, (.sl 1 0 1 (Int.toNat (p0.sets.length : Int)) (some (Int.toNat (p0.sets.length : Int))) (Int.toNat (p0.sets.length : Int)))), (6, (dU (orI .u64 x4 q6))), (13, (fzE false (eI .u64) p0.sets)), (14, (dI (p0.sets.length : Int))), (15, (dI v15)), (25, (dI (((Int.toNat (p0.sets.length : Int)) : Nat) : Int))), (26, (dI a.1))], [.gone, .els 1 (a.2.map ((eI .u64).c true))]⟩) := ⟨_, rfl⟩
          refine EvL.rounds (α := (Int × (List Int))) T49 (fun n a => zaN p0 x4 q6 n a.1 a.2 = some o46 ∧ a.2.length = (Int.toNat (p0.sets.length : Int))) ((((Int.toNat (p0.sets.length : Int)) : Nat) : Int) - 0 + 2 : Int).toNat (0, l1) (by rw [hT49]; exact zam.m0 [.d, .k] rfl (ms rfl rfl (ms rfl trivial (ms rfl trivial (ms rfl trivial (ms rfl trivial (ms rfl trivial (ms rfl trivial trivial))))))) ⟨rfl, ⟨MB.es (eI .u64) true l1, trivial⟩⟩) ⟨j46, el1⟩ (fun _ h => nomatch (show (none : Option (List Int)) = some o46 from h.1)) ?_
          · rintro n ⟨v26, l1'⟩ ⟨j46, el1'⟩
            simp only [zaN] at j46
            rw [congrFun hT49 (v26, l1')]
            refine zaa ?_
            try simp only [rnA, Nat.reduceEqDiff, Nat.reduceLT]
            cases c8 : (decide (v26 < (((Int.toNat (p0.sets.length : Int)) : Nat) : Int)))
            · rw [c8, cond_false] at j46
              try simp only [rnA, Nat.reduceEqDiff, Nat.reduceLT, reduceCtorEq]
              replace j46 := Option.some.inj j46; subst j46
              exact ⟨_, ⟨rfl, el1'⟩, by rw [hT46]; exact zam.m0 [.d, .k] rfl (ms rfl rfl (ms rfl trivial (ms rfl trivial (ms rfl trivial trivial)))) ⟨rfl, ⟨MB.es (eI .u64) true l1', trivial⟩⟩⟩
            · rw [c8, cond_true] at j46
              obtain ⟨q9, g10, j46⟩ := bind_some j46
              try simp only [rnA, Nat.reduceEqDiff, Nat.reduceLT, (zaf g10).1, (zaf g10).2]
              obtain ⟨o50, j50, j46⟩ := bind_some j46
              obtain ⟨T50, hT50⟩ : ∃ T : (List Int) → LSt, T = (fun a => ⟨47, [(3, (.sl 1 0 1 (Int.toNat (p0.sets.length : Int)) (some (Int.toNat (p0.sets.length : Int))) (Int.toNat (p0.sets.length : Int)))), (6, (dU (orI .u64 x4 q6))), (13, (fzE false (eI .u64) p0.sets)), (14, (dI (p0.sets.length : Int))), (15, (dI v15)), (25, (dI (((Int.toNat (p0.sets.length : Int)) : Nat) : Int))), (26, (dI v26))], [.gone, .els 1 (a.map ((eI .u64).c true))]⟩) := ⟨_, rfl⟩
              refine EvL.jn T50 (fun a => a = o50 ∧ a.length = (Int.toNat (p0.sets.length : Int))) ?_ ?_
              · refine zaa ?_
                try simp only [rnA, Nat.reduceEqDiff]
                cases c11 : ((zbM .u64 q9 1) == 1)
                · rw [c11, cond_false] at j50
                  try simp only [rnA]
                  replace j50 := Option.some.inj j50; subst j50
                  exact ⟨_, ⟨rfl, el1'⟩, by rw [hT50]; exact zam.m0 [.d, .k] rfl (ms rfl rfl (ms rfl trivial (ms rfl trivial (ms rfl trivial (ms rfl trivial (ms rfl trivial (ms rfl trivial trivial))))))) ⟨rfl, ⟨MB.es (eI .u64) true l1', trivial⟩⟩⟩
                · rw [c11, cond_true] at j50
                  obtain ⟨x12, g13, j50⟩ := bind_some j50
                  obtain ⟨q14, g15, j50⟩ := bind_some j50
                  obtain ⟨y16, g17, j50⟩ := bind_some j50
                  try simp only [rnA, Nat.reduceEqDiff, Nat.reduceLT, Nat.reduceLeDiff, el1', zbS g13, (show v26 < (((Int.toNat (p0.sets.length : Int)) : Nat) : Int) from el1' ▸ zcm g13), zbu g13 ((eI .u64).c true), (za9 g15).2, (show (l1'.map ((eI .u64).c true)).set v26.toNat [(dU (orI .u64 x12 (zsr .u64 (orI .u64 x4 q6) q14)))] = y16.map ((eI .u64).c true) from zcs g17 ((eI .u64).c true))]
                  replace j50 := Option.some.inj j50; subst j50
                  exact ⟨_, ⟨rfl, (zcc g17).trans el1'⟩, by rw [hT50]; exact zam.m0 [.d, .k] rfl (ms rfl rfl (ms rfl trivial (ms rfl trivial (ms rfl trivial (ms rfl trivial (ms rfl trivial (ms rfl trivial trivial))))))) ⟨rfl, ⟨MB.es (eI .u64) true y16, trivial⟩⟩⟩
              · rintro l1'' ⟨rfl, el1''⟩
                rw [congrFun hT50 l1'']
                refine zaa ?_
                try simp only [rnA, Nat.reduceEqDiff, Nat.reduceLT]
                exact ⟨((w64 (v26 + 1)), l1''), ⟨j46, el1''⟩, by rw [hT49]; exact zam.m0 [.d, .k] rfl (ms rfl rfl (ms rfl trivial (ms rfl trivial (ms rfl trivial (ms rfl trivial (ms rfl trivial (ms rfl trivial trivial))))))) ⟨rfl, ⟨MB.es (eI .u64) true l1'', trivial⟩⟩⟩
        · rintro l1' ⟨rfl, el1'⟩
          rw [congrFun hT46 l1']
          refine zaa ?_
          try simp only [rnA, Nat.reduceEqDiff, Nat.reduceLT]
          exact ⟨((w64 (v15 + 1)), l1'), ⟨j25, el1'⟩, by rw [hT42]; exact zam.m0 [.d, .k] rfl (ms rfl rfl (ms rfl trivial (ms rfl trivial (ms rfl trivial trivial)))) ⟨rfl, ⟨MB.es (eI .u64) true l1', trivial⟩⟩⟩
  · rintro l1 ⟨rfl, el1⟩
    rw [congrFun hT25 l1]
    refine zaa ?_
    try simp only [rnA, Nat.reduceEqDiff, Nat.reduceLT]
    replace h := Option.some.inj h; subst h
    exact zdj.ret rfl (zb8 (e := (eI .u64)) (t := true) rfl (.inl rfl) (el1).symm (el1).symm (fun k h => by cases h; exact Nat.le_refl _) (fun _ => rfl))
end Go.Dc
namespace Go.Dc
open Go Go.Mx Go.Lx Go.Proofs
set_option maxRecDepth 100000
set_option maxHeartbeats 4000000
def zc2 (p0 : S_api_Net) : Option ((List Int) × Int) :=
(zbE p0).bind fun r1 =>
bif (r1.2 == 0) then (
(zaR r1.1).bind fun r4 =>
some (r4, 0))
else (
some ([], r1.2))
def zgI : C :=
 .seq (.reg false false [⟨some 1, .box (.s 0), none⟩,
 ⟨some 2, .mov (.c (.slice none 0 0)), none⟩,
 ⟨some 3, .mov (.c (.int .i64 0)), none⟩])
 (.seq (.reg false false [⟨some 7, .load (some 2) (.s 1), none⟩,
 ⟨some 8, .call 145 [(.s 7)], none⟩,
 ⟨some 6, .mov (.s 8), none⟩,
 ⟨some 9, .ext (.s 6) 0, none⟩,
 ⟨some 10, .ext (.s 6) 1, none⟩,
 ⟨some 4, .alloc [(.int .i64 0), (.slice none 0 0), (.slice none 0 0), (.slice none 0 0), (.slice none 0 0)], none⟩,
 ⟨none, .store 5 (.s 4) (.s 9), none⟩,
 ⟨some 5, .mov (.s 10), none⟩])
 (.seq (.seq (.reg false false [⟨some 11, .mov (.s 5), none⟩,
 ⟨some 12, .bin .neq (.s 11) (.c (.int .i64 0)), none⟩])
 (.cond (.s 12) (.seq (.reg false false [⟨some 13, .mov (.s 5), none⟩,
 ⟨some 2, .mov (.c (.slice none 0 0)), none⟩,
 ⟨some 3, .mov (.s 13), none⟩])
 (.ret))
 (.skip)))
 (.seq (.reg false false [⟨some 14, .load (some 5) (.s 4), none⟩,
 ⟨some 15, .call 153 [(.s 14)], none⟩,
 ⟨some 2, .mov (.s 15), none⟩,
 ⟨some 3, .mov (.c (.int .i64 0)), none⟩])
 (.ret))))
theorem ziy : zeG mC 56 = some (16, zgI, [.tmp 2, .tmp 3], false) := zaw (by kernel_rfl)
theorem zjL {p0 : S_api_Net} {r : ((List Int) × Int)} (h : zc2 p0 = some r) : Lx.Fn mC 56 [(.agg [(dI p0.grain), (fzE false zab p0.nodes)])] (.tup [(fzE true (eI .u64) r.1), (dI r.2)]) := by
  refine Fn.of ziy (zav rfl) (Nat.le_of_ble_eq_true rfl) ?_
  unfold zc2 at h
  unfold zgI
  refine zaa ?_
  obtain ⟨r1, g2, h⟩ := bind_some h
  try simp only [rnA, Nat.reduceEqDiff, Nat.reduceLT, Nat.reduceAdd, Nat.reduceLeDiff, reduceCtorEq]
  refine EvL.fnS (zcP g2) rfl rfl (.cons (Mzs.agg (.cons (.lit _) (.cons (zet _ _ (fun h => by cases h <;> contradiction)) .nil))) .nil) ⟨⟨trivial, (za3 _ _), trivial⟩, trivial⟩ ⟨⟨trivial, (za3 _ _), (za3 _ _), (za3 _ _), (za3 _ _), trivial⟩, trivial, trivial⟩ ?_
  try simp only [rnA, Nat.reduceEqDiff, Nat.reduceLT, Nat.reduceAdd, Nat.reduceLeDiff, reduceCtorEq]
  cases c3 : (r1.2 == 0)
  · rw [c3, cond_false] at h
    try simp only [rnA, Nat.reduceEqDiff, Nat.reduceLT, reduceCtorEq]
    replace h := Option.some.inj h; subst h
    exact zdj.ret rfl (Snp.zg0 (.cons (zaQ (eI .u64)) (.cons (.lit _) .nil)))
  · rw [c3, cond_true] at h
    obtain ⟨r4, g5, h⟩ := bind_some h
    try simp only [rnA, Nat.reduceEqDiff, Nat.reduceLT, Nat.reduceAdd, Nat.reduceLeDiff, reduceCtorEq]
    refine EvL.fn (zcG g5) rfl rfl (.cons (.zgT (.cons (.lit _) (.cons (zaq _ _ (fun h => nomatch h)) (.cons (zaq _ _ (fun h => nomatch h)) (.cons (zaq _ _ (fun h => nomatch h)) (.cons (zaq _ _ (fun h => nomatch h)) .nil)))))) .nil) ?_
    try simp only [rnA, Nat.reduceEqDiff, Nat.reduceLT, reduceCtorEq]
    replace h := Option.some.inj h; subst h
    exact zdj.ret rfl (Snp.zg0 (.cons (zaq _ _ (fun _ => rfl)) (.cons (.lit _) .nil)))
end Go.Dc
namespace Go.Dc
open Go Go.Mx Go.Lx Go.Proofs
set_option maxRecDepth 100000
set_option maxHeartbeats 4000000
def zbF (p0 : S_api_Net) (p1 : Int) : Option (Int × Int) :=
(zbE p0).bind fun r1 =>
bif (r1.2 == 0) then (
((bif (decide (p1 < 0)) then (
some true)
else (
some (decide ((r1.1.net.nodes.length : Int) ≤ p1))) : Option Bool)).bind fun v25 =>
bif v25 then (
some (0, 2))
else (
(zaR r1.1).bind fun r6 =>
(zbn r6 p1).bind fun x8 =>
some (x8, 0)))
else (
some (0, r1.2))
def zfb : C :=
 .seq (.reg false false [⟨some 2, .box (.s 0), none⟩,
 ⟨some 4, .mov (.c (.int .u64 0)), none⟩,
 ⟨some 5, .mov (.c (.int .i64 0)), none⟩])
 (.seq (.reg false false [⟨some 9, .load (some 2) (.s 2), none⟩,
 ⟨some 10, .call 145 [(.s 9)], none⟩,
 ⟨some 8, .mov (.s 10), none⟩,
 ⟨some 11, .ext (.s 8) 0, none⟩,
 ⟨some 12, .ext (.s 8) 1, none⟩,
 ⟨some 6, .alloc [(.int .i64 0), (.slice none 0 0), (.slice none 0 0), (.slice none 0 0), (.slice none 0 0)], none⟩,
 ⟨none, .store 5 (.s 6) (.s 11), none⟩,
 ⟨some 7, .mov (.s 12), none⟩])
 (.seq (.seq (.reg false false [⟨some 13, .mov (.s 7), none⟩,
 ⟨some 14, .bin .neq (.s 13) (.c (.int .i64 0)), none⟩])
 (.cond (.s 14) (.seq (.reg false false [⟨some 15, .mov (.s 7), none⟩,
 ⟨some 4, .mov (.c (.int .u64 0)), none⟩,
 ⟨some 5, .mov (.s 15), none⟩])
 (.ret))
 (.skip)))
 (.seq (.seq (.scope (.reg false false [⟨some 16, .mov (.s 1), none⟩,
 ⟨some 17, .bin .lss (.s 16) (.c (.int .i64 0)), none⟩,
 ⟨some 18, .mov (.s 17), none⟩,
 ⟨some 19, .mov (.s 1), some (18, false)⟩,
 ⟨some 20, .fld 0 (.s 6), some (18, false)⟩,
 ⟨some 21, .fld 1 (.s 20), some (18, false)⟩,
 ⟨some 22, .load none (.s 21), some (18, false)⟩,
 ⟨some 23, .len (.s 22), some (18, false)⟩,
 ⟨some 24, .bin .geq (.s 19) (.s 23), some (18, false)⟩,
 ⟨some 25, .pick (.s 18) (.c (.bool true)) (.s 24), none⟩]))
 (.cond (.s 25) (.seq (.reg false false [⟨some 4, .mov (.c (.int .u64 0)), none⟩,
 ⟨some 5, .mov (.c (.int .i64 2)), none⟩])
 (.ret))
 (.skip)))
 (.seq (.reg false false [⟨some 26, .load (some 5) (.s 6), none⟩,
 ⟨some 27, .call 153 [(.s 26)], none⟩,
 ⟨some 28, .mov (.s 1), none⟩,
 ⟨some 29, .idxS 1 (.s 27) (.s 28), none⟩,
 ⟨some 30, .load none (.s 29), none⟩,
 ⟨some 4, .mov (.s 30), none⟩,
 ⟨some 5, .mov (.c (.int .i64 0)), none⟩])
 (.ret)))))
theorem zgo : zeG mC 61 = some (31, zfb, [.tmp 4, .tmp 5], false) := zaw (by kernel_rfl)
theorem zg6 {p0 : S_api_Net} {p1 : Int} {r : (Int × Int)} (h : zbF p0 p1 = some r) : Lx.Fn mC 61 [(.agg [(dI p0.grain), (fzE false zab p0.nodes)]), (dI p1)] (.tup [(dU r.1), (dI r.2)]) := by
  refine Fn.of zgo (zav rfl) (Nat.le_of_ble_eq_true rfl) ?_
  unfold zbF at h
  unfold zfb
  refine zaa ?_
  obtain ⟨r1, g2, h⟩ := bind_some h
  try simp only [rnA, Nat.reduceEqDiff, Nat.reduceLT, Nat.reduceAdd, Nat.reduceLeDiff, reduceCtorEq]
  refine EvL.fnS (zcP g2) rfl rfl (.cons (Mzs.agg (.cons (.lit _) (.cons (zet _ _ (fun h => by cases h <;> contradiction)) .nil))) .nil) ⟨⟨trivial, (za3 _ _), trivial⟩, trivial⟩ ⟨⟨trivial, (za3 _ _), (za3 _ _), (za3 _ _), (za3 _ _), trivial⟩, trivial, trivial⟩ ?_
  try simp only [rnA, Nat.reduceEqDiff, Nat.reduceLT, Nat.reduceAdd, Nat.reduceLeDiff, reduceCtorEq]
  cases c3 : (r1.2 == 0)
  · rw [c3, cond_false] at h
    try simp only [rnA, Nat.reduceEqDiff, Nat.reduceLT, reduceCtorEq]
    replace h := Option.some.inj h; subst h
    exact zdj.ret rfl (Snp.zg0 (.cons (.lit _) (.cons (.lit _) .nil)))
  · rw [c3, cond_true] at h
    try simp only [rnA]
    obtain ⟨o1, j1, h⟩ := bind_some h
    obtain ⟨T1, hT1⟩ : ∃ T : Bool → LSt, T = (fun a => ⟨31, [(1, (dI p1)), (6, (.ptr 1 0)), (25, (dB a))], [.gone, .cells [(dI r1.1.net.grain), (fzE false zab r1.1.net.nodes), (fzE false (eI .i64) r1.1.cards), (fzE false (eI .u64) r1.1.sets), (fzE false (eI .i64) r1.1.order)]]⟩) := ⟨_, rfl⟩
    refine EvL.jn T1 (fun a => a = o1) ?_ ?_
    · refine zaa ?_
      try simp only [rnA, Nat.reduceEqDiff, Nat.reduceLT, reduceCtorEq]
      cases c4 : (decide (p1 < 0))
      · rw [c4, cond_false] at j1
        try simp only [rnA, Nat.reduceEqDiff, Nat.reduceLT, reduceCtorEq, zax]
        replace j1 := Option.some.inj j1; subst j1
        exact ⟨_, rfl, by rw [hT1]; exact zam.m0 [.d, .k] rfl (ms rfl trivial (ms rfl rfl (ms rfl trivial trivial))) ⟨rfl, ⟨MB.cs ⟨trivial, trivial, trivial, trivial, trivial, trivial⟩, trivial⟩⟩⟩
      · rw [c4, cond_true] at j1
        try simp only [rnA, Nat.reduceEqDiff, Nat.reduceLT, reduceCtorEq]
        replace j1 := Option.some.inj j1; subst j1
        exact ⟨_, rfl, by rw [hT1]; exact zam.m0 [.d, .k] rfl (ms rfl trivial (ms rfl rfl (ms rfl trivial trivial))) ⟨rfl, ⟨MB.cs ⟨trivial, trivial, trivial, trivial, trivial, trivial⟩, trivial⟩⟩⟩
    · rintro v25 rfl
      rw [congrFun hT1 v25]
      refine zaa ?_
      try simp only [rnA, Nat.reduceEqDiff]
      cases c5 : v25
      · rw [c5, cond_false] at h
        obtain ⟨r6, g7, h⟩ := bind_some h
        try simp only [rnA, Nat.reduceEqDiff, Nat.reduceLT, Nat.reduceAdd, Nat.reduceLeDiff]
        refine EvL.fn (zcG g7) rfl rfl (.cons (.zgT (.cons (.lit _) (.cons (zaq _ _ (fun h => nomatch h)) (.cons (zaq _ _ (fun h => nomatch h)) (.cons (zaq _ _ (fun h => nomatch h)) (.cons (zaq _ _ (fun h => nomatch h)) .nil)))))) .nil) ?_
        obtain ⟨x8, g9, h⟩ := bind_some h
        try simp only [rnA, Nat.reduceEqDiff, Nat.reduceLT, zak (n := 1) (e := (eI .u64)) rfl g9]
        replace h := Option.some.inj h; subst h
        exact zdj.ret rfl (Snp.zg0 (.cons (.lit _) (.cons (.lit _) .nil)))
      · rw [c5, cond_true] at h
        try simp only [rnA, Nat.reduceLT]
        replace h := Option.some.inj h; subst h
        exact zdj.ret rfl (Snp.zg0 (.cons (.lit _) (.cons (.lit _) .nil)))
end Go.Dc
namespace Go.Dc
open Go Go.Mx Go.Lx
def zq8 (ms : List Nat) (v : Nat) : Nat := ms.getD v 0 ||| 2 ^ v
theorem zpM {F i j : Nat} (hF : F < 18446744073709551616) (hi : i < 64) : (diff F (2 ^ i)).testBit j = (F.testBit j && !decide (i = j)) := by
  rw [zfU hF (Nat.pow_lt_pow_right (n := 64) (by decide) hi), Nat.testBit_two_pow]
theorem zhZ {p0 : S_net_network} {n x w : Nat} {ds0 : List Nat} (hr : p0.sets.length = n) (hn : n ≤ 8) (hx : x < 18446744073709551616) (hw : w < 18446744073709551616) : ∀ (m k : Nat) (ds : List Nat), ds.length = n → (∀ d ∈ ds, d < 18446744073709551616) →
    (∀ i j, i < n → (ds.getD i 0).testBit j = ((ds0.getD i 0).testBit j || (decide (i < k) && (x ||| w).testBit i && (x ||| w).testBit j && !decide (i = j)))) → k ≤ n → n - k < m →
    ∃ ds', ds'.length = n ∧ (∀ d ∈ ds', d < 18446744073709551616) ∧ (∀ i j, i < n → (ds'.getD i 0).testBit j = ((ds0.getD i 0).testBit j || ((x ||| w).testBit i && (x ||| w).testBit j && !decide (i = j)))) ∧
      zaN p0 (x : Int) (w : Int) m (k : Int) (iL ds) = some (iL ds')
  | 0, _, _, _, _, _, _, h => absurd h (Nat.not_lt_zero _)
  | m + 1, k, ds, h1, h2, h3, h4, h5 => by
    unfold zaN
    have hF : x ||| w < 18446744073709551616 := Nat.or_lt_two_pow (n := 64) hx hw
    rw [hr, Int.toNat_natCast, zay, orU hx hw]
    by_cases hk : k < n
    · obtain ⟨q, q1, q2⟩ := znG (a := x ||| w) (v := k) hF (by omega)
      rw [decide_eq_true hk, cond_true, q1, Option.bind_some, q2]
      have hd := zdY h2 k
      cases hb : (x ||| w).testBit k with
      | false =>
        obtain ⟨ds', f1, f2, f3, f4⟩ := zhZ (p0 := p0) (ds0 := ds0) hr hn hx hw m (k + 1) ds h1 h2 (fun i j hi => by
          rw [h3 i j hi]
          by_cases hik : i = k
          · subst hik; simp [hb]
          · have : decide (i < k + 1) = decide (i < k) := by simp; omega
            rw [this]) hk (by omega)
        refine ⟨ds', f1, f2, f3, ?_⟩
        rw [show ((((false : Bool).toNat : Nat) : Int) == 1) = false from rfl, cond_false, Option.bind_some, zao (by omega), f4]
      | true =>
        have hor : ds.getD k 0 ||| diff (x ||| w) (2 ^ k) < 18446744073709551616 := Nat.or_lt_two_pow (n := 64) hd (zit _ _)
        obtain ⟨ds', f1, f2, f3, f4⟩ := zhZ (p0 := p0) (ds0 := ds0) hr hn hx hw m (k + 1) (ds.set k (ds.getD k 0 ||| diff (x ||| w) (2 ^ k))) (by simpa using h1)
          (fun d hd => by
            rcases List.mem_or_eq_of_mem_set hd with hd | hd
            · exact h2 d hd
            · rw [hd]; exact hor)
          (fun i j hi => by
            rw [zly (by omega)]
            by_cases hik : k = i
            · subst hik
              rw [if_pos rfl, Nat.testBit_or, h3 k j hi, zpM hF (by omega), hb]
              simp
            · rw [if_neg hik, h3 i j hi]
              have : decide (i < k + 1) = decide (i < k) := by simp; omega
              rw [this]) hk (by omega)
        refine ⟨ds', f1, f2, f3, ?_⟩
        rw [show ((((true : Bool).toNat : Nat) : Int) == 1) = true from rfl, cond_true, zeV (by omega), Option.bind_some, zqX (by omega), Option.bind_some, zuY, orU hd (zit _ _), zhN (by omega), Option.bind_some, Option.bind_some, zao (by omega), f4]
    · refine ⟨ds, h1, h2, fun i j hi => ?_, by rw [decide_eq_false hk, cond_false]⟩
      rw [h3 i j hi, decide_eq_true (show i < k by omega), Bool.true_and]
theorem zkZ {p0 : S_net_network} {ms : List Nat} (hr : p0.sets = iL ms) (hn : ms.length ≤ 8) (hm : ∀ m ∈ ms, m < 18446744073709551616) : ∀ (m k : Nat) (ds : List Nat), ds.length = ms.length → (∀ d ∈ ds, d < 18446744073709551616) →
    (∀ i j, i < ms.length → ((ds.getD i 0).testBit j = true ↔ i ≠ j ∧ ∃ u, u < k ∧ (zq8 ms u).testBit i = true ∧ (zq8 ms u).testBit j = true)) → k ≤ ms.length → ms.length - k < m →
    ∃ ds', ds'.length = ms.length ∧ (∀ d ∈ ds', d < 18446744073709551616) ∧ (∀ i j, i < ms.length → ((ds'.getD i 0).testBit j = true ↔ i ≠ j ∧ ∃ u, u < ms.length ∧ (zq8 ms u).testBit i = true ∧ (zq8 ms u).testBit j = true)) ∧
      zaO p0 m (k : Int) (iL ds) = some (iL ds')
  | 0, _, _, _, _, _, _, h => absurd h (Nat.not_lt_zero _)
  | m + 1, k, ds, h1, h2, h3, h4, h5 => by
    unfold zaO
    have hrl : p0.sets.length = ms.length := by rw [hr, zaL]
    rw [hrl, zay]
    by_cases hk : k < ms.length
    · have hpw : 2 ^ k < 18446744073709551616 := Nat.pow_lt_pow_right (n := 64) (by decide) (by omega)
      obtain ⟨d1, g1, g2, g3, g4⟩ := zhZ (p0 := p0) (x := ms.getD k 0) (w := 2 ^ k) (ds0 := ds) hrl hn (zdY hm k) hpw (ms.length + 2) 0 ds h1 h2 (fun i j hi => by simp) (Nat.zero_le _) (by omega)
      obtain ⟨ds', f1, f2, f3, f4⟩ := zkZ hr hn hm m (k + 1) d1 g1 g2 (fun i j hi => by
        rw [g3 i j hi, Bool.or_eq_true_iff, h3 i j hi]
        constructor
        · rintro (⟨a1, u, a2, a3⟩ | a)
          · exact ⟨a1, u, by omega, a3⟩
          · simp only [Bool.and_eq_true, Bool.not_eq_true', decide_eq_false_iff_not] at a
            exact ⟨a.2, k, by omega, a.1.1, a.1.2⟩
        · rintro ⟨a1, u, a2, a3, a4⟩
          by_cases huk : u = k
          · subst huk
            right
            simp only [Bool.and_eq_true, Bool.not_eq_true', decide_eq_false_iff_not]
            exact ⟨⟨a3, a4⟩, a1⟩
          · exact .inl ⟨a1, u, by omega, a3, a4⟩) hk (by omega)
      refine ⟨ds', f1, f2, f3, ?_⟩
      rw [show ((0 : Nat) : Int) = 0 from rfl] at g4
      rw [decide_eq_true hk, cond_true, hr, zeV hk, Option.bind_some, zqX (by omega), Option.bind_some, Int.toNat_natCast, zba, g4, Option.bind_some, zao (by omega), f4]
    · have : k = ms.length := by omega
      subst this
      exact ⟨ds, h1, h2, h3, by rw [decide_eq_false hk, cond_false]⟩
structure MoralOk (ms ds : List Nat) : Prop where
  len : ds.length = ms.length
  lt : ∀ d ∈ ds, d < 18446744073709551616
  bit : ∀ i j, i < ms.length → ((ds.getD i 0).testBit j = true ↔ i ≠ j ∧ ∃ u, u < ms.length ∧ (zq8 ms u).testBit i = true ∧ (zq8 ms u).testBit j = true)
theorem znX {p0 : S_net_network} {ms : List Nat} (hr : p0.sets = iL ms) (hn : ms.length ≤ 8) (hm : ∀ m ∈ ms, m < 18446744073709551616) : ∃ ds, MoralOk ms ds ∧ zaR p0 = some (iL ds) := by
  obtain ⟨ds, d1, d2, d3, d4⟩ := zkZ hr hn hm (ms.length + 2) 0 (List.replicate ms.length 0) (by simp) (fun d hd => by rw [(List.mem_replicate.1 hd).2]; decide)
    (fun i j hi => by simp [List.getElem?_replicate]; split <;> simp) (Nat.zero_le _) (by omega)
  refine ⟨ds, ⟨d1, d2, d3⟩, ?_⟩
  have hz : List.replicate ms.length (0 : Int) = iL (List.replicate ms.length 0) := by simp [iL]
  rw [show ((0 : Nat) : Int) = 0 from rfl] at d4
  unfold zaR
  rw [hr, zaL, zfD (by omega), Option.bind_some, zba, hz, d4, Option.bind_some]
theorem zqx {num : List Nat} {g : Nat} {ns : List NN} (h : NetOk num g ns) : ∃ ds, MoralOk (zai ns) ds ∧ zc2 (zdD g ns) = some (iL ds, 0) ∧
    ∀ v, v < ns.length → zbF (zdD g ns) (v : Int) = some (((ds.getD v 0 : Nat) : Int), 0) := by
  have hml : (zai ns).length = ns.length := by simp [zai]
  have hn := h.n2
  obtain ⟨os, _, _, e2⟩ := ziu h
  obtain ⟨ds, k1, k2⟩ := znX (p0 := ⟨zdD g ns, iL (ns.map (·.c)), iL (zai ns), iL os⟩) (ms := zai ns) rfl (by omega) h.zee
  refine ⟨ds, k1, ?_, fun v hv => ?_⟩
  · unfold zc2
    rw [e2, Option.bind_some]
    simp only []
    rw [show ((0 : Int) == 0) = true from rfl, cond_true, k2, Option.bind_some]
  · unfold zbF
    have hl := k1.len
    rw [e2, Option.bind_some]
    simp only []
    rw [show ((0 : Int) == 0) = true from rfl, cond_true, show decide ((v : Int) < 0) = false from decide_eq_false (by omega), cond_false, Option.bind_some, show (zdD g ns).nodes.length = ns.length by simp [zdD],
      show decide (((ns.length : Nat) : Int) ≤ (v : Int)) = false from decide_eq_false (by omega), cond_false, k2, Option.bind_some, zeV (by omega), Option.bind_some]
end Go.Dc
namespace Go.Dc
open Go Go.Mx Go.Lx Go.Proofs
set_option maxRecDepth 100000
set_option maxHeartbeats 4000000
def zaA (p0 : (List Int)) (p1 : Int) : Nat → Int → Option (Out Unit Int)
  | 0, _ => none
  | n+1, v8 => (
bif (decide (v8 < (p0.length : Int))) then (
(zbn p0 v8).bind fun x2 =>
bif (p1 == x2) then (
some (.ret v8))
else (
zaA p0 p1 n (w64 (v8 + 1))))
else (
some (.go ())))
def za5 (p0 : (List Int)) (p1 : Int) : Option Int :=
((zaA p0 p1 ((p0.length : Int) - 0 + 2 : Int).toNat 0 : Option (Out Unit Int))).bind fun o => match o with
| .go _ => (
some (-1))
| .ret r => some r
def zch : C :=
 .seq (.reg false false [⟨some 4, .mov (.c (.int .i64 0)), none⟩])
 (.seq (.seq (.reg false false [⟨some 6, .mov (.s 0), none⟩,
 ⟨some 7, .len (.s 6), none⟩,
 ⟨some 8, .mov (.c (.int .i64 0)), none⟩])
 (.scope (.block 0 (.loop (.seq (.reg false false [⟨some 9, .bin .lss (.s 8) (.s 7), none⟩])
 (.seq (.cond (.s 9) (.skip)
 (.exit 0))
 (.seq (.block 1 (.seq (.reg false false [⟨some 10, .mov (.s 8), none⟩,
 ⟨some 5, .mov (.s 10), none⟩])
 (.seq (.reg false false [⟨some 11, .mov (.s 1), none⟩,
 ⟨some 12, .mov (.s 0), none⟩,
 ⟨some 13, .mov (.s 5), none⟩,
 ⟨some 14, .idxS 1 (.s 12) (.s 13), none⟩,
 ⟨some 15, .load none (.s 14), none⟩,
 ⟨some 16, .bin .eql (.s 11) (.s 15), none⟩])
 (.cond (.s 16) (.seq (.reg false false [⟨some 17, .mov (.s 5), none⟩,
 ⟨some 4, .mov (.s 17), none⟩])
 (.ret))
 (.skip)))))
 (.reg false false [⟨some 18, .bin .add (.s 8) (.c (.int .i64 1)), none⟩,
 ⟨some 8, .mov (.s 18), none⟩]))))))))
 (.seq (.reg false false [⟨some 4, .mov (.c (.int .i64 (-1))), none⟩])
 (.ret)))
theorem zdn : zeG mC 155 = some (19, zch, [.tmp 4], false) := zaw (by kernel_rfl)
theorem zdF {p0 : (List Int)} {p1 : Int} {r : Int} (h : za5 p0 p1 = some r) : Lx.Fn mC 155 [(fzE false (eI .i64) p0), (dI p1)] (dI r) := by
  refine Fn.of zdn (zav rfl) (Nat.le_of_ble_eq_true rfl) ?_
  unfold za5 at h
  unfold zch
  refine zaa ?_
  try simp only [rnA, Nat.reduceEqDiff, Nat.reduceLT, Nat.reduceAdd, reduceCtorEq, zax]
  obtain ⟨o1, j1, h⟩ := bind_some h
  obtain ⟨T1, hT1⟩ : ∃ T : Unit → LSt, T = (fun a => ⟨19, [], []⟩) := ⟨_, rfl⟩
  refine EvL.jn T1 (fun a => o1 = .go a) ?_ ?_
  · refine zaa ?_
    simp only [rnA]
    obtain ⟨T2, hT2⟩ : ∃ T : Int → LSt, T = (fun a => ⟨19, [(0, (fzE false (eI .i64) p0)), (1, (dI p1)), (7, (dI (p0.length : Int))), (8, (dI a))], []⟩) := ⟨_, rfl⟩
    refine EvL.rounds (α := Int) T2 (fun n a => zaA p0 p1 n a = some o1) ((p0.length : Int) - 0 + 2 : Int).toNat 0 (by rw [hT2]; exact zam.m0 [] rfl (ms rfl trivial (ms rfl trivial (ms rfl trivial (ms rfl trivial trivial)))) trivial) j1 (fun _ h => nomatch (show (none : Option (Out Unit Int)) = some o1 from h)) ?_
    · rintro n v8 j1
      simp only [zaA] at j1
      rw [congrFun hT2 v8]
      refine zaa ?_
      try simp only [rnA, Nat.reduceEqDiff, Nat.reduceLT, reduceCtorEq]
      cases c1 : (decide (v8 < (p0.length : Int)))
      · rw [c1, cond_false] at j1
        try simp only [rnA]
        replace j1 := Option.some.inj j1; subst j1
        exact ⟨_, rfl, by rw [hT1]; exact zam.m0 [] rfl trivial trivial⟩
      · rw [c1, cond_true] at j1
        obtain ⟨x2, g3, j1⟩ := bind_some j1
        try simp only [rnA, Nat.reduceEqDiff, Nat.reduceLT, reduceCtorEq, zak (n := 1) (e := (eI .i64)) rfl g3]
        cases c4 : (p1 == x2)
        · rw [c4, cond_false] at j1
          try simp only [rnA, Nat.reduceEqDiff, Nat.reduceLT, reduceCtorEq]
          exact ⟨(w64 (v8 + 1)), j1, by rw [hT2]; exact zam.m0 [] rfl (ms rfl trivial (ms rfl trivial (ms rfl trivial (ms rfl trivial trivial)))) trivial⟩
        · rw [c4, cond_true] at j1
          try simp only [rnA, Nat.reduceEqDiff, Nat.reduceLT, reduceCtorEq]
          replace j1 := Option.some.inj j1; subst j1
          dsimp only at h
          replace h := Option.some.inj h; subst h
          exact zdj.ret rfl (.lit _)
  · rintro ⟨⟩ rfl
    dsimp only at h
    rw [congrFun hT1 ()]
    refine zaa ?_
    try simp only [rnA, Nat.reduceLT]
    replace h := Option.some.inj h; subst h
    exact zdj.ret rfl (.lit _)
end Go.Dc
namespace Go.Dc
open Go Go.Mx Go.Lx Go.Proofs
set_option maxRecDepth 100000
set_option maxHeartbeats 4000000
def zan (p0 : (List Int)) (p1 : Int) : Option Bool :=
(za5 p0 p1).bind fun r1 =>
some (decide (0 ≤ r1))
def zbO : C :=
 .seq (.reg false false [⟨some 4, .mov (.c (.bool false)), none⟩])
 (.seq (.reg false false [⟨some 5, .mov (.s 0), none⟩,
 ⟨some 6, .mov (.s 1), none⟩,
 ⟨some 7, .call 155 [(.s 5), (.s 6)], none⟩,
 ⟨some 8, .bin .geq (.s 7) (.c (.int .i64 0)), none⟩,
 ⟨some 4, .mov (.s 8), none⟩])
 (.ret))
theorem zc1 : zeG mC 66 = some (9, zbO, [.tmp 4], false) := zaw (by kernel_rfl)
theorem zaP {p0 : (List Int)} {p1 : Int} {r : Bool} (h : zan p0 p1 = some r) : Lx.Fn mC 66 [(fzE false (eI .i64) p0), (dI p1)] (dB r) := by
  refine Fn.of zc1 (zav rfl) (Nat.le_of_ble_eq_true rfl) ?_
  unfold zan at h
  unfold zbO
  refine zaa ?_
  obtain ⟨r1, g2, h⟩ := bind_some h
  try simp only [rnA, Nat.reduceEqDiff, Nat.reduceLT, Nat.reduceAdd, reduceCtorEq]
  refine EvL.fn (zdF g2) rfl rfl (.cons (zaq _ _ (fun h => nomatch h)) (.cons (.lit _) .nil)) ?_
  try simp only [rnA, Nat.reduceEqDiff, Nat.reduceLT, reduceCtorEq]
  replace h := Option.some.inj h; subst h
  exact zdj.ret rfl (.lit _)
end Go.Dc
namespace Go.Dc
open Go Go.Mx Go.Lx Go.Proofs
set_option maxRecDepth 100000
set_option maxHeartbeats 4000000
def zbp (N : Nat) (r6 : ((List Int) × Int)) (r4 : S_api_Net) (v54 : Int) (r17 : (Int × Int)) (r8 : ((List Int) × Int)) : Nat → Int → Option (Out Unit Bool)
  | 0, _ => none
  | n+1, v103 => (
bif (decide (v103 < (r6.1.length : Int))) then (
(zjj .u64 1 v103).bind fun q33 =>
(zbw N r4 q33).bind fun r35 =>
((bif (r35.2 == 0) then (
(zc7 .u64 r35.1 v54).bind fun q38 =>
(zc7 .u64 r17.1 v103).bind fun q40 =>
bif ((zbM .u64 q38 1) == 1) then (
bif ((zbM .u64 q40 1) == 1) then (
(zbn r6.1 v54).bind fun x98 =>
(zc7 .u64 x98 v103).bind fun q100 =>
(zbn r6.1 v103).bind fun x102 =>
(zc7 .u64 x102 v54).bind fun q104 =>
bif ((zbM .u64 q100 1) == 1) then (
bif ((zbM .u64 q104 1) == 1) then (
(zbn r8.1 v54).bind fun x130 =>
(zc7 .u64 x130 v103).bind fun q132 =>
(zbn r4.nodes v54).bind fun x134 =>
(zan x134.parents v103).bind fun r136 =>
bif ((zbM .u64 q132 1) == 1) then (
bif r136 then (
(zc7 .u64 x130 v103).bind fun q146 =>
bif ((zbM .u64 q146 1) == 1) then (
(zc7 .u64 x98 v103).bind fun q149 =>
some ((zbM .u64 q149 1) == 0))
else (
some false))
else (
some true))
else (
bif r136 then (
some true)
else (
(zc7 .u64 x130 v103).bind fun q140 =>
bif ((zbM .u64 q140 1) == 1) then (
(zc7 .u64 x98 v103).bind fun q143 =>
some ((zbM .u64 q143 1) == 0))
else (
some false))))
else (
some true))
else (
bif ((zbM .u64 q104 1) == 1) then (
some true)
else (
(zbn r8.1 v54).bind fun x108 =>
(zc7 .u64 x108 v103).bind fun q110 =>
(zbn r4.nodes v54).bind fun x112 =>
(zan x112.parents v103).bind fun r114 =>
bif ((zbM .u64 q110 1) == 1) then (
bif r114 then (
(zc7 .u64 x108 v103).bind fun q124 =>
bif ((zbM .u64 q124 1) == 1) then (
(zc7 .u64 x98 v103).bind fun q127 =>
some ((zbM .u64 q127 1) == 0))
else (
some false))
else (
some true))
else (
bif r114 then (
some true)
else (
(zc7 .u64 x108 v103).bind fun q118 =>
bif ((zbM .u64 q118 1) == 1) then (
(zc7 .u64 x98 v103).bind fun q121 =>
some ((zbM .u64 q121 1) == 0))
else (
some false))))))
else (
some true))
else (
bif ((zbM .u64 q40 1) == 1) then (
some true)
else (
(zbn r6.1 v54).bind fun x44 =>
(zc7 .u64 x44 v103).bind fun q46 =>
(zbn r6.1 v103).bind fun x48 =>
(zc7 .u64 x48 v54).bind fun q50 =>
bif ((zbM .u64 q46 1) == 1) then (
bif ((zbM .u64 q50 1) == 1) then (
(zbn r8.1 v54).bind fun x76 =>
(zc7 .u64 x76 v103).bind fun q78 =>
(zbn r4.nodes v54).bind fun x80 =>
(zan x80.parents v103).bind fun r82 =>
bif ((zbM .u64 q78 1) == 1) then (
bif r82 then (
(zc7 .u64 x76 v103).bind fun q92 =>
bif ((zbM .u64 q92 1) == 1) then (
(zc7 .u64 x44 v103).bind fun q95 =>
some ((zbM .u64 q95 1) == 0))
else (
some false))
else (
some true))
else (
bif r82 then (
some true)
else (
(zc7 .u64 x76 v103).bind fun q86 =>
bif ((zbM .u64 q86 1) == 1) then (
(zc7 .u64 x44 v103).bind fun q89 =>
some ((zbM .u64 q89 1) == 0))
else (
some false))))
else (
some true))
else (
bif ((zbM .u64 q50 1) == 1) then (
some true)
else (
(zbn r8.1 v54).bind fun x54 =>
(zc7 .u64 x54 v103).bind fun q56 =>
(zbn r4.nodes v54).bind fun x58 =>
(zan x58.parents v103).bind fun r60 =>
bif ((zbM .u64 q56 1) == 1) then (
bif r60 then (
(zc7 .u64 x54 v103).bind fun q70 =>
bif ((zbM .u64 q70 1) == 1) then (
(zc7 .u64 x44 v103).bind fun q73 =>
some ((zbM .u64 q73 1) == 0))
else (
some false))
else (
some true))
else (
bif r60 then (
some true)
else (
(zc7 .u64 x54 v103).bind fun q64 =>
bif ((zbM .u64 q64 1) == 1) then (
(zc7 .u64 x44 v103).bind fun q67 =>
some ((zbM .u64 q67 1) == 0))
else (
some false))))))))
else (
some true) : Option Bool)).bind fun v185 =>
bif v185 then (
some (.ret false))
else (
zbp N r6 r4 v54 r17 r8 n (w64 (v103 + 1))))
else (
some (.go ())))
def zbo (N : Nat) (r6 : ((List Int) × Int)) (r4 : S_api_Net) (r8 : ((List Int) × Int)) : Nat → Int → Option (Out Unit Bool)
  | 0, _ => none
  | n+1, v54 => (
bif (decide (v54 < (r6.1.length : Int))) then (
(zjj .u64 1 v54).bind fun q15 =>
(zbf N r4 q15).bind fun r17 =>
(zbF r4 v54).bind fun r19 =>
((bif (r17.2 == 0) then (
bif (r19.2 == 0) then (
(zbn r6.1 v54).bind fun x23 =>
bif (r19.1 == x23) then (
(zc7 .u64 x23 v54).bind fun q26 =>
bif ((zbM .u64 q26 1) == 1) then (
some true)
else (
(zc7 .u64 r17.1 v54).bind fun q29 =>
some ((zbM .u64 q29 1) == 0)))
else (
some true))
else (
some true))
else (
some true) : Option Bool)).bind fun v100 =>
bif v100 then (
some (.ret false))
else (
((zbp N r6 r4 v54 r17 r8 ((r6.1.length : Int) - 0 + 2 : Int).toNat 0 : Option (Out Unit Bool))).bind fun o => match o with
| .go _ => (
zbo N r6 r4 r8 n (w64 (v54 + 1)))
| .ret r => some (.ret r)))
else (
some (.go ())))
def zcI (N : Nat) (p0 : S_haruspexref05_Draft) : Option Bool :=
(zkJ).bind fun r1 =>
bif r1 then (
(zbz N p0).bind fun r4 =>
(zc2 r4).bind fun r6 =>
(zcJ r4).bind fun r8 =>
((bif (r6.2 == 0) then (
bif (r8.2 == 0) then (
bif ((r6.1.length : Int) == (r4.nodes.length : Int)) then (
some (!((r8.1.length : Int) == (r4.nodes.length : Int))))
else (
some true))
else (
some true))
else (
some true) : Option Bool)).bind fun v51 =>
bif v51 then (
some false)
else (
((zbo N r6 r4 r8 ((r6.1.length : Int) - 0 + 2 : Int).toNat 0 : Option (Out Unit Bool))).bind fun o => match o with
| .go _ => (
some true)
| .ret r => some r))
else (
some false)
def ze5 : C :=
 .seq (.reg false false [⟨some 1, .box (.s 0), none⟩,
 ⟨some 2, .mov (.c (.bool false)), none⟩])
 (.seq (.seq (.reg false false [⟨some 16, .call 37 [], none⟩,
 ⟨some 17, .un .not (.s 16), none⟩])
 (.cond (.s 17) (.seq (.reg false false [⟨some 2, .mov (.c (.bool false)), none⟩])
 (.ret))
 (.skip)))
 (.seq (.reg false false [⟨some 18, .load (some 3) (.s 1), none⟩,
 ⟨some 19, .call 48 [(.s 18)], none⟩,
 ⟨some 3, .alloc [(.int .i64 0), (.slice none 0 0)], none⟩,
 ⟨none, .store 2 (.s 3) (.s 19), none⟩])
 (.seq (.reg false false [⟨some 21, .load (some 2) (.s 3), none⟩,
 ⟨some 22, .call 56 [(.s 21)], none⟩,
 ⟨some 20, .mov (.s 22), none⟩,
 ⟨some 23, .ext (.s 20) 0, none⟩,
 ⟨some 24, .ext (.s 20) 1, none⟩,
 ⟨some 4, .mov (.s 23), none⟩,
 ⟨some 5, .mov (.s 24), none⟩])
 (.seq (.reg false false [⟨some 26, .load (some 2) (.s 3), none⟩,
 ⟨some 27, .call 54 [(.s 26)], none⟩,
 ⟨some 25, .mov (.s 27), none⟩,
 ⟨some 28, .ext (.s 25) 0, none⟩,
 ⟨some 29, .ext (.s 25) 1, none⟩,
 ⟨some 6, .mov (.s 28), none⟩,
 ⟨some 7, .mov (.s 29), none⟩])
 (.seq (.seq (.scope (.reg false false [⟨some 30, .mov (.s 5), none⟩,
 ⟨some 31, .bin .neq (.s 30) (.c (.int .i64 0)), none⟩,
 ⟨some 32, .mov (.s 31), none⟩,
 ⟨some 33, .mov (.s 7), some (32, false)⟩,
 ⟨some 34, .bin .neq (.s 33) (.c (.int .i64 0)), some (32, false)⟩,
 ⟨some 35, .pick (.s 32) (.c (.bool true)) (.s 34), none⟩,
 ⟨some 36, .mov (.s 35), none⟩,
 ⟨some 37, .mov (.s 4), some (36, false)⟩,
 ⟨some 38, .len (.s 37), some (36, false)⟩,
 ⟨some 39, .fld 1 (.s 3), some (36, false)⟩,
 ⟨some 40, .load none (.s 39), some (36, false)⟩,
 ⟨some 41, .len (.s 40), some (36, false)⟩,
 ⟨some 42, .bin .neq (.s 38) (.s 41), some (36, false)⟩,
 ⟨some 43, .pick (.s 36) (.c (.bool true)) (.s 42), none⟩,
 ⟨some 44, .mov (.s 43), none⟩,
 ⟨some 45, .mov (.s 6), some (44, false)⟩,
 ⟨some 46, .len (.s 45), some (44, false)⟩,
 ⟨some 47, .fld 1 (.s 3), some (44, false)⟩,
 ⟨some 48, .load none (.s 47), some (44, false)⟩,
 ⟨some 49, .len (.s 48), some (44, false)⟩,
 ⟨some 50, .bin .neq (.s 46) (.s 49), some (44, false)⟩,
 ⟨some 51, .pick (.s 44) (.c (.bool true)) (.s 50), none⟩]))
 (.cond (.s 51) (.seq (.reg false false [⟨some 2, .mov (.c (.bool false)), none⟩])
 (.ret))
 (.skip)))
 (.seq (.seq (.reg false false [⟨some 52, .mov (.s 4), none⟩,
 ⟨some 53, .len (.s 52), none⟩,
 ⟨some 54, .mov (.c (.int .i64 0)), none⟩])
 (.scope (.block 0 (.loop (.seq (.reg false false [⟨some 55, .bin .lss (.s 54) (.s 53), none⟩])
 (.seq (.cond (.s 55) (.skip)
 (.exit 0))
 (.seq (.block 1 (.seq (.reg false false [⟨some 56, .mov (.s 54), none⟩,
 ⟨some 8, .mov (.s 56), none⟩])
 (.seq (.reg true true [⟨some 58, .load (some 2) (.s 3), none⟩,
 ⟨some 59, .mov (.s 8), none⟩,
 ⟨some 60, .bin .shl (.c (.int .u64 1)) (.s 59), none⟩,
 ⟨some 61, .call 63 [(.s 58), (.s 60)], none⟩,
 ⟨some 57, .mov (.s 61), none⟩,
 ⟨some 62, .ext (.s 57) 0, none⟩,
 ⟨some 63, .ext (.s 57) 1, none⟩,
 ⟨some 9, .mov (.s 62), none⟩,
 ⟨some 10, .mov (.s 63), none⟩])
 (.seq (.reg false false [⟨some 65, .load (some 2) (.s 3), none⟩,
 ⟨some 66, .mov (.s 8), none⟩,
 ⟨some 67, .call 61 [(.s 65), (.s 66)], none⟩,
 ⟨some 64, .mov (.s 67), none⟩,
 ⟨some 68, .ext (.s 64) 0, none⟩,
 ⟨some 69, .ext (.s 64) 1, none⟩,
 ⟨some 11, .mov (.s 68), none⟩,
 ⟨some 12, .mov (.s 69), none⟩])
 (.seq (.seq (.scope (.reg false false [⟨some 70, .mov (.s 10), none⟩,
 ⟨some 71, .bin .neq (.s 70) (.c (.int .i64 0)), none⟩,
 ⟨some 72, .mov (.s 71), none⟩,
 ⟨some 73, .mov (.s 12), some (72, false)⟩,
 ⟨some 74, .bin .neq (.s 73) (.c (.int .i64 0)), some (72, false)⟩,
 ⟨some 75, .pick (.s 72) (.c (.bool true)) (.s 74), none⟩,
 ⟨some 76, .mov (.s 75), none⟩,
 ⟨some 77, .mov (.s 11), some (76, false)⟩,
 ⟨some 78, .mov (.s 4), some (76, false)⟩,
 ⟨some 79, .mov (.s 8), some (76, false)⟩,
 ⟨some 80, .idxS 1 (.s 78) (.s 79), some (76, false)⟩,
 ⟨some 81, .load none (.s 80), some (76, false)⟩,
 ⟨some 82, .bin .neq (.s 77) (.s 81), some (76, false)⟩,
 ⟨some 83, .pick (.s 76) (.c (.bool true)) (.s 82), none⟩,
 ⟨some 84, .mov (.s 83), none⟩,
 ⟨some 85, .mov (.s 4), some (84, false)⟩,
 ⟨some 86, .mov (.s 8), some (84, false)⟩,
 ⟨some 87, .idxS 1 (.s 85) (.s 86), some (84, false)⟩,
 ⟨some 88, .load none (.s 87), some (84, false)⟩,
 ⟨some 89, .mov (.s 8), some (84, false)⟩,
 ⟨some 90, .bin .shr (.s 88) (.s 89), some (84, false)⟩,
 ⟨some 91, .bin .and (.s 90) (.c (.int .u64 1)), some (84, false)⟩,
 ⟨some 92, .bin .eql (.s 91) (.c (.int .u64 1)), some (84, false)⟩,
 ⟨some 93, .pick (.s 84) (.c (.bool true)) (.s 92), none⟩,
 ⟨some 94, .mov (.s 93), none⟩,
 ⟨some 95, .mov (.s 9), some (94, false)⟩,
 ⟨some 96, .mov (.s 8), some (94, false)⟩,
 ⟨some 97, .bin .shr (.s 95) (.s 96), some (94, false)⟩,
 ⟨some 98, .bin .and (.s 97) (.c (.int .u64 1)), some (94, false)⟩,
 ⟨some 99, .bin .eql (.s 98) (.c (.int .u64 0)), some (94, false)⟩,
 ⟨some 100, .pick (.s 94) (.c (.bool true)) (.s 99), none⟩]))
 (.cond (.s 100) (.seq (.reg false false [⟨some 2, .mov (.c (.bool false)), none⟩])
 (.ret))
 (.skip)))
 (.seq (.reg false false [⟨some 101, .mov (.s 4), none⟩,
 ⟨some 102, .len (.s 101), none⟩,
 ⟨some 103, .mov (.c (.int .i64 0)), none⟩])
 (.scope (.block 2 (.loop (.seq (.reg false false [⟨some 104, .bin .lss (.s 103) (.s 102), none⟩])
 (.seq (.cond (.s 104) (.skip)
 (.exit 2))
 (.seq (.block 3 (.seq (.reg false false [⟨some 105, .mov (.s 103), none⟩,
 ⟨some 13, .mov (.s 105), none⟩])
 (.seq (.reg true true [⟨some 107, .load (some 2) (.s 3), none⟩,
 ⟨some 108, .mov (.s 13), none⟩,
 ⟨some 109, .bin .shl (.c (.int .u64 1)) (.s 108), none⟩,
 ⟨some 110, .call 62 [(.s 107), (.s 109)], none⟩,
 ⟨some 106, .mov (.s 110), none⟩,
 ⟨some 111, .ext (.s 106) 0, none⟩,
 ⟨some 112, .ext (.s 106) 1, none⟩,
 ⟨some 14, .mov (.s 111), none⟩,
 ⟨some 15, .mov (.s 112), none⟩])
 (.seq (.scope (.reg true true [⟨some 113, .mov (.s 15), none⟩,
 ⟨some 114, .bin .neq (.s 113) (.c (.int .i64 0)), none⟩,
 ⟨some 115, .mov (.s 114), none⟩,
 ⟨some 116, .mov (.s 14), some (115, false)⟩,
 ⟨some 117, .mov (.s 8), some (115, false)⟩,
 ⟨some 118, .bin .shr (.s 116) (.s 117), some (115, false)⟩,
 ⟨some 119, .bin .and (.s 118) (.c (.int .u64 1)), some (115, false)⟩,
 ⟨some 120, .bin .eql (.s 119) (.c (.int .u64 1)), some (115, false)⟩,
 ⟨some 121, .mov (.s 9), some (115, false)⟩,
 ⟨some 122, .mov (.s 13), some (115, false)⟩,
 ⟨some 123, .bin .shr (.s 121) (.s 122), some (115, false)⟩,
 ⟨some 124, .bin .and (.s 123) (.c (.int .u64 1)), some (115, false)⟩,
 ⟨some 125, .bin .eql (.s 124) (.c (.int .u64 1)), some (115, false)⟩,
 ⟨some 126, .eqb true (.s 120) (.s 125), some (115, false)⟩,
 ⟨some 127, .pick (.s 115) (.c (.bool true)) (.s 126), none⟩,
 ⟨some 128, .mov (.s 127), none⟩,
 ⟨some 129, .mov (.s 4), some (128, false)⟩,
 ⟨some 130, .mov (.s 8), some (128, false)⟩,
 ⟨some 131, .idxS 1 (.s 129) (.s 130), some (128, false)⟩,
 ⟨some 132, .load none (.s 131), some (128, false)⟩,
 ⟨some 133, .mov (.s 13), some (128, false)⟩,
 ⟨some 134, .bin .shr (.s 132) (.s 133), some (128, false)⟩,
 ⟨some 135, .bin .and (.s 134) (.c (.int .u64 1)), some (128, false)⟩,
 ⟨some 136, .bin .eql (.s 135) (.c (.int .u64 1)), some (128, false)⟩,
 ⟨some 137, .mov (.s 4), some (128, false)⟩,
 ⟨some 138, .mov (.s 13), some (128, false)⟩,
 ⟨some 139, .idxS 1 (.s 137) (.s 138), some (128, false)⟩,
 ⟨some 140, .load none (.s 139), some (128, false)⟩,
 ⟨some 141, .mov (.s 8), some (128, false)⟩,
 ⟨some 142, .bin .shr (.s 140) (.s 141), some (128, false)⟩,
 ⟨some 143, .bin .and (.s 142) (.c (.int .u64 1)), some (128, false)⟩,
 ⟨some 144, .bin .eql (.s 143) (.c (.int .u64 1)), some (128, false)⟩,
 ⟨some 145, .eqb true (.s 136) (.s 144), some (128, false)⟩,
 ⟨some 146, .pick (.s 128) (.c (.bool true)) (.s 145), none⟩,
 ⟨some 147, .mov (.s 146), none⟩,
 ⟨some 148, .mov (.s 6), some (147, false)⟩,
 ⟨some 149, .mov (.s 8), some (147, false)⟩,
 ⟨some 150, .idxS 1 (.s 148) (.s 149), some (147, false)⟩,
 ⟨some 151, .load none (.s 150), some (147, false)⟩,
 ⟨some 152, .mov (.s 13), some (147, false)⟩,
 ⟨some 153, .bin .shr (.s 151) (.s 152), some (147, false)⟩,
 ⟨some 154, .bin .and (.s 153) (.c (.int .u64 1)), some (147, false)⟩,
 ⟨some 155, .bin .eql (.s 154) (.c (.int .u64 1)), some (147, false)⟩,
 ⟨some 156, .fld 1 (.s 3), some (147, false)⟩,
 ⟨some 157, .load none (.s 156), some (147, false)⟩,
 ⟨some 158, .mov (.s 8), some (147, false)⟩,
 ⟨some 159, .idxS 3 (.s 157) (.s 158), some (147, false)⟩,
 ⟨some 160, .fld 1 (.s 159), some (147, false)⟩,
 ⟨some 161, .load none (.s 160), some (147, false)⟩,
 ⟨some 162, .mov (.s 13), some (147, false)⟩,
 ⟨some 163, .call 66 [(.s 161), (.s 162)], some (147, false)⟩,
 ⟨some 164, .eqb true (.s 155) (.s 163), some (147, false)⟩,
 ⟨some 165, .pick (.s 147) (.c (.bool true)) (.s 164), none⟩,
 ⟨some 166, .mov (.s 165), none⟩,
 ⟨some 167, .mov (.s 6), some (166, false)⟩,
 ⟨some 168, .mov (.s 8), some (166, false)⟩,
 ⟨some 169, .idxS 1 (.s 167) (.s 168), some (166, false)⟩,
 ⟨some 170, .load none (.s 169), some (166, false)⟩,
 ⟨some 171, .mov (.s 13), some (166, false)⟩,
 ⟨some 172, .bin .shr (.s 170) (.s 171), some (166, false)⟩,
 ⟨some 173, .bin .and (.s 172) (.c (.int .u64 1)), some (166, false)⟩,
 ⟨some 174, .bin .eql (.s 173) (.c (.int .u64 1)), some (166, false)⟩,
 ⟨some 175, .mov (.s 174), some (166, false)⟩,
 ⟨some 176, .mov (.s 4), some (175, true)⟩,
 ⟨some 177, .mov (.s 8), some (175, true)⟩,
 ⟨some 178, .idxS 1 (.s 176) (.s 177), some (175, true)⟩,
 ⟨some 179, .load none (.s 178), some (175, true)⟩,
 ⟨some 180, .mov (.s 13), some (175, true)⟩,
 ⟨some 181, .bin .shr (.s 179) (.s 180), some (175, true)⟩,
 ⟨some 182, .bin .and (.s 181) (.c (.int .u64 1)), some (175, true)⟩,
 ⟨some 183, .bin .eql (.s 182) (.c (.int .u64 0)), some (175, true)⟩,
 ⟨some 184, .pick (.s 175) (.s 183) (.c (.bool false)), some (166, false)⟩,
 ⟨some 185, .pick (.s 166) (.c (.bool true)) (.s 184), none⟩]))
 (.cond (.s 185) (.seq (.reg false false [⟨some 2, .mov (.c (.bool false)), none⟩])
 (.ret))
 (.skip))))))
 (.reg false false [⟨some 186, .bin .add (.s 103) (.c (.int .i64 1)), none⟩,
 ⟨some 103, .mov (.s 186), none⟩])))))))))))))
 (.reg false false [⟨some 187, .bin .add (.s 54) (.c (.int .i64 1)), none⟩,
 ⟨some 54, .mov (.s 187), none⟩]))))))))
 (.seq (.reg false false [⟨some 2, .mov (.c (.bool true)), none⟩])
 (.ret))))))))
theorem zgg : zeG mC 9 = some (188, ze5, [.tmp 2], false) := zaw (by kernel_rfl)
theorem zg3 {N : Nat} {p0 : S_haruspexref05_Draft} {r : Bool} (h : zcI N p0 = some r) : Lx.Fn mC 9 [(.agg [(dU8 p0.grain), (fzE false zag p0.nodes), (fzE false (eI .u8) p0.order)])] (dB r) := by
  refine Fn.of zgg (zav rfl) (Nat.le_of_ble_eq_true rfl) ?_
  unfold zcI at h
  unfold ze5
  refine zaa ?_
  obtain ⟨r1, g2, h⟩ := bind_some h
  try simp only [rnA, Nat.reduceLT]
  refine EvL.fn (zpg g2) rfl rfl .nil ?_
  try simp only [rnA, Nat.reduceEqDiff, Nat.reduceLT, reduceCtorEq]
  cases c3 : r1
  · rw [c3, cond_false] at h
    try simp only [rnA, Nat.reduceLT]
    replace h := Option.some.inj h; subst h
    exact zdj.ret rfl (.lit _)
  · rw [c3, cond_true] at h
    obtain ⟨r4, g5, h⟩ := bind_some h
    try simp only [rnA, Nat.reduceEqDiff, Nat.reduceLT, Nat.reduceAdd, Nat.reduceLeDiff, reduceCtorEq]
    refine EvL.fn (zfR g5) rfl rfl (.cons (.zgT (.cons (.lit _) (.cons (zaq _ _ (fun h => nomatch h)) (.cons (zaq _ _ (fun h => nomatch h)) .nil)))) .nil) ?_
    obtain ⟨r6, g7, h⟩ := bind_some h
    try simp only [rnA, Nat.reduceEqDiff, Nat.reduceLT, Nat.reduceAdd, Nat.reduceLeDiff, reduceCtorEq]
    refine EvL.fn (zjL g7) rfl rfl (.cons (.zgT (.cons (.lit _) (.cons (zaq _ _ (fun h => nomatch h)) .nil))) .nil) ?_
    obtain ⟨r8, g9, h⟩ := bind_some h
    try simp only [rnA, Nat.reduceEqDiff, Nat.reduceLT, Nat.reduceAdd, Nat.reduceLeDiff, reduceCtorEq]
    refine EvL.fnS (zg4 g9) rfl rfl (.cons (Mzs.agg (.cons (.lit _) (.cons (zet _ _ (fun h => by cases h <;> contradiction)) .nil))) .nil) ⟨⟨trivial, (za3 _ _), trivial⟩, trivial⟩ ⟨(za3 _ _), trivial, trivial⟩ ?_
    try simp only [rnA, Nat.reduceEqDiff, Nat.reduceLT, reduceCtorEq]
    obtain ⟨o1, j1, h⟩ := bind_some h
    obtain ⟨T1, hT1⟩ : ∃ T : Bool → LSt, T = (fun a => ⟨188, [(3, (.ptr 1 0)), (4, (fzE true (eI .u64) r6.1)), (6, (fzE false (eI .u64) r8.1)), (51, (dB a))], [.gone, .cells [(dI r4.grain), (fzE true zab r4.nodes)]]⟩) := ⟨_, rfl⟩
    refine EvL.jn T1 (fun a => a = o1) ?_ ?_
    · refine zaa ?_
      try simp only [rnA, Nat.reduceEqDiff, Nat.reduceLT, reduceCtorEq]
      cases c10 : (r6.2 == 0)
      · rw [c10, cond_false] at j1
        try simp only [rnA, Nat.reduceEqDiff, Nat.reduceLT, reduceCtorEq]
        replace j1 := Option.some.inj j1; subst j1
        exact ⟨_, rfl, by rw [hT1]; exact zam.m0 [.d, .k] rfl (ms rfl rfl (ms rfl trivial (ms rfl trivial (ms rfl trivial trivial)))) ⟨rfl, ⟨MB.cs ⟨trivial, trivial, trivial⟩, trivial⟩⟩⟩
      · rw [c10, cond_true] at j1
        try simp only [rnA, Nat.reduceEqDiff, Nat.reduceLT, reduceCtorEq]
        cases c11 : (r8.2 == 0)
        · rw [c11, cond_false] at j1
          try simp only [rnA, Nat.reduceEqDiff, Nat.reduceLT, reduceCtorEq]
          replace j1 := Option.some.inj j1; subst j1
          exact ⟨_, rfl, by rw [hT1]; exact zam.m0 [.d, .k] rfl (ms rfl rfl (ms rfl trivial (ms rfl trivial (ms rfl trivial trivial)))) ⟨rfl, ⟨MB.cs ⟨trivial, trivial, trivial⟩, trivial⟩⟩⟩
        · rw [c11, cond_true] at j1
          try simp only [rnA, Nat.reduceEqDiff, Nat.reduceLT, reduceCtorEq, zax]
          cases c12 : ((r6.1.length : Int) == (r4.nodes.length : Int))
          · rw [c12, cond_false] at j1
            try simp only [rnA, Nat.reduceEqDiff, Nat.reduceLT, reduceCtorEq]
            replace j1 := Option.some.inj j1; subst j1
            exact ⟨_, rfl, by rw [hT1]; exact zam.m0 [.d, .k] rfl (ms rfl rfl (ms rfl trivial (ms rfl trivial (ms rfl trivial trivial)))) ⟨rfl, ⟨MB.cs ⟨trivial, trivial, trivial⟩, trivial⟩⟩⟩
          · rw [c12, cond_true] at j1
            try simp only [rnA, Nat.reduceEqDiff, Nat.reduceLT, reduceCtorEq, zax]
            replace j1 := Option.some.inj j1; subst j1
            exact ⟨_, rfl, by rw [hT1]; exact zam.m0 [.d, .k] rfl (ms rfl rfl (ms rfl trivial (ms rfl trivial (ms rfl trivial trivial)))) ⟨rfl, ⟨MB.cs ⟨trivial, trivial, trivial⟩, trivial⟩⟩⟩
    · rintro v51 rfl
      rw [congrFun hT1 v51]
      refine zaa ?_
      try simp only [rnA, Nat.reduceEqDiff]
      cases c13 : v51
      · rw [c13, cond_false] at h
        try simp only [rnA, Nat.reduceEqDiff, Nat.reduceLT, zax]
        obtain ⟨o29, j29, h⟩ := bind_some h
        obtain ⟨T29, hT29⟩ : ∃ T : Unit → LSt, T = (fun a => ⟨188, [], []⟩) := ⟨_, rfl⟩
        refine EvL.jn T29 (fun a => o29 = .go a) ?_ ?_
        · refine zaa ?_
          simp only [rnA]
          obtain ⟨T48, hT48⟩ : ∃ T : Int → LSt, T = (fun a => ⟨188, [(3, (.ptr 1 0)), (4, (fzE true (eI .u64) r6.1)), (6, (fzE false (eI .u64) r8.1)), (53, (dI (r6.1.length : Int))), (54, (dI a))], [.gone, .cells [(dI r4.grain), (fzE true zab r4.nodes)]]⟩) := ⟨_, rfl⟩
          refine EvL.rounds (α := Int) T48 (fun n a => zbo N r6 r4 r8 n a = some o29) ((r6.1.length : Int) - 0 + 2 : Int).toNat 0 (by rw [hT48]; exact zam.m0 [.d, .k] rfl (ms rfl rfl (ms rfl trivial (ms rfl trivial (ms rfl trivial (ms rfl trivial trivial))))) ⟨rfl, ⟨MB.cs ⟨trivial, trivial, trivial⟩, trivial⟩⟩) j29 (fun _ h => nomatch (show (none : Option (Out Unit Bool)) = some o29 from h)) ?_
          · rintro n v54 j29
            simp only [zbo] at j29
            rw [congrFun hT48 v54]
            refine zaa ?_
            try simp only [rnA, Nat.reduceEqDiff, Nat.reduceLT]
            cases c14 : (decide (v54 < (r6.1.length : Int)))
            · rw [c14, cond_false] at j29
              try simp only [rnA]
              replace j29 := Option.some.inj j29; subst j29
              exact ⟨_, rfl, by rw [hT29]; exact zam.m0 [] rfl trivial trivial⟩
            · rw [c14, cond_true] at j29
              obtain ⟨q15, g16, j29⟩ := bind_some j29
              obtain ⟨r17, g18, j29⟩ := bind_some j29
              try simp only [rnA, Nat.reduceEqDiff, Nat.reduceLT, Nat.reduceAdd, Nat.reduceLeDiff, (za9 g16).1, (za9 g16).2]
              refine EvL.fn (ze3 g18) rfl rfl (.cons (.zgT (.cons (.lit _) (.cons (zaq _ _ (fun h => nomatch h)) .nil))) (.cons (.lit _) .nil)) ?_
              obtain ⟨r19, g20, j29⟩ := bind_some j29
              try simp only [rnA, Nat.reduceEqDiff, Nat.reduceLT, Nat.reduceAdd, Nat.reduceLeDiff]
              refine EvL.fn (zg6 g20) rfl rfl (.cons (.zgT (.cons (.lit _) (.cons (zaq _ _ (fun h => nomatch h)) .nil))) (.cons (.lit _) .nil)) ?_
              try simp only [rnA, Nat.reduceEqDiff, Nat.reduceLT]
              obtain ⟨o49, j49, j29⟩ := bind_some j29
              obtain ⟨T49, hT49⟩ : ∃ T : Bool → LSt, T = (fun a => ⟨188, [(3, (.ptr 1 0)), (4, (fzE true (eI .u64) r6.1)), (6, (fzE false (eI .u64) r8.1)), (8, (dI v54)), (9, (dU r17.1)), (53, (dI (r6.1.length : Int))), (54, (dI v54)), (100, (dB a))], [.gone, .cells [(dI r4.grain), (fzE true zab r4.nodes)]]⟩) := ⟨_, rfl⟩
              refine EvL.jn T49 (fun a => a = o49) ?_ ?_
              · refine zaa ?_
                try simp only [rnA, Nat.reduceEqDiff, Nat.reduceLT]
                cases c21 : (r17.2 == 0)
                · rw [c21, cond_false] at j49
                  try simp only [rnA, Nat.reduceEqDiff, Nat.reduceLT]
                  replace j49 := Option.some.inj j49; subst j49
                  exact ⟨_, rfl, by rw [hT49]; exact zam.m0 [.d, .k] rfl (ms rfl rfl (ms rfl trivial (ms rfl trivial (ms rfl trivial (ms rfl trivial (ms rfl trivial (ms rfl trivial (ms rfl trivial trivial)))))))) ⟨rfl, ⟨MB.cs ⟨trivial, trivial, trivial⟩, trivial⟩⟩⟩
                · rw [c21, cond_true] at j49
                  try simp only [rnA, Nat.reduceEqDiff, Nat.reduceLT]
                  cases c22 : (r19.2 == 0)
                  · rw [c22, cond_false] at j49
                    try simp only [rnA, Nat.reduceEqDiff, Nat.reduceLT]
                    replace j49 := Option.some.inj j49; subst j49
                    exact ⟨_, rfl, by rw [hT49]; exact zam.m0 [.d, .k] rfl (ms rfl rfl (ms rfl trivial (ms rfl trivial (ms rfl trivial (ms rfl trivial (ms rfl trivial (ms rfl trivial (ms rfl trivial trivial)))))))) ⟨rfl, ⟨MB.cs ⟨trivial, trivial, trivial⟩, trivial⟩⟩⟩
                  · rw [c22, cond_true] at j49
                    obtain ⟨x23, g24, j49⟩ := bind_some j49
                    try simp only [rnA, Nat.reduceEqDiff, Nat.reduceLT, zak (n := 1) (e := (eI .u64)) rfl g24]
                    cases c25 : (r19.1 == x23)
                    · rw [c25, cond_false] at j49
                      try simp only [rnA, Nat.reduceEqDiff, Nat.reduceLT]
                      replace j49 := Option.some.inj j49; subst j49
                      exact ⟨_, rfl, by rw [hT49]; exact zam.m0 [.d, .k] rfl (ms rfl rfl (ms rfl trivial (ms rfl trivial (ms rfl trivial (ms rfl trivial (ms rfl trivial (ms rfl trivial (ms rfl trivial trivial)))))))) ⟨rfl, ⟨MB.cs ⟨trivial, trivial, trivial⟩, trivial⟩⟩⟩
                    · rw [c25, cond_true] at j49
                      obtain ⟨q26, g27, j49⟩ := bind_some j49
                      try simp only [rnA, Nat.reduceEqDiff, Nat.reduceLT, zak (n := 1) (e := (eI .u64)) rfl g24, (zaf g27).1, (zaf g27).2]
                      cases c28 : ((zbM .u64 q26 1) == 1)
                      · rw [c28, cond_false] at j49
                        obtain ⟨q29, g30, j49⟩ := bind_some j49
                        try simp only [rnA, Nat.reduceEqDiff, Nat.reduceLT, (zaf g30).1, (zaf g30).2]
                        replace j49 := Option.some.inj j49; subst j49
                        exact ⟨_, rfl, by rw [hT49]; exact zam.m0 [.d, .k] rfl (ms rfl rfl (ms rfl trivial (ms rfl trivial (ms rfl trivial (ms rfl trivial (ms rfl trivial (ms rfl trivial (ms rfl trivial trivial)))))))) ⟨rfl, ⟨MB.cs ⟨trivial, trivial, trivial⟩, trivial⟩⟩⟩
                      · rw [c28, cond_true] at j49
                        try simp only [rnA, Nat.reduceEqDiff, Nat.reduceLT]
                        replace j49 := Option.some.inj j49; subst j49
                        exact ⟨_, rfl, by rw [hT49]; exact zam.m0 [.d, .k] rfl (ms rfl rfl (ms rfl trivial (ms rfl trivial (ms rfl trivial (ms rfl trivial (ms rfl trivial (ms rfl trivial (ms rfl trivial trivial)))))))) ⟨rfl, ⟨MB.cs ⟨trivial, trivial, trivial⟩, trivial⟩⟩⟩
              · rintro v100 rfl
                rw [congrFun hT49 v100]
                refine zaa ?_
                try simp only [rnA, Nat.reduceEqDiff]
                cases c31 : v100
                · rw [c31, cond_false] at j29
                  try simp only [rnA, Nat.reduceEqDiff, Nat.reduceLT, zax]
                  obtain ⟨o53, j53, j29⟩ := bind_some j29
                  obtain ⟨T53, hT53⟩ : ∃ T : Unit → LSt, T = (fun a => ⟨188, [(3, (.ptr 1 0)), (4, (fzE true (eI .u64) r6.1)), (6, (fzE false (eI .u64) r8.1)), (53, (dI (r6.1.length : Int))), (54, (dI v54))], [.gone, .cells [(dI r4.grain), (fzE true zab r4.nodes)]]⟩) := ⟨_, rfl⟩
                  refine EvL.jn T53 (fun a => o53 = .go a) ?_ ?_
                  · refine zaa ?_
                    simp only [rnA]
                    obtain ⟨T56, hT56⟩ : ∃ T : Int → LSt, T = (fun a => ⟨188, [(3, (.ptr 1 0)), (4, (fzE true (eI .u64) r6.1)), (6, (fzE false (eI .u64) r8.1)), (8, (dI v54)), (9, (dU r17.1)), (53, (dI (r6.1.length : Int))), (54, (dI v54)), (102, (dI (r6.1.length : Int))), (103, (dI a))], [.gone, .cells [(dI r4.grain), (fzE true zab r4.nodes)]]⟩) := ⟨_, rfl⟩
                    refine EvL.rounds (α := Int) T56 (fun n a => zbp N r6 r4 v54 r17 r8 n a = some o53) ((r6.1.length : Int) - 0 + 2 : Int).toNat 0 (by rw [hT56]; exact zam.m0 [.d, .k] rfl (ms rfl rfl (ms rfl trivial (ms rfl trivial (ms rfl trivial (ms rfl trivial (ms rfl trivial (ms rfl trivial (ms rfl trivial (ms rfl trivial trivial))))))))) ⟨rfl, ⟨MB.cs ⟨trivial, trivial, trivial⟩, trivial⟩⟩) j53 (fun _ h => nomatch (show (none : Option (Out Unit Bool)) = some o53 from h)) ?_
                    · rintro n v103 j53
                      simp only [zbp] at j53
                      rw [congrFun hT56 v103]
                      refine zaa ?_
                      try simp only [rnA, Nat.reduceEqDiff, Nat.reduceLT]
                      cases c32 : (decide (v103 < (r6.1.length : Int)))
                      · rw [c32, cond_false] at j53
                        try simp only [rnA, Nat.reduceEqDiff, Nat.reduceLT, reduceCtorEq]
                        replace j53 := Option.some.inj j53; subst j53
                        exact ⟨_, rfl, by rw [hT53]; exact zam.m0 [.d, .k] rfl (ms rfl rfl (ms rfl trivial (ms rfl trivial (ms rfl trivial (ms rfl trivial trivial))))) ⟨rfl, ⟨MB.cs ⟨trivial, trivial, trivial⟩, trivial⟩⟩⟩
                      · rw [c32, cond_true] at j53
                        obtain ⟨q33, g34, j53⟩ := bind_some j53
                        obtain ⟨r35, g36, j53⟩ := bind_some j53
                        try simp only [rnA, Nat.reduceEqDiff, Nat.reduceLT, Nat.reduceAdd, Nat.reduceLeDiff, (za9 g34).1, (za9 g34).2]
                        refine EvL.fn (zfO g36) rfl rfl (.cons (.zgT (.cons (.lit _) (.cons (zaq _ _ (fun h => nomatch h)) .nil))) (.cons (.lit _) .nil)) ?_
                        try simp only [rnA, Nat.reduceEqDiff, Nat.reduceLT]
                        obtain ⟨o57, j57, j53⟩ := bind_some j53
                        obtain ⟨T57, hT57⟩ : ∃ T : Bool → LSt, T = (fun a => ⟨188, [(3, (.ptr 1 0)), (4, (fzE true (eI .u64) r6.1)), (6, (fzE false (eI .u64) r8.1)), (8, (dI v54)), (9, (dU r17.1)), (53, (dI (r6.1.length : Int))), (54, (dI v54)), (102, (dI (r6.1.length : Int))), (103, (dI v103)), (185, (dB a))], [.gone, .cells [(dI r4.grain), (fzE true zab r4.nodes)]]⟩) := ⟨_, rfl⟩
                        refine EvL.jn T57 (fun a => a = o57) ?_ ?_
                        · refine zaa ?_
                          try simp only [rnA, Nat.reduceEqDiff, Nat.reduceLT]
                          cases c37 : (r35.2 == 0)
                          · rw [c37, cond_false] at j57
                            try simp only [rnA, Nat.reduceEqDiff, Nat.reduceLT]
                            refine EvL.skip rfl ?_
                            try simp only [rnA, Nat.reduceEqDiff, Nat.reduceLT]
                            replace j57 := Option.some.inj j57; subst j57
                            exact ⟨_, rfl, by rw [hT57]; exact zam.m0 [.d, .k] rfl (ms rfl rfl (ms rfl trivial (ms rfl trivial (ms rfl trivial (ms rfl trivial (ms rfl trivial (ms rfl trivial (ms rfl trivial (ms rfl trivial (ms rfl trivial trivial)))))))))) ⟨rfl, ⟨MB.cs ⟨trivial, trivial, trivial⟩, trivial⟩⟩⟩
                          · rw [c37, cond_true] at j57
                            obtain ⟨q38, g39, j57⟩ := bind_some j57
                            obtain ⟨q40, g41, j57⟩ := bind_some j57
                            try simp only [rnA, Nat.reduceEqDiff, Nat.reduceLT, (zaf g39).1, (zaf g39).2, (zaf g41).1, (zaf g41).2]
                            cases c42 : ((zbM .u64 q38 1) == 1)
                            · rw [c42, cond_false] at j57
                              try simp only [rnA, Bool.false_beq]
                              cases c43 : ((zbM .u64 q40 1) == 1)
                              · rw [c43, cond_false] at j57
                                obtain ⟨x44, g45, j57⟩ := bind_some j57
                                obtain ⟨q46, g47, j57⟩ := bind_some j57
                                obtain ⟨x48, g49, j57⟩ := bind_some j57
                                obtain ⟨q50, g51, j57⟩ := bind_some j57
                                try simp only [rnA, Nat.reduceEqDiff, Nat.reduceLT, zak (n := 1) (e := (eI .u64)) rfl g45, (zaf g47).1, (zaf g47).2, zak (n := 1) (e := (eI .u64)) rfl g49, (zaf g51).1, (zaf g51).2]
                                cases c52 : ((zbM .u64 q46 1) == 1)
                                · rw [c52, cond_false] at j57
                                  try simp only [rnA, Bool.false_beq]
                                  cases c53 : ((zbM .u64 q50 1) == 1)
                                  · rw [c53, cond_false] at j57
                                    obtain ⟨x54, g55, j57⟩ := bind_some j57
                                    obtain ⟨q56, g57, j57⟩ := bind_some j57
                                    obtain ⟨x58, g59, j57⟩ := bind_some j57
                                    obtain ⟨r60, g61, j57⟩ := bind_some j57
                                    try simp only [rnA, Nat.reduceEqDiff, Nat.reduceLT, Nat.reduceAdd, Nat.reduceLeDiff, zaB, zak (n := 1) (e := (eI .u64)) rfl g55, (zaf g57).1, (zaf g57).2, zak (n := 3) (e := zab) rfl g59]
                                    refine EvL.fn (zaP g61) rfl rfl (.cons (zaq _ _ (fun h => nomatch h)) (.cons (.lit _) .nil)) ?_
                                    try simp only [rnA, Nat.reduceEqDiff, Nat.reduceLT]
                                    cases c62 : ((zbM .u64 q56 1) == 1)
                                    · rw [c62, cond_false] at j57
                                      try simp only [rnA, Bool.false_beq]
                                      cases c63 : r60
                                      · rw [c63, cond_false] at j57
                                        obtain ⟨q64, g65, j57⟩ := bind_some j57
                                        try simp only [rnA, Nat.reduceEqDiff, Nat.reduceLT, zak (n := 1) (e := (eI .u64)) rfl g55, (zaf g65).1, (zaf g65).2]
                                        cases c66 : ((zbM .u64 q64 1) == 1)
                                        · rw [c66, cond_false] at j57
                                          try simp only [rnA, Nat.reduceEqDiff, Nat.reduceLT]
                                          replace j57 := Option.some.inj j57; subst j57
                                          exact ⟨_, rfl, by rw [hT57]; exact zam.m0 [.d, .k] rfl (ms rfl rfl (ms rfl trivial (ms rfl trivial (ms rfl trivial (ms rfl trivial (ms rfl trivial (ms rfl trivial (ms rfl trivial (ms rfl trivial (ms rfl trivial trivial)))))))))) ⟨rfl, ⟨MB.cs ⟨trivial, trivial, trivial⟩, trivial⟩⟩⟩
                                        · rw [c66, cond_true] at j57
                                          obtain ⟨q67, g68, j57⟩ := bind_some j57
                                          try simp only [rnA, Nat.reduceEqDiff, Nat.reduceLT, zak (n := 1) (e := (eI .u64)) rfl g45, (zaf g68).1, (zaf g68).2]
                                          replace j57 := Option.some.inj j57; subst j57
                                          exact ⟨_, rfl, by rw [hT57]; exact zam.m0 [.d, .k] rfl (ms rfl rfl (ms rfl trivial (ms rfl trivial (ms rfl trivial (ms rfl trivial (ms rfl trivial (ms rfl trivial (ms rfl trivial (ms rfl trivial (ms rfl trivial trivial)))))))))) ⟨rfl, ⟨MB.cs ⟨trivial, trivial, trivial⟩, trivial⟩⟩⟩
                                      · rw [c63, cond_true] at j57
                                        try simp only [rnA, Nat.reduceEqDiff, Nat.reduceLT]
                                        replace j57 := Option.some.inj j57; subst j57
                                        exact ⟨_, rfl, by rw [hT57]; exact zam.m0 [.d, .k] rfl (ms rfl rfl (ms rfl trivial (ms rfl trivial (ms rfl trivial (ms rfl trivial (ms rfl trivial (ms rfl trivial (ms rfl trivial (ms rfl trivial (ms rfl trivial trivial)))))))))) ⟨rfl, ⟨MB.cs ⟨trivial, trivial, trivial⟩, trivial⟩⟩⟩
                                    · rw [c62, cond_true] at j57
                                      try simp only [Bool.true_beq]
                                      cases c69 : r60
                                      · rw [c69, cond_false] at j57
                                        try simp only [rnA, Nat.reduceEqDiff, Nat.reduceLT]
                                        replace j57 := Option.some.inj j57; subst j57
                                        exact ⟨_, rfl, by rw [hT57]; exact zam.m0 [.d, .k] rfl (ms rfl rfl (ms rfl trivial (ms rfl trivial (ms rfl trivial (ms rfl trivial (ms rfl trivial (ms rfl trivial (ms rfl trivial (ms rfl trivial (ms rfl trivial trivial)))))))))) ⟨rfl, ⟨MB.cs ⟨trivial, trivial, trivial⟩, trivial⟩⟩⟩
                                      · rw [c69, cond_true] at j57
                                        obtain ⟨q70, g71, j57⟩ := bind_some j57
                                        try simp only [rnA, Nat.reduceEqDiff, Nat.reduceLT, zak (n := 1) (e := (eI .u64)) rfl g55, (zaf g71).1, (zaf g71).2]
                                        cases c72 : ((zbM .u64 q70 1) == 1)
                                        · rw [c72, cond_false] at j57
                                          try simp only [rnA, Nat.reduceEqDiff, Nat.reduceLT]
                                          replace j57 := Option.some.inj j57; subst j57
                                          exact ⟨_, rfl, by rw [hT57]; exact zam.m0 [.d, .k] rfl (ms rfl rfl (ms rfl trivial (ms rfl trivial (ms rfl trivial (ms rfl trivial (ms rfl trivial (ms rfl trivial (ms rfl trivial (ms rfl trivial (ms rfl trivial trivial)))))))))) ⟨rfl, ⟨MB.cs ⟨trivial, trivial, trivial⟩, trivial⟩⟩⟩
                                        · rw [c72, cond_true] at j57
                                          obtain ⟨q73, g74, j57⟩ := bind_some j57
                                          try simp only [rnA, Nat.reduceEqDiff, Nat.reduceLT, zak (n := 1) (e := (eI .u64)) rfl g45, (zaf g74).1, (zaf g74).2]
                                          replace j57 := Option.some.inj j57; subst j57
                                          exact ⟨_, rfl, by rw [hT57]; exact zam.m0 [.d, .k] rfl (ms rfl rfl (ms rfl trivial (ms rfl trivial (ms rfl trivial (ms rfl trivial (ms rfl trivial (ms rfl trivial (ms rfl trivial (ms rfl trivial (ms rfl trivial trivial)))))))))) ⟨rfl, ⟨MB.cs ⟨trivial, trivial, trivial⟩, trivial⟩⟩⟩
                                  · rw [c53, cond_true] at j57
                                    try simp only [rnA, Nat.reduceEqDiff, Nat.reduceLT]
                                    refine EvL.skip rfl ?_
                                    try simp only [rnA, Nat.reduceEqDiff, Nat.reduceLT]
                                    replace j57 := Option.some.inj j57; subst j57
                                    exact ⟨_, rfl, by rw [hT57]; exact zam.m0 [.d, .k] rfl (ms rfl rfl (ms rfl trivial (ms rfl trivial (ms rfl trivial (ms rfl trivial (ms rfl trivial (ms rfl trivial (ms rfl trivial (ms rfl trivial (ms rfl trivial trivial)))))))))) ⟨rfl, ⟨MB.cs ⟨trivial, trivial, trivial⟩, trivial⟩⟩⟩
                                · rw [c52, cond_true] at j57
                                  try simp only [Bool.true_beq]
                                  cases c75 : ((zbM .u64 q50 1) == 1)
                                  · rw [c75, cond_false] at j57
                                    try simp only [rnA, Nat.reduceEqDiff, Nat.reduceLT]
                                    refine EvL.skip rfl ?_
                                    try simp only [rnA, Nat.reduceEqDiff, Nat.reduceLT]
                                    replace j57 := Option.some.inj j57; subst j57
                                    exact ⟨_, rfl, by rw [hT57]; exact zam.m0 [.d, .k] rfl (ms rfl rfl (ms rfl trivial (ms rfl trivial (ms rfl trivial (ms rfl trivial (ms rfl trivial (ms rfl trivial (ms rfl trivial (ms rfl trivial (ms rfl trivial trivial)))))))))) ⟨rfl, ⟨MB.cs ⟨trivial, trivial, trivial⟩, trivial⟩⟩⟩
                                  · rw [c75, cond_true] at j57
                                    obtain ⟨x76, g77, j57⟩ := bind_some j57
                                    obtain ⟨q78, g79, j57⟩ := bind_some j57
                                    obtain ⟨x80, g81, j57⟩ := bind_some j57
                                    obtain ⟨r82, g83, j57⟩ := bind_some j57
                                    try simp only [rnA, Nat.reduceEqDiff, Nat.reduceLT, Nat.reduceAdd, Nat.reduceLeDiff, zaB, zak (n := 1) (e := (eI .u64)) rfl g77, (zaf g79).1, (zaf g79).2, zak (n := 3) (e := zab) rfl g81]
                                    refine EvL.fn (zaP g83) rfl rfl (.cons (zaq _ _ (fun h => nomatch h)) (.cons (.lit _) .nil)) ?_
                                    try simp only [rnA, Nat.reduceEqDiff, Nat.reduceLT]
                                    cases c84 : ((zbM .u64 q78 1) == 1)
                                    · rw [c84, cond_false] at j57
                                      try simp only [rnA, Bool.false_beq]
                                      cases c85 : r82
                                      · rw [c85, cond_false] at j57
                                        obtain ⟨q86, g87, j57⟩ := bind_some j57
                                        try simp only [rnA, Nat.reduceEqDiff, Nat.reduceLT, zak (n := 1) (e := (eI .u64)) rfl g77, (zaf g87).1, (zaf g87).2]
                                        cases c88 : ((zbM .u64 q86 1) == 1)
                                        · rw [c88, cond_false] at j57
                                          try simp only [rnA, Nat.reduceEqDiff, Nat.reduceLT]
                                          replace j57 := Option.some.inj j57; subst j57
                                          exact ⟨_, rfl, by rw [hT57]; exact zam.m0 [.d, .k] rfl (ms rfl rfl (ms rfl trivial (ms rfl trivial (ms rfl trivial (ms rfl trivial (ms rfl trivial (ms rfl trivial (ms rfl trivial (ms rfl trivial (ms rfl trivial trivial)))))))))) ⟨rfl, ⟨MB.cs ⟨trivial, trivial, trivial⟩, trivial⟩⟩⟩
                                        · rw [c88, cond_true] at j57
                                          obtain ⟨q89, g90, j57⟩ := bind_some j57
                                          try simp only [rnA, Nat.reduceEqDiff, Nat.reduceLT, zak (n := 1) (e := (eI .u64)) rfl g45, (zaf g90).1, (zaf g90).2]
                                          replace j57 := Option.some.inj j57; subst j57
                                          exact ⟨_, rfl, by rw [hT57]; exact zam.m0 [.d, .k] rfl (ms rfl rfl (ms rfl trivial (ms rfl trivial (ms rfl trivial (ms rfl trivial (ms rfl trivial (ms rfl trivial (ms rfl trivial (ms rfl trivial (ms rfl trivial trivial)))))))))) ⟨rfl, ⟨MB.cs ⟨trivial, trivial, trivial⟩, trivial⟩⟩⟩
                                      · rw [c85, cond_true] at j57
                                        try simp only [rnA, Nat.reduceEqDiff, Nat.reduceLT]
                                        replace j57 := Option.some.inj j57; subst j57
                                        exact ⟨_, rfl, by rw [hT57]; exact zam.m0 [.d, .k] rfl (ms rfl rfl (ms rfl trivial (ms rfl trivial (ms rfl trivial (ms rfl trivial (ms rfl trivial (ms rfl trivial (ms rfl trivial (ms rfl trivial (ms rfl trivial trivial)))))))))) ⟨rfl, ⟨MB.cs ⟨trivial, trivial, trivial⟩, trivial⟩⟩⟩
                                    · rw [c84, cond_true] at j57
                                      try simp only [Bool.true_beq]
                                      cases c91 : r82
                                      · rw [c91, cond_false] at j57
                                        try simp only [rnA, Nat.reduceEqDiff, Nat.reduceLT]
                                        replace j57 := Option.some.inj j57; subst j57
                                        exact ⟨_, rfl, by rw [hT57]; exact zam.m0 [.d, .k] rfl (ms rfl rfl (ms rfl trivial (ms rfl trivial (ms rfl trivial (ms rfl trivial (ms rfl trivial (ms rfl trivial (ms rfl trivial (ms rfl trivial (ms rfl trivial trivial)))))))))) ⟨rfl, ⟨MB.cs ⟨trivial, trivial, trivial⟩, trivial⟩⟩⟩
                                      · rw [c91, cond_true] at j57
                                        obtain ⟨q92, g93, j57⟩ := bind_some j57
                                        try simp only [rnA, Nat.reduceEqDiff, Nat.reduceLT, zak (n := 1) (e := (eI .u64)) rfl g77, (zaf g93).1, (zaf g93).2]
                                        cases c94 : ((zbM .u64 q92 1) == 1)
                                        · rw [c94, cond_false] at j57
                                          try simp only [rnA, Nat.reduceEqDiff, Nat.reduceLT]
                                          replace j57 := Option.some.inj j57; subst j57
                                          exact ⟨_, rfl, by rw [hT57]; exact zam.m0 [.d, .k] rfl (ms rfl rfl (ms rfl trivial (ms rfl trivial (ms rfl trivial (ms rfl trivial (ms rfl trivial (ms rfl trivial (ms rfl trivial (ms rfl trivial (ms rfl trivial trivial)))))))))) ⟨rfl, ⟨MB.cs ⟨trivial, trivial, trivial⟩, trivial⟩⟩⟩
                                        · rw [c94, cond_true] at j57
                                          obtain ⟨q95, g96, j57⟩ := bind_some j57
                                          try simp only [rnA, Nat.reduceEqDiff, Nat.reduceLT, zak (n := 1) (e := (eI .u64)) rfl g45, (zaf g96).1, (zaf g96).2]
                                          replace j57 := Option.some.inj j57; subst j57
                                          exact ⟨_, rfl, by rw [hT57]; exact zam.m0 [.d, .k] rfl (ms rfl rfl (ms rfl trivial (ms rfl trivial (ms rfl trivial (ms rfl trivial (ms rfl trivial (ms rfl trivial (ms rfl trivial (ms rfl trivial (ms rfl trivial trivial)))))))))) ⟨rfl, ⟨MB.cs ⟨trivial, trivial, trivial⟩, trivial⟩⟩⟩
                              · rw [c43, cond_true] at j57
                                try simp only [rnA, Nat.reduceEqDiff, Nat.reduceLT]
                                refine EvL.skip rfl ?_
                                try simp only [rnA, Nat.reduceEqDiff, Nat.reduceLT]
                                replace j57 := Option.some.inj j57; subst j57
                                exact ⟨_, rfl, by rw [hT57]; exact zam.m0 [.d, .k] rfl (ms rfl rfl (ms rfl trivial (ms rfl trivial (ms rfl trivial (ms rfl trivial (ms rfl trivial (ms rfl trivial (ms rfl trivial (ms rfl trivial (ms rfl trivial trivial)))))))))) ⟨rfl, ⟨MB.cs ⟨trivial, trivial, trivial⟩, trivial⟩⟩⟩
                            · rw [c42, cond_true] at j57
                              try simp only [Bool.true_beq]
                              cases c97 : ((zbM .u64 q40 1) == 1)
                              · rw [c97, cond_false] at j57
                                try simp only [rnA, Nat.reduceEqDiff, Nat.reduceLT]
                                refine EvL.skip rfl ?_
                                try simp only [rnA, Nat.reduceEqDiff, Nat.reduceLT]
                                replace j57 := Option.some.inj j57; subst j57
                                exact ⟨_, rfl, by rw [hT57]; exact zam.m0 [.d, .k] rfl (ms rfl rfl (ms rfl trivial (ms rfl trivial (ms rfl trivial (ms rfl trivial (ms rfl trivial (ms rfl trivial (ms rfl trivial (ms rfl trivial (ms rfl trivial trivial)))))))))) ⟨rfl, ⟨MB.cs ⟨trivial, trivial, trivial⟩, trivial⟩⟩⟩
                              · rw [c97, cond_true] at j57
                                obtain ⟨x98, g99, j57⟩ := bind_some j57
                                obtain ⟨q100, g101, j57⟩ := bind_some j57
                                obtain ⟨x102, g103, j57⟩ := bind_some j57
                                obtain ⟨q104, g105, j57⟩ := bind_some j57
                                try simp only [rnA, Nat.reduceEqDiff, Nat.reduceLT, zak (n := 1) (e := (eI .u64)) rfl g99, (zaf g101).1, (zaf g101).2, zak (n := 1) (e := (eI .u64)) rfl g103, (zaf g105).1, (zaf g105).2]
                                cases c106 : ((zbM .u64 q100 1) == 1)
                                · rw [c106, cond_false] at j57
                                  try simp only [rnA, Bool.false_beq]
                                  cases c107 : ((zbM .u64 q104 1) == 1)
                                  · rw [c107, cond_false] at j57
                                    obtain ⟨x108, g109, j57⟩ := bind_some j57
                                    obtain ⟨q110, g111, j57⟩ := bind_some j57
                                    obtain ⟨x112, g113, j57⟩ := bind_some j57
                                    obtain ⟨r114, g115, j57⟩ := bind_some j57
                                    try simp only [rnA, Nat.reduceEqDiff, Nat.reduceLT, Nat.reduceAdd, Nat.reduceLeDiff, zaB, zak (n := 1) (e := (eI .u64)) rfl g109, (zaf g111).1, (zaf g111).2, zak (n := 3) (e := zab) rfl g113]
                                    refine EvL.fn (zaP g115) rfl rfl (.cons (zaq _ _ (fun h => nomatch h)) (.cons (.lit _) .nil)) ?_
                                    try simp only [rnA, Nat.reduceEqDiff, Nat.reduceLT]
                                    cases c116 : ((zbM .u64 q110 1) == 1)
                                    · rw [c116, cond_false] at j57
                                      try simp only [rnA, Bool.false_beq]
                                      cases c117 : r114
                                      · rw [c117, cond_false] at j57
                                        obtain ⟨q118, g119, j57⟩ := bind_some j57
                                        try simp only [rnA, Nat.reduceEqDiff, Nat.reduceLT, zak (n := 1) (e := (eI .u64)) rfl g109, (zaf g119).1, (zaf g119).2]
                                        cases c120 : ((zbM .u64 q118 1) == 1)
                                        · rw [c120, cond_false] at j57
                                          try simp only [rnA, Nat.reduceEqDiff, Nat.reduceLT]
                                          replace j57 := Option.some.inj j57; subst j57
                                          exact ⟨_, rfl, by rw [hT57]; exact zam.m0 [.d, .k] rfl (ms rfl rfl (ms rfl trivial (ms rfl trivial (ms rfl trivial (ms rfl trivial (ms rfl trivial (ms rfl trivial (ms rfl trivial (ms rfl trivial (ms rfl trivial trivial)))))))))) ⟨rfl, ⟨MB.cs ⟨trivial, trivial, trivial⟩, trivial⟩⟩⟩
                                        · rw [c120, cond_true] at j57
                                          obtain ⟨q121, g122, j57⟩ := bind_some j57
                                          try simp only [rnA, Nat.reduceEqDiff, Nat.reduceLT, zak (n := 1) (e := (eI .u64)) rfl g99, (zaf g122).1, (zaf g122).2]
                                          replace j57 := Option.some.inj j57; subst j57
                                          exact ⟨_, rfl, by rw [hT57]; exact zam.m0 [.d, .k] rfl (ms rfl rfl (ms rfl trivial (ms rfl trivial (ms rfl trivial (ms rfl trivial (ms rfl trivial (ms rfl trivial (ms rfl trivial (ms rfl trivial (ms rfl trivial trivial)))))))))) ⟨rfl, ⟨MB.cs ⟨trivial, trivial, trivial⟩, trivial⟩⟩⟩
                                      · rw [c117, cond_true] at j57
                                        try simp only [rnA, Nat.reduceEqDiff, Nat.reduceLT]
                                        replace j57 := Option.some.inj j57; subst j57
                                        exact ⟨_, rfl, by rw [hT57]; exact zam.m0 [.d, .k] rfl (ms rfl rfl (ms rfl trivial (ms rfl trivial (ms rfl trivial (ms rfl trivial (ms rfl trivial (ms rfl trivial (ms rfl trivial (ms rfl trivial (ms rfl trivial trivial)))))))))) ⟨rfl, ⟨MB.cs ⟨trivial, trivial, trivial⟩, trivial⟩⟩⟩
                                    · rw [c116, cond_true] at j57
                                      try simp only [Bool.true_beq]
                                      cases c123 : r114
                                      · rw [c123, cond_false] at j57
                                        try simp only [rnA, Nat.reduceEqDiff, Nat.reduceLT]
                                        replace j57 := Option.some.inj j57; subst j57
                                        exact ⟨_, rfl, by rw [hT57]; exact zam.m0 [.d, .k] rfl (ms rfl rfl (ms rfl trivial (ms rfl trivial (ms rfl trivial (ms rfl trivial (ms rfl trivial (ms rfl trivial (ms rfl trivial (ms rfl trivial (ms rfl trivial trivial)))))))))) ⟨rfl, ⟨MB.cs ⟨trivial, trivial, trivial⟩, trivial⟩⟩⟩
                                      · rw [c123, cond_true] at j57
                                        obtain ⟨q124, g125, j57⟩ := bind_some j57
                                        try simp only [rnA, Nat.reduceEqDiff, Nat.reduceLT, zak (n := 1) (e := (eI .u64)) rfl g109, (zaf g125).1, (zaf g125).2]
                                        cases c126 : ((zbM .u64 q124 1) == 1)
                                        · rw [c126, cond_false] at j57
                                          try simp only [rnA, Nat.reduceEqDiff, Nat.reduceLT]
                                          replace j57 := Option.some.inj j57; subst j57
                                          exact ⟨_, rfl, by rw [hT57]; exact zam.m0 [.d, .k] rfl (ms rfl rfl (ms rfl trivial (ms rfl trivial (ms rfl trivial (ms rfl trivial (ms rfl trivial (ms rfl trivial (ms rfl trivial (ms rfl trivial (ms rfl trivial trivial)))))))))) ⟨rfl, ⟨MB.cs ⟨trivial, trivial, trivial⟩, trivial⟩⟩⟩
                                        · rw [c126, cond_true] at j57
                                          obtain ⟨q127, g128, j57⟩ := bind_some j57
                                          try simp only [rnA, Nat.reduceEqDiff, Nat.reduceLT, zak (n := 1) (e := (eI .u64)) rfl g99, (zaf g128).1, (zaf g128).2]
                                          replace j57 := Option.some.inj j57; subst j57
                                          exact ⟨_, rfl, by rw [hT57]; exact zam.m0 [.d, .k] rfl (ms rfl rfl (ms rfl trivial (ms rfl trivial (ms rfl trivial (ms rfl trivial (ms rfl trivial (ms rfl trivial (ms rfl trivial (ms rfl trivial (ms rfl trivial trivial)))))))))) ⟨rfl, ⟨MB.cs ⟨trivial, trivial, trivial⟩, trivial⟩⟩⟩
                                  · rw [c107, cond_true] at j57
                                    try simp only [rnA, Nat.reduceEqDiff, Nat.reduceLT]
                                    refine EvL.skip rfl ?_
                                    try simp only [rnA, Nat.reduceEqDiff, Nat.reduceLT]
                                    replace j57 := Option.some.inj j57; subst j57
                                    exact ⟨_, rfl, by rw [hT57]; exact zam.m0 [.d, .k] rfl (ms rfl rfl (ms rfl trivial (ms rfl trivial (ms rfl trivial (ms rfl trivial (ms rfl trivial (ms rfl trivial (ms rfl trivial (ms rfl trivial (ms rfl trivial trivial)))))))))) ⟨rfl, ⟨MB.cs ⟨trivial, trivial, trivial⟩, trivial⟩⟩⟩
                                · rw [c106, cond_true] at j57
                                  try simp only [Bool.true_beq]
                                  cases c129 : ((zbM .u64 q104 1) == 1)
                                  · rw [c129, cond_false] at j57
                                    try simp only [rnA, Nat.reduceEqDiff, Nat.reduceLT]
                                    refine EvL.skip rfl ?_
                                    try simp only [rnA, Nat.reduceEqDiff, Nat.reduceLT]
                                    replace j57 := Option.some.inj j57; subst j57
                                    exact ⟨_, rfl, by rw [hT57]; exact zam.m0 [.d, .k] rfl (ms rfl rfl (ms rfl trivial (ms rfl trivial (ms rfl trivial (ms rfl trivial (ms rfl trivial (ms rfl trivial (ms rfl trivial (ms rfl trivial (ms rfl trivial trivial)))))))))) ⟨rfl, ⟨MB.cs ⟨trivial, trivial, trivial⟩, trivial⟩⟩⟩
                                  · rw [c129, cond_true] at j57
                                    obtain ⟨x130, g131, j57⟩ := bind_some j57
                                    obtain ⟨q132, g133, j57⟩ := bind_some j57
                                    obtain ⟨x134, g135, j57⟩ := bind_some j57
                                    obtain ⟨r136, g137, j57⟩ := bind_some j57
                                    try simp only [rnA, Nat.reduceEqDiff, Nat.reduceLT, Nat.reduceAdd, Nat.reduceLeDiff, zaB, zak (n := 1) (e := (eI .u64)) rfl g131, (zaf g133).1, (zaf g133).2, zak (n := 3) (e := zab) rfl g135]
                                    refine EvL.fn (zaP g137) rfl rfl (.cons (zaq _ _ (fun h => nomatch h)) (.cons (.lit _) .nil)) ?_
                                    try simp only [rnA, Nat.reduceEqDiff, Nat.reduceLT]
                                    cases c138 : ((zbM .u64 q132 1) == 1)
                                    · rw [c138, cond_false] at j57
                                      try simp only [rnA, Bool.false_beq]
                                      cases c139 : r136
                                      · rw [c139, cond_false] at j57
                                        obtain ⟨q140, g141, j57⟩ := bind_some j57
                                        try simp only [rnA, Nat.reduceEqDiff, Nat.reduceLT, zak (n := 1) (e := (eI .u64)) rfl g131, (zaf g141).1, (zaf g141).2]
                                        cases c142 : ((zbM .u64 q140 1) == 1)
                                        · rw [c142, cond_false] at j57
                                          try simp only [rnA, Nat.reduceEqDiff, Nat.reduceLT]
                                          replace j57 := Option.some.inj j57; subst j57
                                          exact ⟨_, rfl, by rw [hT57]; exact zam.m0 [.d, .k] rfl (ms rfl rfl (ms rfl trivial (ms rfl trivial (ms rfl trivial (ms rfl trivial (ms rfl trivial (ms rfl trivial (ms rfl trivial (ms rfl trivial (ms rfl trivial trivial)))))))))) ⟨rfl, ⟨MB.cs ⟨trivial, trivial, trivial⟩, trivial⟩⟩⟩
                                        · rw [c142, cond_true] at j57
                                          obtain ⟨q143, g144, j57⟩ := bind_some j57
                                          try simp only [rnA, Nat.reduceEqDiff, Nat.reduceLT, zak (n := 1) (e := (eI .u64)) rfl g99, (zaf g144).1, (zaf g144).2]
                                          replace j57 := Option.some.inj j57; subst j57
                                          exact ⟨_, rfl, by rw [hT57]; exact zam.m0 [.d, .k] rfl (ms rfl rfl (ms rfl trivial (ms rfl trivial (ms rfl trivial (ms rfl trivial (ms rfl trivial (ms rfl trivial (ms rfl trivial (ms rfl trivial (ms rfl trivial trivial)))))))))) ⟨rfl, ⟨MB.cs ⟨trivial, trivial, trivial⟩, trivial⟩⟩⟩
                                      · rw [c139, cond_true] at j57
                                        try simp only [rnA, Nat.reduceEqDiff, Nat.reduceLT]
                                        replace j57 := Option.some.inj j57; subst j57
                                        exact ⟨_, rfl, by rw [hT57]; exact zam.m0 [.d, .k] rfl (ms rfl rfl (ms rfl trivial (ms rfl trivial (ms rfl trivial (ms rfl trivial (ms rfl trivial (ms rfl trivial (ms rfl trivial (ms rfl trivial (ms rfl trivial trivial)))))))))) ⟨rfl, ⟨MB.cs ⟨trivial, trivial, trivial⟩, trivial⟩⟩⟩
                                    · rw [c138, cond_true] at j57
                                      try simp only [Bool.true_beq]
                                      cases c145 : r136
                                      · rw [c145, cond_false] at j57
                                        try simp only [rnA, Nat.reduceEqDiff, Nat.reduceLT]
                                        replace j57 := Option.some.inj j57; subst j57
                                        exact ⟨_, rfl, by rw [hT57]; exact zam.m0 [.d, .k] rfl (ms rfl rfl (ms rfl trivial (ms rfl trivial (ms rfl trivial (ms rfl trivial (ms rfl trivial (ms rfl trivial (ms rfl trivial (ms rfl trivial (ms rfl trivial trivial)))))))))) ⟨rfl, ⟨MB.cs ⟨trivial, trivial, trivial⟩, trivial⟩⟩⟩
                                      · rw [c145, cond_true] at j57
                                        obtain ⟨q146, g147, j57⟩ := bind_some j57
                                        try simp only [rnA, Nat.reduceEqDiff, Nat.reduceLT, zak (n := 1) (e := (eI .u64)) rfl g131, (zaf g147).1, (zaf g147).2]
                                        cases c148 : ((zbM .u64 q146 1) == 1)
                                        · rw [c148, cond_false] at j57
                                          try simp only [rnA, Nat.reduceEqDiff, Nat.reduceLT]
                                          replace j57 := Option.some.inj j57; subst j57
                                          exact ⟨_, rfl, by rw [hT57]; exact zam.m0 [.d, .k] rfl (ms rfl rfl (ms rfl trivial (ms rfl trivial (ms rfl trivial (ms rfl trivial (ms rfl trivial (ms rfl trivial (ms rfl trivial (ms rfl trivial (ms rfl trivial trivial)))))))))) ⟨rfl, ⟨MB.cs ⟨trivial, trivial, trivial⟩, trivial⟩⟩⟩
                                        · rw [c148, cond_true] at j57
                                          obtain ⟨q149, g150, j57⟩ := bind_some j57
                                          try simp only [rnA, Nat.reduceEqDiff, Nat.reduceLT, zak (n := 1) (e := (eI .u64)) rfl g99, (zaf g150).1, (zaf g150).2]
                                          replace j57 := Option.some.inj j57; subst j57
                                          exact ⟨_, rfl, by rw [hT57]; exact zam.m0 [.d, .k] rfl (ms rfl rfl (ms rfl trivial (ms rfl trivial (ms rfl trivial (ms rfl trivial (ms rfl trivial (ms rfl trivial (ms rfl trivial (ms rfl trivial (ms rfl trivial trivial)))))))))) ⟨rfl, ⟨MB.cs ⟨trivial, trivial, trivial⟩, trivial⟩⟩⟩
                        · rintro v185 rfl
                          rw [congrFun hT57 v185]
                          refine zaa ?_
                          try simp only [rnA, Nat.reduceEqDiff]
                          cases c151 : v185
                          · rw [c151, cond_false] at j53
                            try simp only [rnA, Nat.reduceEqDiff, Nat.reduceLT]
                            exact ⟨(w64 (v103 + 1)), j53, by rw [hT56]; exact zam.m0 [.d, .k] rfl (ms rfl rfl (ms rfl trivial (ms rfl trivial (ms rfl trivial (ms rfl trivial (ms rfl trivial (ms rfl trivial (ms rfl trivial (ms rfl trivial trivial))))))))) ⟨rfl, ⟨MB.cs ⟨trivial, trivial, trivial⟩, trivial⟩⟩⟩
                          · rw [c151, cond_true] at j53
                            try simp only [rnA, Nat.reduceLT]
                            replace j53 := Option.some.inj j53; subst j53
                            dsimp only at j29
                            replace j29 := Option.some.inj j29; subst j29
                            dsimp only at h
                            replace h := Option.some.inj h; subst h
                            exact zdj.ret rfl (.lit _)
                  · rintro ⟨⟩ rfl
                    dsimp only at j29
                    rw [congrFun hT53 ()]
                    refine zaa ?_
                    try simp only [rnA, Nat.reduceEqDiff, Nat.reduceLT]
                    exact ⟨(w64 (v54 + 1)), j29, by rw [hT48]; exact zam.m0 [.d, .k] rfl (ms rfl rfl (ms rfl trivial (ms rfl trivial (ms rfl trivial (ms rfl trivial trivial))))) ⟨rfl, ⟨MB.cs ⟨trivial, trivial, trivial⟩, trivial⟩⟩⟩
                · rw [c31, cond_true] at j29
                  try simp only [rnA, Nat.reduceLT]
                  replace j29 := Option.some.inj j29; subst j29
                  dsimp only at h
                  replace h := Option.some.inj h; subst h
                  exact zdj.ret rfl (.lit _)
        · rintro ⟨⟩ rfl
          dsimp only at h
          rw [congrFun hT29 ()]
          refine zaa ?_
          try simp only [rnA, Nat.reduceLT]
          replace h := Option.some.inj h; subst h
          exact zdj.ret rfl (.lit _)
      · rw [c13, cond_true] at h
        try simp only [rnA, Nat.reduceLT]
        replace h := Option.some.inj h; subst h
        exact zdj.ret rfl (.lit _)
end Go.Dc
namespace Go.Dc
open Go Go.Mx Go.Lx
theorem zlv {ps : List Nat} {w : Nat} (hl : ps.length ≤ 8) : ∀ (n i : Nat), i ≤ ps.length → ps.length - i < n →
    ∃ o, zaA (iL ps) (w : Int) n (i : Int) = some o ∧ (w ∈ ps.drop i → ∃ k : Nat, o = .ret (k : Int)) ∧ (w ∉ ps.drop i → o = .go ())
  | 0, _, _, h => absurd h (Nat.not_lt_zero _)
  | n + 1, i, h1, h3 => by
    unfold zaA
    rw [zaL, zay]
    by_cases hi : i < ps.length
    · have hd : ps.drop i = ps[i] :: ps.drop (i + 1) := List.drop_eq_getElem_cons hi
      rw [decide_eq_true hi, cond_true, zby hi, Option.bind_some]
      by_cases hw : w = ps[i]
      · refine ⟨.ret (i : Int), by rw [show ((w : Int) == ((ps[i] : Nat) : Int)) = true by simp [hw], cond_true], fun _ => ⟨i, rfl⟩, fun h => absurd (by rw [hd, hw]; exact List.mem_cons_self) h⟩
      · obtain ⟨o, e, k1, k2⟩ := zlv (w := w) hl n (i + 1) hi (by omega)
        refine ⟨o, by rw [show ((w : Int) == ((ps[i] : Nat) : Int)) = false by simp; omega, cond_false, zao (by omega), e], fun h => ?_, fun h => ?_⟩
        · rw [hd] at h
          rcases List.mem_cons.1 h with h | h
          · exact absurd h hw
          · exact k1 h
        · exact k2 fun hh => h (by rw [hd]; exact List.mem_cons_of_mem _ hh)
    · exact ⟨.go (), by rw [decide_eq_false hi, cond_false], fun h => absurd h (by rw [List.drop_eq_nil_of_le (by omega)]; exact List.not_mem_nil), fun _ => rfl⟩
theorem zkA {ps : List Nat} {w : Nat} (hl : ps.length ≤ 8) : zan (iL ps) (w : Int) = some (decide (w ∈ ps)) := by
  obtain ⟨o, e, k1, k2⟩ := zlv (w := w) hl (ps.length + 2) 0 (Nat.zero_le _) (by omega)
  rw [show ((0 : Nat) : Int) = 0 from rfl] at e
  rw [List.drop_zero] at k1 k2
  unfold zan za5
  rw [zaL, zba, e, Option.bind_some]
  by_cases h : w ∈ ps
  · obtain ⟨k, rfl⟩ := k1 h
    simp only []
    rw [Option.bind_some, decide_eq_true h]
    simp
  · rw [k2 h]
    simp only []
    rw [Option.bind_some, decide_eq_false h]
    rfl
theorem zcj {v s : Nat} : (2 ^ v).testBit s = true ↔ v = s := by rw [Nat.testBit_two_pow]; simp
theorem znS {num : List Nat} {g N v r : Nat} {ns : List NN} {ds : List Nat} (h : NetOk num g ns) (hN : 10 ≤ N) (hv : v < ns.length) (hM : MoralOk (zai ns) ds) (hr : r < 18446744073709551616) (hD : ∀ i, r.testBit i = true ↔ Reach (zai ns) i v) : ∀ (n w : Nat), w ≤ ns.length → ns.length - w < n →
    zbp N (iL ds, 0) (zdD g ns) (v : Int) ((r : Int), 0) (iL (zai ns), 0) n (w : Int) = some (.go ())
  | 0, _, _, h => absurd h (Nat.not_lt_zero _)
  | n + 1, w, h1, h3 => by
    have hml : (zai ns).length = ns.length := by simp [zai]
    have hn := h.n2
    have hdl := hM.len
    unfold zbp
    simp only [zaL, zay, hdl, hml]
    by_cases hw : w < ns.length
    · have ih := znS h hN hv hM hr hD n (w + 1) hw (by omega)
      obtain ⟨a, a1, a2, _, a4⟩ := zuv h hN (set := 2 ^ w) (fun s hs => by have := zcj.1 hs; omega) (Nat.pow_lt_pow_right (by decide) hw)
      obtain ⟨q1, b1, b2⟩ := znG (a := a) (v := v) a2 (by omega)
      obtain ⟨q2, c1, c2⟩ := znG (a := r) (v := w) hr (by omega)
      obtain ⟨q3, d1, d2⟩ := znG (a := ds.getD v 0) (v := w) (zdY hM.lt v) (by omega)
      obtain ⟨q4, e1, e2⟩ := znG (a := ds.getD w 0) (v := v) (zdY hM.lt w) (by omega)
      obtain ⟨q5, f1, f2⟩ := znG (a := (zai ns).getD v 0) (v := w) (zdY h.zee v) (by omega)
      have hps : ns[v].ps.length ≤ 8 := by
        obtain ⟨j, hj⟩ := List.getElem?_of_mem (h.perm.all v hv)
        have := (h.node j v ns[v] hj (List.getElem?_eq_getElem hv)).par.len
        omega
      have hmv : (zai ns).getD v 0 = zcw ns[v].ps := by simp [zai, hv]
      have hC := zkA (w := w) hps
      have hAD : a.testBit v = r.testBit w := by
        apply Bool.eq_iff_iff.2
        rw [a4, hD]
        exact ⟨fun ⟨s, hs, hr⟩ => by rw [zcj.1 hs]; exact hr, fun hr => ⟨w, zcj.2 rfl, hr⟩⟩
      have hMM : (ds.getD w 0).testBit v = (ds.getD v 0).testBit w := by
        apply Bool.eq_iff_iff.2
        rw [hM.bit w v (by omega), hM.bit v w (by omega)]
        exact ⟨fun ⟨k1, u, k2, k3, k4⟩ => ⟨fun q => k1 q.symm, u, k2, k4, k3⟩, fun ⟨k1, u, k2, k3, k4⟩ => ⟨fun q => k1 q.symm, u, k2, k4, k3⟩⟩
      have hPC : decide (w ∈ ns[v].ps) = ((zai ns).getD v 0).testBit w := by rw [hmv, zda]
      have hPM : ((zai ns).getD v 0).testBit w = true → (ds.getD v 0).testBit w = true := fun hp => by
        rw [hM.bit v w (by omega)]
        have hgok := (h.gok).1.down v w hp
        refine ⟨fun q => ?_, v, by omega, ?_, ?_⟩
        · subst q; exact Nat.lt_irrefl _ hgok.2
        · rw [zq8, zhH]; simp
        · rw [zq8, zhH, hp]; rfl
      have g1 : zbn (iL ds) (v : Int) = some ((ds.getD v 0 : Nat) : Int) := zeV (by omega)
      have g2 : zbn (iL ds) (w : Int) = some ((ds.getD w 0 : Nat) : Int) := zeV (by omega)
      have g3 : zbn (iL (zai ns)) (v : Int) = some (((zai ns).getD v 0 : Nat) : Int) := zeV (by omega)
      have g4 : zbn (zdD g ns).nodes (v : Int) = some (nd ns[v]) := zcV hv
      have g5 : (nd ns[v]).parents = iL ns[v].ps := rfl
      have g6 := zqX (v := w) (by omega)
      have t1 : ((((true : Bool).toNat : Nat) : Int) == 1) = true := rfl
      have t2 : ((((false : Bool).toNat : Nat) : Int) == 1) = false := rfl
      have t3 : ((((true : Bool).toNat : Nat) : Int) == 0) = false := rfl
      have t4 : ((((false : Bool).toNat : Nat) : Int) == 0) = true := rfl
      have t5 : ((0 : Int) == 0) = true := rfl
      simp only [decide_eq_true hw, cond_true, g6, Option.bind_some, a1, t5, b1, b2, c1, c2, g1, g2, g3, g4, g5, d1, d2, e1, e2, f1, f2, hC, hPC, hMM, hAD, zao (show w + 1 < 9223372036854775808 by omega), ih]
      cases hp : ((zai ns).getD v 0).testBit w with
      | true =>
        rw [hPM hp]
        cases r.testBit w <;> simp only [t1, t2, t3, t4, cond_true, cond_false, Option.bind_some]
      | false =>
        cases r.testBit w <;> cases (ds.getD v 0).testBit w <;> simp only [t1, t2, t3, t4, cond_true, cond_false, Option.bind_some]
    · rw [decide_eq_false hw, cond_false]
theorem zmZ {num : List Nat} {g N : Nat} {ns : List NN} {ds : List Nat} (h : NetOk num g ns) (hN : 10 ≤ N) (hM : MoralOk (zai ns) ds) (hB : ∀ v, v < ns.length → zbF (zdD g ns) (v : Int) = some (((ds.getD v 0 : Nat) : Int), 0)) : ∀ (n v : Nat), v ≤ ns.length → ns.length - v < n →
    zbo N (iL ds, 0) (zdD g ns) (iL (zai ns), 0) n (v : Int) = some (.go ())
  | 0, _, _, h => absurd h (Nat.not_lt_zero _)
  | n + 1, v, h1, h3 => by
    have hml : (zai ns).length = ns.length := by simp [zai]
    have hn := h.n2
    have hdl := hM.len
    unfold zbo
    simp only [zaL, zay, hdl, hml]
    by_cases hv : v < ns.length
    · have ih := zmZ h hN hM hB n (v + 1) hv (by omega)
      obtain ⟨r, r1, r2, r3⟩ := zsj h hN (set := 2 ^ v) (fun s hs => by have := zcj.1 hs; omega) (Nat.pow_lt_pow_right (by decide) hv)
      have hD : ∀ i, r.testBit i = true ↔ Reach (zai ns) i v := fun i => by
        rw [r3]
        exact ⟨fun ⟨s, hs, hr⟩ => by rw [zcj.1 hs]; exact hr, fun hr => ⟨v, zcj.2 rfl, hr⟩⟩
      have hl2 := znS h hN hv hM r2 hD (ns.length + 2) 0 (Nat.zero_le _) (by omega)
      rw [show ((0 : Nat) : Int) = 0 from rfl] at hl2
      have g1 : zbn (iL ds) (v : Int) = some ((ds.getD v 0 : Nat) : Int) := zeV (by omega)
      have g6 := zqX (v := v) (by omega)
      obtain ⟨q3, d1, d2⟩ := znG (a := ds.getD v 0) (v := v) (zdY hM.lt v) (by omega)
      obtain ⟨q4, e1, e2⟩ := znG (a := r) (v := v) r2 (by omega)
      have hd0 : (ds.getD v 0).testBit v = false := by
        cases hb : (ds.getD v 0).testBit v with
        | false => rfl
        | true => exact absurd rfl ((hM.bit v v (by omega)).1 hb).1
      have hr0 : r.testBit v = true := (hD v).2 (.refl v)
      have t2 : ((((false : Bool).toNat : Nat) : Int) == 1) = false := rfl
      have t3 : ((((true : Bool).toNat : Nat) : Int) == 0) = false := rfl
      have t5 : ((0 : Int) == 0) = true := rfl
      have t6 : (((ds.getD v 0 : Nat) : Int) == ((ds.getD v 0 : Nat) : Int)) = true := by simp
      simp only [decide_eq_true hv, cond_true, g6, Option.bind_some, r1, hB v hv, t5, g1, t6, d1, d2, hd0, t2, cond_false, e1, e2, hr0, t3, zba, hl2, zao (show v + 1 < 9223372036854775808 by omega), ih]
    · rw [decide_eq_false hv, cond_false]
theorem near_holds {d : DraftN} (hd : DraftOk d) : zcI 1025 (zbZ d) = some true := by
  obtain ⟨num, ns, h, _, e⟩ := zpo hd (N := 1025) (Nat.le_refl _)
  obtain ⟨os, g1, g2, e2⟩ := ziu h
  obtain ⟨ds, k1, k2, k3⟩ := zqx h
  have hml : (zai ns).length = ns.length := by simp [zai]
  have hdl := k1.len
  have e3 := zmZ h (N := 1025) (by decide) k1 k3 (ns.length + 2) 0 (Nat.zero_le _) (by omega)
  rw [show ((0 : Nat) : Int) = 0 from rfl] at e3
  have t5 : ((0 : Int) == 0) = true := rfl
  have t6 : (((ns.length : Nat) : Int) == ((ns.length : Nat) : Int)) = true := by simp
  have t7 : (zdD (1 + d.grain % 60) ns).nodes.length = ns.length := by simp [zdD]
  unfold zcI zkJ
  rw [Option.bind_some, cond_true, e, Option.bind_some]
  rw [show (⟨((1 + d.grain % 60 : Nat) : Int), ns.map nd⟩ : S_api_Net) = zdD (1 + d.grain % 60) ns from rfl, k2]
  unfold zcJ
  simp only [e2, Option.bind_some, t5, zaL, hdl, hml, t7, t6, cond_true, cond_false, Bool.not_true, zba, e3]
end Go.Dc
