/-
  Contracts: Derive of the reference. Conditions: none.
-/
import Derived.Test.YtbjfkbkmoeibdaaDe8
import Derived.Test.YtbjfkbkmoeibdaaDe6
import Derived.Test.YtbjfkbkmoeibdaaDeCcB
namespace Go.Proofs.Ytbjfkbkmoeibdaa.C
open Go Go.Mx Go.Lx
set_option linter.unusedSimpArgs false
set_option linter.unusedVariables false
set_option maxRecDepth 100000
theorem has54 : mC.has 54 fn54 := ⟨rfl, fun _ _ _ => rfl⟩
theorem has22 : mC.has 22 fn22 := ⟨rfl, fun _ _ _ => rfl⟩
def derO (c : Circ) (input : List Int) : Option (List (List Int)) := match evalGo input [] c.gates with
  | none => none
  | some vals => derGo vals c.gates c.gates.length (rows0 c.cards) (slope0 c.gates.length)
def dv5 (c : Circ) (input : List Int) : List LB := [.cells (circC false c), .cells (circC false c), .cells (runC c input (.lit (.slice none 0 0))), .cells [.ptr 2 0], .cells [.lit (.slice none 0 0)]]
abbrev resS (c : Circ) : D := .sl 8 0 1 c.cards.length (some c.cards.length) c.cards.length
theorem dv_set4 {B : List LB} (hB : B.length = 8) (cs : List Int) (rows : List (List Int)) (ss : List Int) (y : LB) : (dvL B cs rows ss).set 4 y = dvL (B.set 4 y) cs rows ss := by
  unfold dvL
  rw [List.set_append_left _ _ (by omega)]
def derQ (c : Circ) (input : List Int) (L' : List LB) : Prop := ∃ B rows ss, derO c input = some rows ∧ RowsOk c.cards rows ∧ B.length = 8 ∧ B[4]? = some (.cells [resS c]) ∧ B[5]? = some (.cells [dI 0]) ∧ L' = dvL B c.cards rows ss
set_option maxHeartbeats 4000000 in
theorem clo54_ok (c : Circ) (hs : c.Small) (input : List Int) (hv : validB c = true) (hi : input.length = c.cards.length) :
    CallL mC false 54 ([] ++ [] ++ [.ptr 3 0, .ptr 4 0]) (dv5 c input ++ [.cells [dI 0]]) (fun d L' => derQ c input L') fun d L' => derO c input = none ∧ (∃ t r, d = .ifc t r) ∧ L'[5]? = some (.cells [dI 0]) := by
  refine CallL.code has54 rfl (by simp [fn54]) ?_
  have e5 : dv5 c input ++ [.cells [dI 0]] = [.cells (circC false c), .cells (circC false c), .cells (runC c input (.lit (.slice none 0 0))), .cells [.ptr 2 0], .cells [.lit (.slice none 0 0)], .cells [dI 0]] := rfl
  rw [e5]
  simp only [wp, stepL_true, doI, quietI, isCallI, wantedD, LSt.put, LSt.putO, qL, evD, lk, loadD_ptr, takeD, argsE, Nat.reduceLT, Nat.reduceAdd, Bool.not_false, if_true, if_false, List.getElem?_cons_zero, List.getElem?_cons_succ, List.length_cons, List.length_nil, List.nil_append, Nat.zero_add, reduceCtorEq, fn54]
  refine EvL.call rfl rfl (evaluate2_ok c input hv hs.args hi) ?_ ?_
  · rintro d L' ⟨vals, es, q1, q2, q3, q4, q5, q6, rfl⟩
    have hl3 : (evL2 c input vals es)[3]? = some (.cells [.ptr 2 0]) := rfl
    have hder : derO c input = derGo vals c.gates c.gates.length (rows0 c.cards) (slope0 c.gates.length) := by unfold derO; rw [q1]
    have hd := derive_ok c hs input vals es hv q2 q3 q4 q5 q6
    rw [← hder] at hd
    have hB : (evL2 c input vals es).length = 8 := rfl
    have hB4 : (evL2 c input vals es)[4]? = some (.cells [.lit (.slice none 0 0)]) := rfl
    have hB5 : (evL2 c input vals es)[5]? = some (.cells [dI 0]) := rfl
    generalize evL2 c input vals es = B at *
    simp only [wp, stepL_true, doI, quietI, isCallI, wantedD, LSt.put, LSt.putO, qL, evD, lk, loadD_ptr, takeD, Nat.reduceLT, Bool.not_false, if_true, if_false, List.getElem?_cons_zero, reduceCtorEq, hl3]
    refine EvL.call rfl rfl hd ?_ ?_
    · rintro d L' ⟨rows, ss, r1, r2, rfl, rfl⟩
      have hl4 : (dvL B c.cards rows ss)[4]? = some (.cells [.lit (.slice none 0 0)]) := by simpa using dv_low (cs := c.cards) (rows := rows) hB4 ss []
      simp only [wp, stepL_true, doI, quietI, isCallI, wantedD, LSt.put, LSt.putE, effL, evD, lk, Lx.cellsO, cells_sl, putD, storeD, Nat.reduceEqDiff, Nat.reduceLT, Nat.reduceLeDiff, and_self, if_true, if_false, List.length_cons, List.length_nil, List.cons_append, List.nil_append, Nat.zero_add, List.drop_zero, List.drop_succ_cons, List.take_zero, reduceCtorEq, hl4, dv_set4 hB]
      refine ⟨_, rfl, B.set 4 (.cells [resS c]), rows, ss, r1, r2, by simpa using hB, by simp [hB], by rw [List.getElem?_set_ne (by decide)]; exact hB5, rfl⟩
    · rintro d L' ⟨r1, r2, r3⟩
      exact ⟨r1, r2, r3⟩
  · rintro d L' ⟨q1, q2, q3⟩
    exact ⟨by unfold derO; rw [q1], q2, q3⟩
def tblD (t : Bool) (rows : List (List Int)) : D := .fz t 1 (rows.map fun r => [ints t r])
def deriveR (c : Circ) (input : List Int) : List (List Int) × Int :=
  if validB c = false then ([], 150) else if inputB c.cards input = false then ([], 2) else match derO c input with
    | none => ([], 6)
    | some rows => (rows, 0)
theorem try_derive {B : List LB} {c : Circ} {rows : List (List Int)} {ss : List Int} (hB : B.length = 8) (hr : RowsOk c.cards rows) : Snp (dvL B c.cards rows ss) true (resS c) (tblD true rows) := by
  have h8 : (dvL B c.cards rows ss)[8]? = some (.els 1 (slRows 9 c.cards)) := by simpa using dv_at8 (cs := c.cards) (rows := rows) hB ss []
  refine snp_rows (es := slRows 9 c.cards) (by simp [esOf, h8, slRows_len]) (by rw [slRows_len]; omega) (by simp [hr.len]) (fun k h => by cases h; exact Nat.le_refl _) fun v e he => ?_
  simp only [List.getElem?_map, Option.map_eq_some_iff] at he
  obtain ⟨r, h1, rfl⟩ := he
  have hv := (List.getElem?_eq_some_iff.1 h1).1
  have hv' : v < c.cards.length := by rw [← hr.len]; exact hv
  have hre : r = rows[v] := by rw [List.getElem?_eq_getElem hv] at h1; cases h1; rfl
  have hrow : (dvL B c.cards rows ss)[9 + v]? = some (rowB rows[v]) := by simpa using dv_row (cs := c.cards) hB hv ss []
  have hlen : c.cards[v].toNat = r.length := by
    rw [hre, hr.row v hv, List.getD_eq_getElem?_getD, List.getElem?_eq_getElem hv']; rfl
  rw [Nat.zero_add]
  refine ⟨_, slRows_get c.cards 9 v hv', .cons ?_ .nil⟩
  rw [hlen]
  refine snp_own ?_ (fun k h => by cases h; exact Nat.le_refl _)
  rw [hre]
  simp [esOf, hrow, intsE_len]
set_option maxHeartbeats 8000000 in
theorem Derive_ok (c : Circ) (hs : c.Small) (input : List Int) (hl : input.length < 1000000) : Lx.Fn mC 22 [.agg (circC false c), ints false input] (.tup [tblD true (deriveR c input).1, dI (deriveR c input).2]) := by
  refine Lx.Fn.intro has22 (by simp [fn22]) (fun h => by cases h) ?_
  have hcirc : circC false c = [ints false c.cards, gatesD false c.gates] := rfl
  simp only [wp, stepL_true, doI, quietI, isCallI, wantedD, LSt.put, LSt.putO, LSt.putE, qL, effL, evD, lk, loadD_ptr, takeD, slotD, Lx.cellsO, cells_agg, argsE, Nat.reduceEqDiff, Nat.reduceLT, Nat.reduceAdd, Nat.reduceLeDiff, Bool.not_false, if_true, if_false, List.getElem?_cons_zero, List.length_cons, List.length_nil, List.nil_append, Nat.zero_add, List.drop_zero, List.take_succ_cons, List.take_zero, reduceCtorEq, fn22, hcirc]
  refine EvL.call rfl rfl (newRun_ok c hs input hl) ?_ (fun _ _ (h : False) => False.elim h)
  rintro r L' (⟨h1, rfl⟩ | ⟨h1, h2, rfl⟩ | ⟨h1, h2, rfl, rfl⟩)
  · unfold deriveR
    rw [if_pos h1]
    simp only [wp, stepL_true, doI, quietI, isCallI, wantedD, LSt.put, LSt.putO, LSt.putE, qL, effL, evD, boolD, litD, litV, lk, pickC_true, Lx.cellsO, cells_lit, oneV, putD, storeD, binV, intBin, Option.map_some, cond_true, beq_self_eq_true, Nat.reduceEqDiff, Nat.reduceLT, Nat.reduceLeDiff, Bool.not_false, and_self, if_true, if_false, List.getElem?_cons_zero, List.getElem?_cons_succ, List.length_cons, List.length_nil, List.cons_append, List.nil_append, Nat.zero_add, List.drop_zero, List.drop_succ_cons, List.take_zero, List.map_cons, List.map_nil, reduceCtorEq, Int.reduceBNe, get_e, set_e]
    exact RetQ.ret rfl (.tups (.cons (.nil 1) (.cons (.lit _) .nil)))
  · unfold deriveR
    rw [if_neg (by rw [h1]; simp), if_pos h2]
    simp only [wp, stepL_true, doI, quietI, isCallI, wantedD, LSt.put, LSt.putO, LSt.putE, qL, effL, evD, boolD, litD, litV, lk, pickC_true, Lx.cellsO, cells_lit, oneV, putD, storeD, binV, intBin, Option.map_some, cond_true, beq_self_eq_true, Nat.reduceEqDiff, Nat.reduceLT, Nat.reduceLeDiff, Bool.not_false, and_self, if_true, if_false, List.getElem?_cons_zero, List.getElem?_cons_succ, List.length_cons, List.length_nil, List.cons_append, List.nil_append, Nat.zero_add, List.drop_zero, List.drop_succ_cons, List.take_zero, List.map_cons, List.map_nil, reduceCtorEq, Int.reduceBNe, get_e, set_e]
    exact RetQ.ret rfl (.tups (.cons (.nil 1) (.cons (.lit _) .nil)))
  · unfold deriveR
    rw [if_neg (by rw [h1]; simp), if_neg (by rw [h2]; simp)]
    simp only [wp, stepL_true, doI, quietI, isCallI, wantedD, LSt.put, LSt.putO, LSt.putE, qL, effL, evD, evDs, boolD, litD, litV, lk, pickC_false, Lx.cellsO, cells_ptr, putD, storeD, binV, intBin, Option.map_some, cond_true, beq_self_eq_true, Nat.reduceEqDiff, Nat.reduceLT, Nat.reduceAdd, Nat.reduceLeDiff, Bool.not_false, and_self, if_true, if_false, List.getElem?_cons_zero, List.getElem?_cons_succ, List.length_cons, List.length_nil, List.cons_append, List.nil_append, Nat.zero_add, List.drop_zero, List.drop_succ_cons, List.take_zero, List.map_cons, List.map_nil, List.set_cons_zero, List.set_cons_succ, reduceCtorEq, Int.reduceBNe]
    refine EvL.call rfl rfl (try_ok (L := dv5 c input) (first := []) (cap := [.ptr 3 0, .ptr 4 0]) (clo54_ok c hs input h1 (inputB_len h2)) ?_ ?_) ?_ (fun _ _ (h : False) => False.elim h)
    · rintro d L' ⟨B, rows, ss, q1, q2, q3, q4, q5, rfl⟩
      show (dvL B c.cards rows ss)[5]? = _
      simpa using dv_low (cs := c.cards) (rows := rows) q5 ss []
    · rintro d L' ⟨_, q1, q2⟩; exact ⟨q1, q2⟩
    · rintro r L' (⟨rfl, d, B, rows, ss, q1, q2, q3, q4, q5, rfl⟩ | ⟨rfl, d, L0, ⟨q1, _, _⟩, rfl⟩)
      · rw [q1]
        have hl4 : (dvL B c.cards rows ss)[4]? = some (.cells [resS c]) := by simpa using dv_low (cs := c.cards) (rows := rows) q4 ss []
        simp only [wp, stepL_true, doI, quietI, isCallI, wantedD, LSt.put, LSt.putO, qL, evD, boolD, litD, litV, lk, pickC_false, loadD_ptr, takeD, binV, intBin, Option.map_some, cond_true, beq_self_eq_true, Nat.reduceEqDiff, Nat.reduceLT, Bool.not_false, if_true, if_false, List.getElem?_cons_zero, reduceCtorEq, Int.reduceBNe, hl4]
        exact RetQ.ret rfl (.tups (.cons (try_derive q3 q2) (.cons (.lit _) .nil)))
      · rw [q1]
        simp only [wp, stepL_true, doI, quietI, isCallI, wantedD, LSt.put, LSt.putO, qL, evD, boolD, litD, litV, lk, pickC_true, binV, intBin, Option.map_some, cond_true, beq_self_eq_true, Nat.reduceEqDiff, Nat.reduceLT, Bool.not_false, if_true, if_false, reduceCtorEq, Int.reduceBNe]
        exact RetQ.ret rfl (.tups (.cons (.nil 1) (.cons (.lit _) .nil)))
end Go.Proofs.Ytbjfkbkmoeibdaa.C
namespace Go.Proofs.Ytbjfkbkmoeibdaa.C
open Go Go.Mx Go.Lx
set_option linter.unusedSimpArgs false
set_option linter.unusedVariables false
set_option maxRecDepth 100000
theorem has56 : mC.has 56 fn56 := ⟨rfl, fun _ _ _ => rfl⟩
theorem has58 : mC.has 58 fn58 := ⟨rfl, fun _ _ _ => rfl⟩
theorem has24 : mC.has 24 fn24 := ⟨rfl, fun _ _ _ => rfl⟩
def withoutR (l : List Int) (n : Int) : List Int := l.filter fun x => x != n
set_option maxHeartbeats 4000000 in
theorem without_ok (l : List Int) (n : Int) (hl : l.length < 1000000) : Lx.Fn mC 56 [ints false l, dI n] (ints true (withoutR l n)) := by
  refine Lx.Fn.intro has56 (by simp [fn56]) (fun h => by cases h) ?_
  simp only [wp, stepL_true, doI, quietI, isCallI, wantedD, LSt.put, LSt.putO, qL, evD, argsE, Nat.reduceLT, Bool.not_false, if_true, Nat.zero_add, fn56]
  refine EvL.loop (α := Nat) (fun k => ⟨27, [(0, ints false l), (1, dI n), (5, .sl 0 0 1 (withoutR (l.take k) n).length none (withoutR (l.take k) n).length), (6, dI k)], [.grow 1 (intsE (withoutR (l.take k) n))]⟩) (fun k => k ≤ l.length) (fun k => l.length - k) 0
    ((Weak.ghost (k := 5) (n := 1) (by simp) (by simp [lk])).trans (Weak.sub (by simp [envSub, lk, withoutR]))) (by simp) ?_
  intro k p1
  refine wp_sound ?_
  by_cases hk : k < l.length
  · have hlt : decide ((k : Int) < (l.length : Int)) = true := decide_eq_true (by omega)
    have hw2 : IntKind.i64.wrap ((k : Int) + 1) = ((k + 1 : Nat) : Int) := by rw [wrap64 (by omega) (by omega)]; rfl
    have hwl : (withoutR (l.take k) n).length ≤ k := by
      have := List.length_filter_le (fun x => x != n) (l.take k)
      unfold withoutR
      simp at this ⊢
      omega
    have htk : withoutR (l.take (k + 1)) n = withoutR (l.take k) n ++ (if (l[k] != n) = true then [l[k]] else []) := by
      unfold withoutR
      rw [List.take_succ_eq_append_getElem hk, List.filter_append]
      simp only [List.filter_cons, List.filter_nil]
    cases e : (l[k] == n)
    · have e' : (l[k] != n) = true := by simp only [bne, e, Bool.not_false]
      rw [e', if_pos rfl] at htk
      simp only [wp, stepL_true, doI, quietI, isCallI, wantedD, LSt.put, LSt.putO, LSt.putE, qL, effL, evD, intD, boolD, litD, litV, lk, pickC_true, loadD_fptr, takeD, esOf, Lx.cellsO, cells_lit, oneV, fillE, srcD_sl, appD, binV, intBin, Option.map_some, cond_true, beq_self_eq_true, Nat.reduceEqDiff, Nat.reduceLT, Nat.reduceLeDiff, Bool.not_false, and_self, if_true, if_false, List.getElem?_cons_zero, List.getElem?_cons_succ, List.length_cons, List.length_nil, List.cons_append, List.nil_append, Nat.zero_add, List.drop_zero, List.take_succ_cons, List.take_zero, List.map_cons, List.map_nil, List.set_cons_zero, List.replicate_succ, List.replicate_zero, reduceCtorEq, hlt, len_ints, idx_ints _ _ hk, bneq, e, intsE_len, mb8 (show (withoutR (l.take k) n).length < 1000000 by omega), hw2]
      refine ⟨k + 1, by omega, by omega, ?_⟩
      rw [htk]
      refine Weak.cutD (L0 := [.grow 1 (intsE (withoutR (l.take k) n ++ [l[k]]))]) ?_ (by simp) ?_ ?_
      · rw [← intsE_app]; rfl
      · simp [envOk, lk, D.sc, ints]
      · exact ⟨intsE_sc _ _, trivial⟩
    · have e' : (l[k] != n) = false := by simp only [bne, e, Bool.not_true]
      rw [e', if_neg (by simp), List.append_nil] at htk
      simp only [wp, stepL_true, doI, quietI, isCallI, wantedD, LSt.put, LSt.putO, qL, evD, intD, boolD, litD, litV, lk, pickC_true, pickC_false, loadD_fptr, takeD, binV, intBin, Option.map_some, cond_true, beq_self_eq_true, Nat.reduceEqDiff, Nat.reduceLT, Bool.not_true, Bool.not_false, if_true, if_false, List.getElem?_cons_zero, reduceCtorEq, hlt, len_ints, idx_ints _ _ hk, bneq, e, hw2]
      refine ⟨k + 1, by omega, by omega, ?_⟩
      rw [htk]
      exact Weak.sub (by simp [envSub, lk])
  · have hlt : decide ((k : Int) < (l.length : Int)) = false := decide_eq_false (by omega)
    have hk' : l.take k = l := List.take_of_length_le (by omega)
    simp only [wp, stepL_true, doI, quietI, isCallI, wantedD, LSt.put, LSt.putO, qL, evD, boolD, litD, litV, lk, pickC_false, binV, intBin, Option.map_some, cond_true, beq_self_eq_true, Nat.reduceEqDiff, Nat.reduceLT, Bool.not_false, if_true, if_false, reduceCtorEq, hlt, len_ints]
    refine RetQ.ret rfl ?_
    rw [hk']
    exact snp_own (by simp [esOf, intsE_len]) (fun k h => by cases h)
set_option maxHeartbeats 4000000 in
theorem Same_ok (a b : List Int) (hl : a.length < 1000000) : Lx.Fn mC 58 [ints false a, ints false b] (dB (a == b)) := by
  refine Lx.Fn.intro has58 (by simp [fn58]) (fun _ => rfl) ?_
  cases h1 : ((a.length : Int) == (b.length : Int))
  · have hab : (a == b) = false := by
      rw [beq_eq_false_iff_ne]
      rintro rfl
      simp at h1
    simp only [wp, stepL_true, doI, quietI, isCallI, wantedD, LSt.put, LSt.putO, qL, evD, boolD, litD, litV, lk, pickC_true, binV, intBin, argsE, Option.map_some, cond_true, beq_self_eq_true, Nat.reduceEqDiff, Nat.reduceLT, Bool.not_false, if_true, if_false, Nat.zero_add, reduceCtorEq, fn58, len_ints, bneq, h1]
    rw [hab]
    exact RetQ.pl rfl rfl
  have hlen : a.length = b.length := by simpa [Int.ofNat_inj] using h1
  simp only [wp, stepL_true, doI, quietI, isCallI, wantedD, LSt.put, LSt.putO, qL, evD, boolD, litD, litV, lk, pickC_false, binV, intBin, argsE, Option.map_some, cond_true, beq_self_eq_true, Nat.reduceEqDiff, Nat.reduceLT, Bool.not_true, Bool.not_false, if_true, if_false, Nat.zero_add, reduceCtorEq, fn58, len_ints, bneq, h1]
  refine EvL.loop (α := Nat) (fun k => ⟨26, [(0, ints false a), (1, ints false b), (5, dI k)], []⟩) (fun k => k ≤ a.length ∧ a.take k = b.take k) (fun k => a.length - k) 0 (Weak.sub (by simp [envSub, lk])) (by simp) ?_
  rintro k ⟨p1, p2⟩
  refine wp_sound ?_
  by_cases hk : k < a.length
  · have hlt : decide ((k : Int) < (a.length : Int)) = true := decide_eq_true (by omega)
    have hkb : k < b.length := by omega
    have hw2 : IntKind.i64.wrap ((k : Int) + 1) = ((k + 1 : Nat) : Int) := by rw [wrap64 (by omega) (by omega)]; rfl
    cases e : (a[k] == b[k])
    · have hab : (a == b) = false := by
        rw [beq_eq_false_iff_ne]
        rintro rfl
        simp at e
      simp only [wp, stepL_true, doI, quietI, isCallI, wantedD, LSt.put, LSt.putO, qL, evD, intD, boolD, litD, litV, lk, pickC_true, loadD_fptr, takeD, binV, intBin, Option.map_some, cond_true, beq_self_eq_true, Nat.reduceEqDiff, Nat.reduceLT, Bool.not_true, Bool.not_false, if_true, if_false, List.getElem?_cons_zero, reduceCtorEq, hlt, len_ints, idx_ints _ _ hk, idx_ints _ _ hkb, bneq, e]
      rw [hab]
      exact RetQ.pl rfl rfl
    · simp only [wp, stepL_true, doI, quietI, isCallI, wantedD, LSt.put, LSt.putO, qL, evD, intD, boolD, litD, litV, lk, pickC_true, pickC_false, loadD_fptr, takeD, binV, intBin, Option.map_some, cond_true, beq_self_eq_true, Nat.reduceEqDiff, Nat.reduceLT, Bool.not_true, Bool.not_false, if_true, if_false, List.getElem?_cons_zero, reduceCtorEq, hlt, len_ints, idx_ints _ _ hk, idx_ints _ _ hkb, bneq, e, hw2]
      refine ⟨k + 1, ⟨by omega, ?_⟩, by omega, Weak.sub (by simp [envSub, lk])⟩
      rw [List.take_succ_eq_append_getElem hk, List.take_succ_eq_append_getElem hkb, p2, beq_iff_eq.1 e]
  · have hlt : decide ((k : Int) < (a.length : Int)) = false := decide_eq_false (by omega)
    rw [List.take_of_length_le (by omega), List.take_of_length_le (by omega)] at p2
    simp only [wp, stepL_true, doI, quietI, isCallI, wantedD, LSt.put, LSt.putO, qL, evD, boolD, litD, litV, lk, pickC_false, binV, intBin, Option.map_some, cond_true, beq_self_eq_true, Nat.reduceEqDiff, Nat.reduceLT, Bool.not_false, if_true, if_false, reduceCtorEq, hlt, len_ints]
    rw [p2, beq_self_eq_true]
    exact RetQ.pl rfl rfl
theorem len_tbl (L : List LB) (t : Bool) (rows : List (List Int)) : lenD L (tblD t rows) = some (dI rows.length) := by simp [lenD, tblD]
theorem idx_tbl (L : List LB) (t : Bool) {rows : List (List Int)} {k : Nat} (h : k < rows.length) : idxD L 1 (k : Int) (tblD t rows) = some (.fptr t [ints t rows[k]]) := by simp [idxD, tblD, h]
set_option maxHeartbeats 4000000 in
theorem SameTable_ok (a b : List (List Int)) (hl : a.length < 1000000) (hr : ∀ r ∈ a, r.length < 1000000) : Lx.Fn mC 24 [tblD false a, tblD false b] (dB (a == b)) := by
  refine Lx.Fn.intro has24 (by simp [fn24]) (fun _ => rfl) ?_
  cases h1 : ((a.length : Int) == (b.length : Int))
  · have hab : (a == b) = false := by
      rw [beq_eq_false_iff_ne]
      rintro rfl
      simp at h1
    simp only [wp, stepL_true, doI, quietI, isCallI, wantedD, LSt.put, LSt.putO, qL, evD, boolD, litD, litV, lk, pickC_true, binV, intBin, argsE, Option.map_some, cond_true, beq_self_eq_true, Nat.reduceEqDiff, Nat.reduceLT, Bool.not_false, if_true, if_false, Nat.zero_add, reduceCtorEq, fn24, len_tbl, bneq, h1]
    rw [hab]
    exact RetQ.pl rfl rfl
  have hlen : a.length = b.length := by simpa [Int.ofNat_inj] using h1
  simp only [wp, stepL_true, doI, quietI, isCallI, wantedD, LSt.put, LSt.putO, qL, evD, boolD, litD, litV, lk, pickC_false, binV, intBin, argsE, Option.map_some, cond_true, beq_self_eq_true, Nat.reduceEqDiff, Nat.reduceLT, Bool.not_true, Bool.not_false, if_true, if_false, Nat.zero_add, reduceCtorEq, fn24, len_tbl, bneq, h1]
  refine EvL.loop (α := Nat) (fun k => ⟨27, [(0, tblD false a), (1, tblD false b), (5, dI k)], []⟩) (fun k => k ≤ a.length ∧ a.take k = b.take k) (fun k => a.length - k) 0 (Weak.sub (by simp [envSub, lk])) (by simp) ?_
  rintro k ⟨p1, p2⟩
  refine wp_sound ?_
  by_cases hk : k < a.length
  · have hlt : decide ((k : Int) < (a.length : Int)) = true := decide_eq_true (by omega)
    have hkb : k < b.length := by omega
    have hw2 : IntKind.i64.wrap ((k : Int) + 1) = ((k + 1 : Nat) : Int) := by rw [wrap64 (by omega) (by omega)]; rfl
    simp only [wp, stepL_true, doI, quietI, isCallI, wantedD, LSt.put, LSt.putO, qL, evD, intD, boolD, litD, litV, lk, pickC_true, loadD_fptr, takeD, binV, intBin, Option.map_some, cond_true, beq_self_eq_true, Nat.reduceEqDiff, Nat.reduceLT, Bool.not_true, Bool.not_false, if_true, if_false, List.getElem?_cons_zero, reduceCtorEq, hlt, len_tbl, idx_tbl _ _ hk, idx_tbl _ _ hkb]
    refine EvL.fn (Same_ok a[k] b[k] (hr _ (List.getElem_mem hk))) rfl rfl (.cons (snp_ints _ _ _) (.cons (snp_ints _ _ _) .nil)) ?_
    cases e : (a[k] == b[k])
    · have hab : (a == b) = false := by
        rw [beq_eq_false_iff_ne]
        rintro rfl
        simp at e
      simp only [wp, stepL_true, doI, quietI, isCallI, wantedD, LSt.put, LSt.putO, qL, evD, boolD, litD, litV, lk, pickC_true, unV, Nat.reduceEqDiff, Nat.reduceLT, Bool.not_false, if_true, if_false, reduceCtorEq]
      rw [hab]
      exact RetQ.pl rfl rfl
    · simp only [wp, stepL_true, doI, quietI, isCallI, wantedD, LSt.put, LSt.putO, qL, evD, boolD, litD, litV, lk, pickC_false, binV, intBin, unV, Option.map_some, cond_true, beq_self_eq_true, Nat.reduceEqDiff, Nat.reduceLT, Bool.not_true, Bool.not_false, if_true, if_false, reduceCtorEq, hw2]
      refine ⟨k + 1, ⟨by omega, ?_⟩, by omega, Weak.sub (by simp [envSub, lk])⟩
      rw [List.take_succ_eq_append_getElem hk, List.take_succ_eq_append_getElem hkb, p2, beq_iff_eq.1 e]
  · have hlt : decide ((k : Int) < (a.length : Int)) = false := decide_eq_false (by omega)
    rw [List.take_of_length_le (by omega), List.take_of_length_le (by omega)] at p2
    simp only [wp, stepL_true, doI, quietI, isCallI, wantedD, LSt.put, LSt.putO, qL, evD, boolD, litD, litV, lk, pickC_false, binV, intBin, Option.map_some, cond_true, beq_self_eq_true, Nat.reduceEqDiff, Nat.reduceLT, Bool.not_false, if_true, if_false, reduceCtorEq, hlt, len_tbl]
    rw [p2, beq_self_eq_true]
    exact RetQ.pl rfl rfl
theorem snp_tbl (L : List LB) (t : Bool) (rows : List (List Int)) : Snp L false (tblD t rows) (tblD false rows) := snp_map _ _ rows (fun _ => rfl) fun r k d d' h1 h2 => by
  cases k with
  | zero => simp at h1 h2; subst h1; subst h2; exact snp_ints L t r
  | succ k => simp at h1
end Go.Proofs.Ytbjfkbkmoeibdaa.C
namespace Go.Proofs.Ytbjfkbkmoeibdaa.C
open Go Go.Mx Go.Lx
set_option linter.unusedSimpArgs false
set_option linter.unusedVariables false
set_option maxRecDepth 100000
def gateR (input vals : List Int) (g : Gate) : Option Int :=
  if g.kind = 1 then some g.n else if g.kind = 2 then some (if valAt input g.var = -1 ∨ valAt input g.var = g.val then 1 else 0) else if g.kind = 3 then sumGo 0 (g.args.map (valAt vals)) else if g.kind = 4 then prodR (g.args.map (valAt vals)) else some 0
def valuesGo (input : List Int) : List Int → List Gate → Option (List Int)
  | vals, [] => some vals
  | vals, g :: r => match gateR input vals g with
    | none => none
    | some x => valuesGo input (vals ++ [x]) r
def valuesD : Option (List Int) → D
  | some l => .tup [ints true l, dB true]
  | none => .tup [ints true [], dB false]
theorem sumGo_bnd : ∀ (l : List Int) (o r : Int), (∀ x ∈ l, 0 ≤ x) → 0 ≤ o → o < 4611686018427387904 → sumGo o l = some r → 0 ≤ r ∧ r < 4611686018427387904
  | [], o, r, _, h0, h1, h => by simp only [sumGo, Option.some.injEq] at h; subst h; exact ⟨h0, h1⟩
  | x :: l, o, r, hx, h0, h1, h => by
    rw [sumGo] at h
    split at h
    · cases h
    · have := hx x (by simp)
      exact sumGo_bnd l (o + x) r (fun y hy => hx y (by simp [hy])) (by omega) (by omega) h
theorem mulsR_bnd : ∀ (l : List Int) (o r : Int), (∀ x ∈ l, 0 ≤ x) → 0 ≤ o → o < 4611686018427387904 → mulsR o l = some r → 0 ≤ r ∧ r < 4611686018427387904
  | [], o, r, _, h0, h1, h => by simp only [mulsR, Option.some.injEq] at h; subst h; exact ⟨h0, h1⟩
  | x :: l, o, r, hx, h0, h1, h => by
    rw [mulsR] at h
    have h2 := Int.mul_nonneg h0 (hx x (by simp))
    unfold mulR at h
    split at h
    · cases h
    · rename_i y heq
      split at heq
      · cases heq
      · cases heq
        exact mulsR_bnd l (o * x) r (fun y hy => hx y (by simp [hy])) h2 (by omega) h
theorem prodR_bnd {l : List Int} {r : Int} (hx : ∀ x ∈ l, 0 ≤ x) (h : prodR l = some r) : 0 ≤ r ∧ r < 4611686018427387904 := by
  unfold prodR at h
  split at h
  · cases h; omega
  · exact mulsR_bnd l 1 r hx (by omega) (by omega) h
theorem gateR_bnd {cards input vals : List Int} {i : Int} {g : Gate} {r : Int} (hg : gateB cards i g = true) (hv : ∀ v ∈ vals, 0 ≤ v ∧ v < 4611686018427387904) (h : gateR input vals g = some r) : 0 ≤ r ∧ r < 4611686018427387904 := by
  have hm : ∀ x ∈ g.args.map (valAt vals), 0 ≤ x := by
    intro x hx
    obtain ⟨a, _, rfl⟩ := List.mem_map.1 hx
    unfold valAt
    rw [List.getD_eq_getElem?_getD]
    cases hh : vals[a.toNat]? with
    | none => simp
    | some v => simpa using (hv v (List.mem_of_getElem? hh)).1
  unfold gateR at h
  split at h
  · rename_i hk
    cases h
    rcases gate_kinds hg with ⟨_, h1, h2⟩ | ⟨h1, _⟩ | ⟨h1 | h1, _⟩
    all_goals omega
  · split at h
    · cases h
      split <;> omega
    · split at h
      · exact sumGo_bnd _ 0 r hm (by omega) (by omega) h
      · split at h
        · exact prodR_bnd hm h
        · cases h; omega
theorem has53 : mC.has 53 fn53 := ⟨rfl, fun _ _ _ => rfl⟩
theorem has21 : mC.has 21 fn21 := ⟨rfl, fun _ _ _ => rfl⟩
def vaE (input vals : List Int) : List (Nat × D) := [(1, ints false input), (2, .ptr 0 0), (6, .sl 1 0 1 vals.length none vals.length), (7, dI vals.length)]
def vaL (c : Circ) (vals : List Int) : List LB := [.cells [ints false c.cards, gatesD false c.gates], .grow 1 (intsE vals)]
theorem vaW {c : Circ} {input vals : List Int} {x : Int} {E : List (Nat × D)} {R' : List LB} (he : envOk E 2 (vaE input (vals ++ [x]))) : Weak 0 ⟨74, E, [.cells [ints false c.cards, gatesD false c.gates], .grow 1 (intsE vals ++ [[dI x]])] ++ R'⟩ ⟨74, vaE input (vals ++ [x]), vaL c (vals ++ [x])⟩ := by
  rw [intsE_app]
  exact Weak.cut (L := vaL c (vals ++ [x])) (by simp) he ⟨by simp [LB.sc, D.scs, D.sc, ints, gatesD], intsE_sc _ _, trivial⟩
set_option maxHeartbeats 8000000 in
theorem Values_ok (c : Circ) (hs : c.Small) (input : List Int) (hl : input.length < 1000000) (hv : validB c = true) (hi : inputB c.cards input = true) : Lx.Fn mC 53 [.agg (circC false c), ints false input] (valuesD (valuesGo input [] c.gates)) := by
  refine Lx.Fn.intro has53 (by simp [fn53]) (fun h => by cases h) ?_
  have hcirc : circC false c = [ints false c.cards, gatesD false c.gates] := rfl
  have hlen := inputB_len hi
  have hgl := hs.gates
  simp only [wp, stepL_true, doI, quietI, isCallI, wantedD, LSt.put, LSt.putO, LSt.putE, qL, effL, evD, lk, Lx.cellsO, cells_agg, argsE, Nat.reduceLT, Bool.not_false, if_true, if_false, List.length_nil, List.nil_append, Nat.zero_add, reduceCtorEq, fn53, hcirc]
  refine EvL.loop (α := List Int) (fun vals => ⟨74, vaE input vals, vaL c vals⟩) (fun vals => vals.length ≤ c.gates.length ∧ (∀ v ∈ vals, 0 ≤ v ∧ v < 4611686018427387904) ∧ valuesGo input vals (c.gates.drop vals.length) = valuesGo input [] c.gates) (fun vals => c.gates.length - vals.length) []
    ((Weak.ghost (k := 6) (n := 1) (by simp) (by simp [lk])).trans (Weak.sub (by simp [envSub, lk, vaE]))) (by simp) ?_
  rintro vals ⟨p1, p2, p3⟩
  refine wp_sound ?_
  by_cases hk : vals.length < c.gates.length
  · have hlt : decide ((vals.length : Int) < (c.gates.length : Int)) = true := by simp; omega
    have hw2 : IntKind.i64.wrap ((vals.length : Int) + 1) = ((vals.length + 1 : Nat) : Int) := by rw [wrap64 (by omega) (by omega)]; rfl
    have hgB := validB_get hv _ hk
    have hga := hs.args _ (List.getElem_mem hk)
    have hidx : ∀ L, idxD L 5 (vals.length : Int) (gatesD false c.gates) = some (.fptr false (gateC false c.gates[vals.length])) := fun L => idx_gates L false hk
    rw [drop_cons hk, valuesGo] at p3
    generalize c.gates[vals.length] = g at *
    have hgc : gateC false g = [dI g.kind, dI g.var, dI g.val, dI g.n, ints false g.args] := rfl
    have step : ∀ x, gateR input vals g = some x → (vals ++ [x]).length ≤ c.gates.length ∧ (∀ v ∈ vals ++ [x], 0 ≤ v ∧ v < 4611686018427387904) ∧ valuesGo input (vals ++ [x]) (c.gates.drop (vals ++ [x]).length) = valuesGo input [] c.gates := by
      intro x hx
      rw [hx] at p3
      refine ⟨by simp; omega, fun v hvv => ?_, by simpa using p3⟩
      rcases List.mem_append.1 hvv with h | h
      · exact p2 v h
      · simp at h; subst h; exact gateR_bnd hgB p2 hx
    have hm : ∀ a ∈ g.args, 0 ≤ a ∧ a < vals.length → 0 ≤ valAt vals a ∧ valAt vals a < 4611686018427387904 := by
      intro a _ h
      obtain ⟨hh, e⟩ := valAt_get (vals := vals) h.1 h.2
      rw [e]; exact p2 _ (List.getElem_mem hh)
    rcases gate_kinds hgB with ⟨e, h1, h2⟩ | ⟨e, h1, h2, h3⟩ | ⟨e, h1⟩
    · have hx : gateR input vals g = some g.n := by unfold gateR; rw [if_pos e]
      have e1 : (g.kind == 1) = true := by simp [e]
      simp only [wp, stepL_true, doI, quietI, isCallI, wantedD, LSt.put, LSt.putO, LSt.putE, qL, effL, evD, intD, boolD, litD, litV, lk, pickC_true, pickC_false, loadD_ptr, loadD_fptr, fldD, takeD, slotD, esOf, Lx.cellsO, cells_lit, cells_agg, oneV, fillE, putD, srcD_sl, storeD, appD, binV, intBin, unV, Option.map_some, cond_true, beq_self_eq_true, Nat.reduceEqDiff, Nat.reduceLT, Nat.reduceAdd, Nat.reduceLeDiff, Bool.not_true, Bool.not_false, and_self, if_true, if_false, List.getElem?_cons_zero, List.getElem?_cons_succ, List.length_cons, List.length_nil, List.cons_append, List.nil_append, Nat.zero_add, Nat.add_zero, List.drop_zero, List.drop_succ_cons, List.take_succ_cons, List.take_zero, List.map_cons, List.map_nil, List.set_cons_zero, List.set_cons_succ, List.replicate_succ, List.replicate_zero, vaE, vaL, len_gates, hlt, hidx, hgc, e1, intsE_len, mb8 (show vals.length < 1000000 by omega), hw2]
      refine ⟨vals ++ [g.n], step _ hx, by simp; omega, ?_⟩
      exact vaW (by simp [vaE, envOk, lk, D.sc, ints])
    · have e1 : (g.kind == 1) = false := by simp [e]
      have e2 : (g.kind == 2) = true := by simp [e]
      obtain ⟨hh, ev⟩ := valAt_get (vals := input) h1 (by omega)
      have hq : ∀ L, idxD L 1 g.var (ints false input) = some (.fptr false [dI (valAt input g.var)]) := fun L => by rw [ev]; exact idx_intsZ _ _ h1 hh
      have hx : gateR input vals g = some (if valAt input g.var = -1 ∨ valAt input g.var = g.val then 1 else 0) := by unfold gateR; rw [if_neg (by omega), if_pos e]
      cases c1 : (valAt input g.var == -1)
      · cases c2 : (valAt input g.var == g.val)
        · rw [if_neg (by simp at c1 c2; omega)] at hx
          simp only [wp, stepL_true, doI, quietI, isCallI, wantedD, wantD, LSt.put, LSt.putO, LSt.putE, qL, effL, evD, intD, boolD, litD, litV, lk, pickC_true, pickC_false, loadD_ptr, loadD_fptr, fldD, takeD, slotD, esOf, Lx.cellsO, cells_lit, cells_agg, oneV, fillE, putD, srcD_sl, storeD, appD, binV, intBin, unV, Option.map_some, cond_true, cond_false, beq_self_eq_true, Nat.reduceEqDiff, Nat.reduceLT, Nat.reduceAdd, Nat.reduceLeDiff, Bool.not_true, Bool.not_false, and_self, if_true, if_false, List.getElem?_cons_zero, List.getElem?_cons_succ, List.length_cons, List.length_nil, List.cons_append, List.nil_append, Nat.zero_add, Nat.add_zero, List.drop_zero, List.drop_succ_cons, List.take_succ_cons, List.take_zero, List.map_cons, List.map_nil, List.set_cons_zero, List.set_cons_succ, List.replicate_succ, List.replicate_zero, vaE, vaL, len_gates, hlt, hidx, hgc, e1, e2, hq, c1, c2, intsE_len, mb8 (show vals.length < 1000000 by omega), hw2]
          refine ⟨vals ++ [0], step _ hx, by simp; omega, ?_⟩
          exact vaW (by simp [vaE, envOk, lk, D.sc, ints])
        · rw [if_pos (by simp at c1 c2; omega)] at hx
          simp only [wp, stepL_true, doI, quietI, isCallI, wantedD, wantD, LSt.put, LSt.putO, LSt.putE, qL, effL, evD, intD, boolD, litD, litV, lk, pickC_true, pickC_false, loadD_ptr, loadD_fptr, fldD, takeD, slotD, esOf, Lx.cellsO, cells_lit, cells_agg, oneV, fillE, putD, srcD_sl, storeD, appD, binV, intBin, unV, Option.map_some, cond_true, cond_false, beq_self_eq_true, Nat.reduceEqDiff, Nat.reduceLT, Nat.reduceAdd, Nat.reduceLeDiff, Bool.not_true, Bool.not_false, and_self, if_true, if_false, List.getElem?_cons_zero, List.getElem?_cons_succ, List.length_cons, List.length_nil, List.cons_append, List.nil_append, Nat.zero_add, Nat.add_zero, List.drop_zero, List.drop_succ_cons, List.take_succ_cons, List.take_zero, List.map_cons, List.map_nil, List.set_cons_zero, List.set_cons_succ, List.replicate_succ, List.replicate_zero, vaE, vaL, len_gates, hlt, hidx, hgc, e1, e2, hq, c1, c2, intsE_len, mb8 (show vals.length < 1000000 by omega), hw2]
          refine ⟨vals ++ [1], step _ hx, by simp; omega, ?_⟩
          exact vaW (by simp [vaE, envOk, lk, D.sc, ints])
      · rw [if_pos (by simp at c1; omega)] at hx
        simp only [wp, stepL_true, stepL_false, doI, quietI, isCallI, wantedD, wantD, undefD, LSt.put, LSt.putO, LSt.putE, qL, effL, evD, intD, boolD, litD, litV, lk, pickC_true, pickC_false, loadD_ptr, loadD_fptr, fldD, takeD, slotD, esOf, Lx.cellsO, cells_lit, cells_agg, oneV, fillE, putD, srcD_sl, storeD, appD, binV, intBin, unV, Option.map_some, cond_true, cond_false, beq_self_eq_true, Nat.reduceEqDiff, Nat.reduceLT, Nat.reduceAdd, Nat.reduceLeDiff, Bool.not_true, Bool.not_false, and_self, if_true, if_false, List.getElem?_cons_zero, List.getElem?_cons_succ, List.length_cons, List.length_nil, List.cons_append, List.nil_append, Nat.zero_add, Nat.add_zero, List.drop_zero, List.drop_succ_cons, List.take_succ_cons, List.take_zero, List.map_cons, List.map_nil, List.set_cons_zero, List.set_cons_succ, List.replicate_succ, List.replicate_zero, vaE, vaL, len_gates, hlt, hidx, hgc, e1, e2, hq, c1, intsE_len, mb8 (show vals.length < 1000000 by omega), hw2]
        refine ⟨vals ++ [1], step _ hx, by simp; omega, ?_⟩
        exact vaW (by simp [vaE, envOk, lk, D.sc, ints])
    · have e1 : (g.kind == 1) = false := by rcases e with e | e <;> simp [e]
      have e2 : (g.kind == 2) = false := by rcases e with e | e <;> simp [e]
      have hmm : ∀ x ∈ g.args.map (valAt vals), 0 ≤ x ∧ x < 4611686018427387904 := by
        intro x hx
        obtain ⟨a, q1, rfl⟩ := List.mem_map.1 hx
        exact hm a q1 (h1 a q1)
      rcases e with e | e
      · have e3 : (g.kind == 3) = true := by simp [e]
        have hx : gateR input vals g = sumGo 0 (g.args.map (valAt vals)) := by unfold gateR; rw [if_neg (by omega), if_neg (by omega), if_pos e]
        simp only [wp, stepL_true, doI, quietI, isCallI, wantedD, LSt.put, LSt.putO, LSt.putE, qL, effL, evD, intD, boolD, litD, litV, lk, pickC_true, pickC_false, loadD_ptr, loadD_fptr, fldD, takeD, slotD, Lx.cellsO, cells_agg, putD, storeD, binV, intBin, Option.map_some, cond_true, beq_self_eq_true, Nat.reduceEqDiff, Nat.reduceLT, Nat.reduceAdd, Nat.reduceLeDiff, Bool.not_false, and_self, if_true, if_false, List.getElem?_cons_zero, List.getElem?_cons_succ, List.length_cons, List.length_nil, List.cons_append, List.nil_append, Nat.zero_add, Nat.add_zero, List.drop_zero, List.drop_succ_cons, List.take_succ_cons, List.take_zero, List.map_cons, List.map_nil, List.set_cons_zero, List.set_cons_succ, vaE, vaL, len_gates, hlt, hidx, hgc, e1, e2, e3]
        refine EvL.fn (At_ok vals g.args hga h1) rfl rfl (.cons (snp_own (by simp [esOf, intsE_len]) (fun k h => by cases h)) (.cons (snp_ints _ _ _) .nil)) ?_
        simp only [wp, isCallI, LSt.put, Nat.reduceLT, if_true]
        refine EvL.fn (Sum_ok (g.args.map (valAt vals)) (by simpa using hga) (fun x hx => by have := hmm x hx; omega)) rfl rfl (.cons (snp_ints _ _ _) .nil) ?_
        rw [← hx]
        cases hr : gateR input vals g with
        | none =>
          rw [hr] at p3
          simp only [wp, stepL_true, doI, quietI, isCallI, wantedD, LSt.put, LSt.putO, qL, evD, boolD, litD, litV, lk, pickC_true, unV, Nat.reduceEqDiff, Nat.reduceLT, Bool.not_false, if_true, if_false, List.getElem?_cons_zero, List.getElem?_cons_succ, Option.isSome_none, Option.getD_none]
          rw [← p3]
          exact RetQ.ret rfl (.tups (.cons (.nil 1) (.cons (.lit _) .nil)))
        | some x =>
          simp only [wp, stepL_true, doI, quietI, isCallI, wantedD, LSt.put, LSt.putO, LSt.putE, qL, effL, evD, boolD, litD, litV, lk, pickC_false, esOf, Lx.cellsO, cells_lit, oneV, fillE, srcD_sl, appD, binV, intBin, unV, Option.map_some, cond_true, beq_self_eq_true, Nat.reduceEqDiff, Nat.reduceLT, Nat.reduceAdd, Nat.reduceLeDiff, Bool.not_true, Bool.not_false, and_self, if_true, if_false, List.getElem?_cons_zero, List.getElem?_cons_succ, List.length_cons, List.length_nil, List.cons_append, List.nil_append, Nat.zero_add, List.drop_zero, List.take_succ_cons, List.take_zero, List.map_cons, List.map_nil, List.set_cons_zero, List.set_cons_succ, List.replicate_succ, List.replicate_zero, Option.isSome_some, Option.getD_some, intsE_len, mb8 (show vals.length < 1000000 by omega), hw2]
          refine ⟨vals ++ [x], step _ hr, by simp; omega, ?_⟩
          exact vaW (by simp [vaE, envOk, lk, D.sc, ints])
      · have e3 : (g.kind == 3) = false := by simp [e]
        have e4 : (g.kind == 4) = true := by simp [e]
        have hx : gateR input vals g = prodR (g.args.map (valAt vals)) := by unfold gateR; rw [if_neg (by omega), if_neg (by omega), if_neg (by omega), if_pos e]
        simp only [wp, stepL_true, doI, quietI, isCallI, wantedD, LSt.put, LSt.putO, LSt.putE, qL, effL, evD, intD, boolD, litD, litV, lk, pickC_true, pickC_false, loadD_ptr, loadD_fptr, fldD, takeD, slotD, Lx.cellsO, cells_agg, putD, storeD, binV, intBin, Option.map_some, cond_true, beq_self_eq_true, Nat.reduceEqDiff, Nat.reduceLT, Nat.reduceAdd, Nat.reduceLeDiff, Bool.not_false, and_self, if_true, if_false, List.getElem?_cons_zero, List.getElem?_cons_succ, List.length_cons, List.length_nil, List.cons_append, List.nil_append, Nat.zero_add, Nat.add_zero, List.drop_zero, List.drop_succ_cons, List.take_succ_cons, List.take_zero, List.map_cons, List.map_nil, List.set_cons_zero, List.set_cons_succ, vaE, vaL, len_gates, hlt, hidx, hgc, e1, e2, e3, e4]
        refine EvL.fn (At_ok vals g.args hga h1) rfl rfl (.cons (snp_own (by simp [esOf, intsE_len]) (fun k h => by cases h)) (.cons (snp_ints _ _ _) .nil)) ?_
        simp only [wp, isCallI, LSt.put, Nat.reduceLT, if_true]
        refine EvL.fn (Product_ok (g.args.map (valAt vals)) (by simpa using hga) (fun x hx => by have := hmm x hx; omega)) rfl rfl (.cons (snp_ints _ _ _) .nil) ?_
        rw [← hx]
        cases hr : gateR input vals g with
        | none =>
          rw [hr] at p3
          simp only [wp, stepL_true, doI, quietI, isCallI, wantedD, LSt.put, LSt.putO, qL, evD, boolD, litD, litV, lk, pickC_true, unV, Nat.reduceEqDiff, Nat.reduceLT, Bool.not_false, if_true, if_false, List.getElem?_cons_zero, List.getElem?_cons_succ, Option.isSome_none, Option.getD_none]
          rw [← p3]
          exact RetQ.ret rfl (.tups (.cons (.nil 1) (.cons (.lit _) .nil)))
        | some x =>
          simp only [wp, stepL_true, doI, quietI, isCallI, wantedD, LSt.put, LSt.putO, LSt.putE, qL, effL, evD, boolD, litD, litV, lk, pickC_false, esOf, Lx.cellsO, cells_lit, oneV, fillE, srcD_sl, appD, binV, intBin, unV, Option.map_some, cond_true, beq_self_eq_true, Nat.reduceEqDiff, Nat.reduceLT, Nat.reduceAdd, Nat.reduceLeDiff, Bool.not_true, Bool.not_false, and_self, if_true, if_false, List.getElem?_cons_zero, List.getElem?_cons_succ, List.length_cons, List.length_nil, List.cons_append, List.nil_append, Nat.zero_add, List.drop_zero, List.take_succ_cons, List.take_zero, List.map_cons, List.map_nil, List.set_cons_zero, List.set_cons_succ, List.replicate_succ, List.replicate_zero, Option.isSome_some, Option.getD_some, intsE_len, mb8 (show vals.length < 1000000 by omega), hw2]
          refine ⟨vals ++ [x], step _ hr, by simp; omega, ?_⟩
          exact vaW (by simp [vaE, envOk, lk, D.sc, ints])
  · have hlt : decide ((vals.length : Int) < (c.gates.length : Int)) = false := by simp; omega
    rw [List.drop_of_length_le (by omega), valuesGo] at p3
    simp only [wp, stepL_true, doI, quietI, isCallI, wantedD, LSt.put, LSt.putO, qL, evD, boolD, litD, litV, lk, pickC_false, loadD_ptr, fldD, takeD, binV, intBin, Option.map_some, cond_true, beq_self_eq_true, Nat.reduceEqDiff, Nat.reduceLT, Bool.not_false, if_true, if_false, List.getElem?_cons_zero, List.getElem?_cons_succ, Nat.zero_add, vaE, vaL, len_gates, hlt]
    rw [← p3]
    exact RetQ.ret rfl (.tups (.cons (snp_own (by simp [esOf, intsE_len]) (fun k h => by cases h)) (.cons (.lit _) .nil)))
def refR (c : Circ) (input : List Int) : Int × Int :=
  if validB c = false then (0, 150) else if inputB c.cards input = false then (0, 2) else match valuesGo input [] c.gates with
    | none => (0, 6)
    | some vals => (valAt vals ((vals.length - 1 : Nat) : Int), 0)
theorem valuesGo_len : ∀ (gs : List Gate) (input vals r : List Int), valuesGo input vals gs = some r → r.length = vals.length + gs.length
  | [], input, vals, r, h => by simp only [valuesGo, Option.some.injEq] at h; subst h; simp
  | g :: gs, input, vals, r, h => by
    rw [valuesGo] at h
    split at h
    · cases h
    · have := valuesGo_len gs input _ r h
      simp at this ⊢
      omega
set_option maxHeartbeats 4000000 in
theorem RefEval_ok (c : Circ) (hs : c.Small) (input : List Int) (hl : input.length < 1000000) : Lx.Fn mC 21 [.agg (circC false c), ints false input] (.tup [dI (refR c input).1, dI (refR c input).2]) := by
  refine Lx.Fn.intro has21 (by simp [fn21]) (fun _ => rfl) ?_
  have hcirc : circC false c = [ints false c.cards, gatesD false c.gates] := rfl
  have hgl := hs.gates
  simp only [wp, stepL_true, doI, quietI, isCallI, wantedD, LSt.put, LSt.putO, LSt.putE, qL, effL, evD, lk, loadD_ptr, takeD, slotD, Lx.cellsO, cells_agg, argsE, Nat.reduceEqDiff, Nat.reduceLT, Nat.reduceAdd, Nat.reduceLeDiff, Bool.not_false, if_true, if_false, List.getElem?_cons_zero, List.length_cons, List.length_nil, List.nil_append, Nat.zero_add, List.drop_zero, List.take_succ_cons, List.take_zero, reduceCtorEq, fn21, hcirc]
  refine EvL.fn (Right_ok c hs) rfl rfl (.cons (snp_circ _ _ _) .nil) ?_
  unfold refR
  cases hv : validB c
  · rw [if_pos rfl]
    simp only [wp, stepL_true, doI, quietI, isCallI, wantedD, LSt.put, LSt.putO, qL, evD, boolD, litD, litV, lk, pickC_true, unV, Nat.reduceEqDiff, Nat.reduceLT, Bool.not_false, if_true, if_false, reduceCtorEq]
    exact RetQ.pl rfl rfl
  rw [if_neg (by simp)]
  simp only [wp, stepL_true, doI, quietI, isCallI, wantedD, LSt.put, LSt.putO, qL, evD, boolD, litD, litV, lk, pickC_false, loadD_ptr, takeD, slotD, unV, Nat.reduceEqDiff, Nat.reduceLT, Nat.reduceAdd, Nat.reduceLeDiff, Bool.not_true, Bool.not_false, if_true, if_false, List.getElem?_cons_zero, List.length_cons, List.length_nil, Nat.zero_add, List.drop_zero, List.take_succ_cons, List.take_zero, reduceCtorEq]
  refine EvL.fn (Input_ok c input hl) rfl rfl (.cons (snp_circ _ _ _) (.cons (snp_ints _ _ _) .nil)) ?_
  cases hi : inputB c.cards input
  · rw [if_pos rfl]
    simp only [wp, stepL_true, doI, quietI, isCallI, wantedD, LSt.put, LSt.putO, qL, evD, boolD, litD, litV, lk, pickC_true, unV, Nat.reduceEqDiff, Nat.reduceLT, Bool.not_false, if_true, if_false, reduceCtorEq]
    exact RetQ.pl rfl rfl
  rw [if_neg (by simp)]
  simp only [wp, stepL_true, doI, quietI, isCallI, wantedD, LSt.put, LSt.putO, qL, evD, boolD, litD, litV, lk, pickC_false, loadD_ptr, takeD, slotD, unV, Nat.reduceEqDiff, Nat.reduceLT, Nat.reduceAdd, Nat.reduceLeDiff, Bool.not_true, Bool.not_false, if_true, if_false, List.getElem?_cons_zero, List.length_cons, List.length_nil, Nat.zero_add, List.drop_zero, List.take_succ_cons, List.take_zero, reduceCtorEq]
  refine EvL.fn (Values_ok c hs input hl hv hi) rfl rfl (.cons (snp_circ _ _ _) (.cons (snp_ints _ _ _) .nil)) ?_
  cases hr : valuesGo input [] c.gates with
  | none =>
    simp only [wp, stepL_true, doI, quietI, isCallI, wantedD, LSt.put, LSt.putO, qL, evD, boolD, litD, litV, lk, pickC_true, unV, Nat.reduceEqDiff, Nat.reduceLT, Bool.not_false, if_true, if_false, List.getElem?_cons_zero, List.getElem?_cons_succ, reduceCtorEq, valuesD]
    exact RetQ.pl rfl rfl
  | some vals =>
    have hn := (validB_len hv).1
    have hvl := valuesGo_len _ _ _ _ hr
    simp only [List.length_nil] at hvl
    have hw : IntKind.i64.wrap ((vals.length : Int) - 1) = ((vals.length - 1 : Nat) : Int) := by
      rw [wrap64 (by omega) (by omega)]; omega
    have hlt : ((vals.length - 1 : Nat) : Int) < (vals.length : Int) := by omega
    obtain ⟨hh, ev⟩ := valAt_get (vals := vals) (a := ((vals.length - 1 : Nat) : Int)) (by omega) hlt
    have hq : ∀ L, idxD L 1 ((vals.length - 1 : Nat) : Int) (ints true vals) = some (.fptr true [dI (valAt vals ((vals.length - 1 : Nat) : Int))]) := fun L => by rw [ev]; exact idx_intsZ _ _ (by omega) hh
    simp only [wp, stepL_true, doI, quietI, isCallI, wantedD, LSt.put, LSt.putO, qL, evD, intD, boolD, litD, litV, lk, pickC_false, loadD_fptr, takeD, binV, intBin, unV, Option.map_some, cond_true, beq_self_eq_true, Nat.reduceEqDiff, Nat.reduceLT, Bool.not_true, Bool.not_false, if_true, if_false, List.getElem?_cons_zero, List.getElem?_cons_succ, reduceCtorEq, valuesD, len_ints, hw, hq]
    exact RetQ.pl rfl rfl
end Go.Proofs.Ytbjfkbkmoeibdaa.C
namespace Go.Proofs.Ytbjfkbkmoeibdaa.C
open Go Go.Mx Go.Lx
set_option linter.unusedSimpArgs false
set_option linter.unusedVariables false
set_option maxRecDepth 100000
theorem has23 : mC.has 23 fn23 := ⟨rfl, fun _ _ _ => rfl⟩
def termR (vals : List Int) (i : Int) (g : Gate) (x : Int) : Option Int := prodR (x :: (if g.kind = 4 then (withoutR g.args i).map (valAt vals) else []))
def rPartsGo (vals : List Int) (i : Int) : List Int → List Gate → List Int → Option (List Int)
  | acc, g :: gs, x :: d => if (withoutR g.args i).length = g.args.length then rPartsGo vals i acc gs d else match termR vals i g x with
    | none => none
    | some p => rPartsGo vals i (acc ++ [p]) gs d
  | acc, _, _ => some acc
def refDGo (vals : List Int) (gs : List Gate) : Nat → List Int → Option (List Int)
  | 0, d => some d
  | i + 1, d => match rPartsGo vals i [] (gs.drop (i + 1)) (d.drop (i + 1)) with
    | none => none
    | some parts => match sumGo 0 parts with
      | none => none
      | some s => refDGo vals gs i (d.set i s)
def isPartsGo (v x : Int) : List Int → List Gate → List Int → List Int
  | acc, g :: gs, y :: d => isPartsGo v x (if g.kind = 2 ∧ g.var = v ∧ g.val = x then acc ++ [y] else acc) gs d
  | acc, _, _ => acc
def optGo {α β : Type} (f : α → Option β) : List β → List α → Option (List β)
  | acc, [] => some acc
  | acc, a :: r => match f a with
    | none => none
    | some b => optGo f (acc ++ [b]) r
def rowOf (gs : List Gate) (d : List Int) (v : Nat) (k : Nat) : Option (List Int) := optGo (fun x : Nat => sumGo 0 (isPartsGo v x [] gs d)) [] (List.range k)
def rowsOf (gs : List Gate) (d cards : List Int) : Option (List (List Int)) := optGo (fun v : Nat => rowOf gs d v (cards.getD v 0).toNat) [] (List.range cards.length)
def refDeriveR (c : Circ) (input : List Int) : List (List Int) × Int :=
  if validB c = false then ([], 150) else if inputB c.cards input = false then ([], 2) else match valuesGo input [] c.gates with
    | none => ([], 6)
    | some vals => match refDGo vals c.gates (c.gates.length - 1) (slope0 c.gates.length) with
      | none => ([], 6)
      | some d => match rowsOf c.gates d c.cards with
        | none => ([], 6)
        | some rows => (rows, 0)
structure DOk (m : Nat) (d : List Int) : Prop where
  len : d.length = m
  bnd : ∀ x ∈ d, 0 ≤ x ∧ x < 4611686018427387904
theorem DOk.set {m : Nat} {d : List Int} (h : DOk m d) (k : Nat) {x : Int} (h0 : 0 ≤ x) (h1 : x < 4611686018427387904) : DOk m (d.set k x) := by
  refine ⟨by simp [h.len], fun y hy => ?_⟩
  rcases List.mem_or_eq_of_mem_set hy with hy | rfl
  · exact h.bnd y hy
  · exact ⟨h0, h1⟩
theorem slope0_dok (m : Nat) : DOk m (slope0 m) := DOk.set ⟨by simp, fun x hx => by rw [(List.mem_replicate.1 hx).2]; omega⟩ _ (by omega) (by omega)
theorem mem_without {l : List Int} {n a : Int} (h : a ∈ withoutR l n) : a ∈ l := (List.mem_filter.1 h).1
def tblE (rows : List (List Int)) : List (List D) := rows.map fun r => [ints true r]
theorem tblE_len (rows : List (List Int)) : (tblE rows).length = rows.length := List.length_map ..
theorem mb24 {k : Nat} (h : k < 1000000) : (k + 1) * 24 ≤ maxBytes := by show _ ≤ 140737488355328; omega
theorem isPartsGo_bnd {v x : Int} : ∀ (gs : List Gate) (d acc : List Int), (∀ y ∈ d, 0 ≤ y ∧ y < 4611686018427387904) → (∀ y ∈ acc, 0 ≤ y ∧ y < 4611686018427387904) → (∀ y ∈ isPartsGo v x acc gs d, 0 ≤ y ∧ y < 4611686018427387904) ∧ (isPartsGo v x acc gs d).length ≤ acc.length + gs.length
  | [], d, acc, _, h => by simp only [isPartsGo]; exact ⟨h, by simp⟩
  | g :: gs, [], acc, _, h => by simp only [isPartsGo]; exact ⟨h, by simp⟩
  | g :: gs, y :: d, acc, hd, h => by
    rw [isPartsGo]
    split
    · obtain ⟨h1, h2⟩ := isPartsGo_bnd (v := v) (x := x) gs d (acc ++ [y]) (fun z hz => hd z (by simp [hz])) (fun z hz => by
        rcases List.mem_append.1 hz with hz | hz
        · exact h z hz
        · simp at hz; subst hz; exact hd z (by simp))
      exact ⟨h1, by simp at h2 ⊢; omega⟩
    · obtain ⟨h1, h2⟩ := isPartsGo_bnd (v := v) (x := x) gs d acc (fun z hz => hd z (by simp [hz])) h
      exact ⟨h1, by simp at h2 ⊢; omega⟩
/-- A row is laid still at the end of a table. -/
theorem tblW {N : Nat} {E E' : List (Nat × D)} {b0 b1 x : LB} {out : List (List Int)} {row : List Int} {k0 : Nat} (hk : k0 = 0) (h0 : b0.sc 3 ∧ b0.sc 4 ∧ b0.av 3) (h1 : b1.sc 3 ∧ b1.sc 4 ∧ b1.av 3) (he : envOk E 4 E') (he3 : envOk E' 3 E') (ha : envAv 3 E') :
    Weak k0 ⟨N, E, [b0, b1, .grow 1 (tblE out ++ [[.sl 3 0 1 row.length none row.length]]), .grow 1 (intsE row), x]⟩ ⟨N, E', [b0, b1, .grow 1 (tblE (out ++ [row]))]⟩ := by
  subst hk
  have hsc : ∀ n, ∀ cells ∈ tblE out, D.scs n cells := by
    intro n cells h
    obtain ⟨r, _, rfl⟩ := List.mem_map.1 h
    simp [D.scs, D.sc, ints]
  have hav : ∀ cells ∈ tblE out, D.avs 3 cells := by
    intro cells h
    obtain ⟨r, _, rfl⟩ := List.mem_map.1 h
    simp [D.avs, D.av, ints]
  have w1 : Weak 0 ⟨N, E, [b0, b1, .grow 1 (tblE out ++ [[.sl 3 0 1 row.length none row.length]]), .grow 1 (intsE row), x]⟩ ⟨N, E', [b0, b1, .grow 1 (tblE out ++ [[.sl 3 0 1 row.length none row.length]]), .grow 1 (intsE row)]⟩ := by
    refine Weak.cut (L := [b0, b1, .grow 1 (tblE out ++ [[.sl 3 0 1 row.length none row.length]]), .grow 1 (intsE row)]) (R' := [x]) (Nat.zero_le _) he ⟨h0.2.1, h1.2.1, fun cells h => ?_, intsE_sc _ _, trivial⟩
    rcases List.mem_append.1 h with h | h
    · exact hsc _ cells h
    · simp at h; subst h; simp [D.scs, D.sc]
  have w2 : Weak 0 ⟨N, E', [b0, b1, .grow 1 (tblE out ++ [[.sl 3 0 1 row.length none row.length]]), .grow 1 (intsE row)]⟩ ⟨N, E', [b0, b1, .grow 1 (tblE out ++ [[ints true row]]), .gone]⟩ := by
    refine Weak.frz (β := 3) (n := 1) (es := intsE row) (by simp) (.inr rfl) (intsE_tr _) ha ?_
    have hf : Frz 3 1 (intsE row) (.sl 3 0 1 row.length none row.length) (ints true row) := by
      have := Frz.sl (β := 3) (n := 1) (es := intsE row) (s := 0) (len := row.length) (cap := none) (st := row.length) (intsE_len _).symm (by rw [intsE_len]; omega) (fun k h => by cases h)
      rw [show ((intsE row).drop 0).take row.length = intsE row by rw [← intsE_len]; exact take_all _] at this
      exact this
    exact .there (by decide) (.same h0.2.2) (.there (by decide) (.same h1.2.2) (.there (by decide) (FrzB.app hav rfl (frz_cons hf frz_nil)) (.here (.nil _))))
  refine (w1.trans w2).trans ?_
  have e : tblE out ++ [[ints true row]] = tblE (out ++ [row]) := by simp [tblE]
  rw [e]
  refine Weak.cut (L := [b0, b1, .grow 1 (tblE (out ++ [row]))]) (R' := [.gone]) (Nat.zero_le _) he3 ⟨h0.1, h1.1, fun cells h => ?_, trivial⟩
  obtain ⟨r, _, rfl⟩ := List.mem_map.1 h
  simp [D.scs, D.sc, ints]
end Go.Proofs.Ytbjfkbkmoeibdaa.C
