/-
  Contracts: gates and circuits; validGate. Conditions: none.
-/
import Derived.Test.YtbjfkbkmoeibdaaCc1
namespace Go.Proofs.Ytbjfkbkmoeibdaa.C
open Go Go.Mx Go.Lx
set_option linter.unusedSimpArgs false
set_option linter.unusedVariables false
set_option maxRecDepth 100000
structure Gate where
  kind : Int
  var : Int
  val : Int
  n : Int
  args : List Int
structure Circ where
  cards : List Int
  gates : List Gate
def gateC (t : Bool) (g : Gate) : List D := [dI g.kind, dI g.var, dI g.val, dI g.n, ints t g.args]
def circC (t : Bool) (c : Circ) : List D := [ints t c.cards, .fz t 5 (c.gates.map (gateC t))]
def incr (b i : Int) : List Int → Bool
  | [] => true
  | a :: r => !(decide (a ≤ b)) && !(decide (i ≤ a)) && incr a i r
def gateB (cards : List Int) (i : Int) (g : Gate) : Bool :=
  if g.kind == 1 then decide (0 ≤ g.n) && (decide (g.n ≤ 4611686018427387903) && ((g.var == 0) && ((g.val == 0) && ((g.args.length : Int) == 0))))
  else if g.kind == 2 then decide (0 ≤ g.var) && (decide (g.var < cards.length) && (decide (0 ≤ g.val) && (decide (g.val < cards.getD g.var.toNat 0) && ((g.n == 0) && ((g.args.length : Int) == 0)))))
  else if g.kind == 3 || g.kind == 4 then (g.var == 0) && ((g.val == 0) && ((g.n == 0) && (!((g.args.length : Int) == 0) && incr (-1) i g.args)))
  else false
theorem has42 : mC.has 42 fn42 := ⟨rfl, fun _ _ _ => rfl⟩
theorem map_len {α : Type} (f : α → List D) (xs : List α) : (xs.map f).length = xs.length := List.length_map ..
theorem bneq (m n : Int) : (m != n) = !(m == n) := rfl
set_option maxHeartbeats 1000000 in
theorem validGate_ok (c : Circ) (i : Int) (g : Gate) (hl : g.args.length < 1000000) : Lx.Fn mC 42 [.agg (circC false c), dI i, .agg (gateC false g)] (dB (gateB c.cards i g)) := by
  refine Lx.Fn.intro has42 (by simp [fn42]) (fun _ => rfl) ?_
  unfold gateB
  cases hk1 : (g.kind == 1)
  rotate_left
  · cases h1 : decide (0 ≤ g.n)
    · simp only [fn42, wp, stepL_true, stepL_false, doI, quietI, isCallI, wantedD, wantD, undefD, LSt.put, LSt.putO, LSt.putE, qL, effL, evD, boolD, litD, litV, lk, pickC_true, loadD_ptr, fldD, takeD, Lx.cellsO, cells_agg, binV, intBin, argsE, Option.map_some, cond_true, beq_self_eq_true, Nat.reduceEqDiff, Nat.reduceLT, Nat.reduceAdd, Bool.not_false, if_true, if_false, List.getElem?_cons_zero, List.getElem?_cons_succ, List.length_cons, List.length_nil, List.cons_append, List.nil_append, Nat.zero_add, Nat.add_zero, reduceCtorEq, beq_iff_eq, circC, gateC, hk1, h1]
      exact RetQ.pl rfl rfl
    cases h2 : decide (g.n ≤ 4611686018427387903)
    · simp only [fn42, wp, stepL_true, stepL_false, doI, quietI, isCallI, wantedD, wantD, undefD, LSt.put, LSt.putO, LSt.putE, qL, effL, evD, boolD, litD, litV, lk, pickC_true, loadD_ptr, fldD, takeD, Lx.cellsO, cells_agg, binV, intBin, argsE, Option.map_some, cond_true, beq_self_eq_true, Nat.reduceEqDiff, Nat.reduceLT, Nat.reduceAdd, Bool.not_true, Bool.not_false, if_true, if_false, List.getElem?_cons_zero, List.getElem?_cons_succ, List.length_cons, List.length_nil, List.cons_append, List.nil_append, Nat.zero_add, Nat.add_zero, Bool.true_and, reduceCtorEq, beq_iff_eq, circC, gateC, hk1, h1, h2]
      exact RetQ.pl rfl rfl
    cases h3 : (g.var == 0)
    · simp only [fn42, wp, stepL_true, stepL_false, doI, quietI, isCallI, wantedD, wantD, undefD, LSt.put, LSt.putO, LSt.putE, qL, effL, evD, boolD, litD, litV, lk, pickC_true, loadD_ptr, fldD, takeD, Lx.cellsO, cells_agg, binV, intBin, argsE, Option.map_some, cond_true, beq_self_eq_true, Nat.reduceEqDiff, Nat.reduceLT, Nat.reduceAdd, Bool.not_true, Bool.not_false, if_true, if_false, List.getElem?_cons_zero, List.getElem?_cons_succ, List.length_cons, List.length_nil, List.cons_append, List.nil_append, Nat.zero_add, Nat.add_zero, Bool.true_and, reduceCtorEq, beq_iff_eq, circC, gateC, hk1, h1, h2, h3]
      exact RetQ.pl rfl rfl
    cases h4 : (g.val == 0)
    · simp only [fn42, wp, stepL_true, stepL_false, doI, quietI, isCallI, wantedD, wantD, undefD, LSt.put, LSt.putO, LSt.putE, qL, effL, evD, boolD, litD, litV, lk, pickC_true, loadD_ptr, fldD, takeD, Lx.cellsO, cells_agg, binV, intBin, argsE, Option.map_some, cond_true, beq_self_eq_true, Nat.reduceEqDiff, Nat.reduceLT, Nat.reduceAdd, Bool.not_true, Bool.not_false, if_true, if_false, List.getElem?_cons_zero, List.getElem?_cons_succ, List.length_cons, List.length_nil, List.cons_append, List.nil_append, Nat.zero_add, Nat.add_zero, Bool.true_and, reduceCtorEq, beq_iff_eq, circC, gateC, hk1, h1, h2, h3, h4]
      exact RetQ.pl rfl rfl
    simp only [fn42, wp, stepL_true, doI, quietI, isCallI, wantedD, wantD, LSt.put, LSt.putO, LSt.putE, qL, effL, evD, boolD, litD, litV, lk, pickC_true, lenD_fz, loadD_ptr, fldD, takeD, Lx.cellsO, cells_agg, binV, intBin, argsE, Option.map_some, cond_true, beq_self_eq_true, Nat.reduceEqDiff, Nat.reduceLT, Nat.reduceAdd, Bool.not_true, Bool.not_false, if_true, if_false, List.getElem?_cons_zero, List.getElem?_cons_succ, List.length_cons, List.length_nil, List.cons_append, List.nil_append, Nat.zero_add, Nat.add_zero, Bool.true_and, reduceCtorEq, beq_iff_eq, circC, gateC, ints, hk1, h1, h2, h3, h4, List.length_map]
    exact RetQ.pl rfl rfl
  cases hk2 : (g.kind == 2)
  rotate_left
  · cases h1 : decide (0 ≤ g.var)
    · simp only [fn42, wp, stepL_true, stepL_false, doI, quietI, isCallI, wantedD, wantD, undefD, LSt.put, LSt.putO, LSt.putE, qL, effL, evD, boolD, litD, litV, lk, pickC_true, pickC_false, loadD_ptr, fldD, takeD, Lx.cellsO, cells_agg, binV, intBin, argsE, Option.map_some, cond_true, beq_self_eq_true, Nat.reduceEqDiff, Nat.reduceLT, Nat.reduceAdd, Bool.not_true, Bool.not_false, Bool.false_eq_true, if_true, if_false, List.getElem?_cons_zero, List.getElem?_cons_succ, List.length_cons, List.length_nil, List.cons_append, List.nil_append, Nat.zero_add, Nat.add_zero, reduceCtorEq, circC, gateC, hk1, hk2, h1]
      exact RetQ.pl rfl rfl
    cases h2 : decide (g.var < c.cards.length)
    · simp only [fn42, wp, stepL_true, stepL_false, doI, quietI, isCallI, wantedD, wantD, undefD, LSt.put, LSt.putO, LSt.putE, qL, effL, evD, boolD, litD, litV, lk, pickC_true, pickC_false, lenD_fz, loadD_ptr, fldD, takeD, Lx.cellsO, cells_agg, binV, intBin, argsE, Option.map_some, cond_true, beq_self_eq_true, Nat.reduceEqDiff, Nat.reduceLT, Nat.reduceAdd, Bool.not_true, Bool.not_false, Bool.false_eq_true, if_true, if_false, List.getElem?_cons_zero, List.getElem?_cons_succ, List.length_cons, List.length_nil, List.cons_append, List.nil_append, Nat.zero_add, Nat.add_zero, Bool.true_and, reduceCtorEq, circC, gateC, ints, List.length_map, hk1, hk2, h1, h2]
      exact RetQ.pl rfl rfl
    cases h3 : decide (0 ≤ g.val)
    · simp only [fn42, wp, stepL_true, stepL_false, doI, quietI, isCallI, wantedD, wantD, undefD, LSt.put, LSt.putO, LSt.putE, qL, effL, evD, boolD, litD, litV, lk, pickC_true, pickC_false, lenD_fz, loadD_ptr, fldD, takeD, Lx.cellsO, cells_agg, binV, intBin, argsE, Option.map_some, cond_true, beq_self_eq_true, Nat.reduceEqDiff, Nat.reduceLT, Nat.reduceAdd, Bool.not_true, Bool.not_false, Bool.false_eq_true, if_true, if_false, List.getElem?_cons_zero, List.getElem?_cons_succ, List.length_cons, List.length_nil, List.cons_append, List.nil_append, Nat.zero_add, Nat.add_zero, Bool.true_and, reduceCtorEq, circC, gateC, ints, List.length_map, hk1, hk2, h1, h2, h3]
      exact RetQ.pl rfl rfl
    have h1' : 0 ≤ g.var := of_decide_eq_true h1
    have h2' : g.var < c.cards.length := of_decide_eq_true h2
    have hlt : g.var.toNat < c.cards.length := by omega
    have hg : c.cards.getD g.var.toNat 0 = c.cards[g.var.toNat] := by simp [hlt]
    rw [hg]
    cases h4 : decide (g.val < c.cards[g.var.toNat])
    · simp only [fn42, wp, stepL_true, stepL_false, doI, quietI, isCallI, wantedD, wantD, undefD, LSt.put, LSt.putO, LSt.putE, qL, effL, evD, intD, boolD, litD, litV, lk, pickC_true, pickC_false, lenD_fz, idxD_fz, loadD_ptr, loadD_fptr, fldD, takeD, Lx.cellsO, cells_agg, binV, intBin, argsE, Option.map_some, cond_true, beq_self_eq_true, Nat.reduceEqDiff, Nat.reduceLT, Nat.reduceAdd, Bool.not_true, Bool.not_false, Bool.false_eq_true, and_self, if_true, if_false, List.getElem?_cons_zero, List.getElem?_cons_succ, List.length_cons, List.length_nil, List.cons_append, List.nil_append, Nat.zero_add, Nat.add_zero, decide_true, Bool.true_and, reduceCtorEq, circC, gateC, ints, List.length_map, hk1, hk2, h3, h1', h2', h4, ints_get hlt]
      exact RetQ.pl rfl rfl
    cases h5 : (g.n == 0)
    · simp only [fn42, wp, stepL_true, stepL_false, doI, quietI, isCallI, wantedD, wantD, undefD, LSt.put, LSt.putO, LSt.putE, qL, effL, evD, intD, boolD, litD, litV, lk, pickC_true, pickC_false, lenD_fz, idxD_fz, loadD_ptr, loadD_fptr, fldD, takeD, Lx.cellsO, cells_agg, binV, intBin, argsE, Option.map_some, cond_true, beq_self_eq_true, Nat.reduceEqDiff, Nat.reduceLT, Nat.reduceAdd, Bool.not_true, Bool.not_false, Bool.false_eq_true, and_self, if_true, if_false, List.getElem?_cons_zero, List.getElem?_cons_succ, List.length_cons, List.length_nil, List.cons_append, List.nil_append, Nat.zero_add, Nat.add_zero, decide_true, Bool.true_and, reduceCtorEq, circC, gateC, ints, List.length_map, hk1, hk2, h3, h1', h2', h4, h5, ints_get hlt]
      exact RetQ.pl rfl rfl
    simp only [fn42, wp, stepL_true, doI, quietI, isCallI, wantedD, wantD, LSt.put, LSt.putO, LSt.putE, qL, effL, evD, intD, boolD, litD, litV, lk, pickC_true, pickC_false, lenD_fz, idxD_fz, loadD_ptr, loadD_fptr, fldD, takeD, Lx.cellsO, cells_agg, binV, intBin, argsE, Option.map_some, cond_true, beq_self_eq_true, Nat.reduceEqDiff, Nat.reduceLT, Nat.reduceAdd, Bool.not_true, Bool.not_false, Bool.false_eq_true, and_self, if_true, if_false, List.getElem?_cons_zero, List.getElem?_cons_succ, List.length_cons, List.length_nil, List.cons_append, List.nil_append, Nat.zero_add, Nat.add_zero, decide_true, Bool.true_and, reduceCtorEq, circC, gateC, ints, List.length_map, hk1, hk2, h3, h1', h2', h4, h5, ints_get hlt]
    exact RetQ.pl rfl rfl
  cases hk : (g.kind == 3 || g.kind == 4)
  · simp only [Bool.or_eq_false_iff] at hk
    simp only [fn42, wp, stepL_true, doI, quietI, isCallI, wantedD, LSt.put, LSt.putO, LSt.putE, qL, effL, evD, boolD, litD, litV, lk, pickC_false, loadD_ptr, fldD, takeD, Lx.cellsO, cells_agg, binV, intBin, argsE, Option.map_some, cond_true, beq_self_eq_true, Nat.reduceEqDiff, Nat.reduceLT, Nat.reduceAdd, Bool.not_false, Bool.false_eq_true, if_true, if_false, List.getElem?_cons_zero, List.getElem?_cons_succ, List.length_cons, List.length_nil, List.cons_append, List.nil_append, Nat.zero_add, Nat.add_zero, reduceCtorEq, circC, gateC, ints, hk1, hk2, hk.1, hk.2]
    exact RetQ.pl rfl rfl
  simp only [Bool.or_eq_true] at hk
  have hk' : (bif g.kind == 3 then true else g.kind == 4) = true := by
    rcases hk with h | h
    · rw [h]; rfl
    · cases h3 : (g.kind == 3)
      · exact h
      · rfl
  cases h1 : (g.var == 0)
  · cases h3 : (g.kind == 3) <;> (rw [h3] at hk'; simp only [cond_true, cond_false] at hk'; simp only [fn42, wp, stepL_true, stepL_false, doI, quietI, isCallI, wantedD, wantD, undefD, LSt.put, LSt.putO, LSt.putE, qL, effL, evD, boolD, litD, litV, lk, pickC_true, pickC_false, loadD_ptr, fldD, takeD, Lx.cellsO, cells_agg, binV, intBin, argsE, Option.map_some, cond_true, cond_false, beq_self_eq_true, Nat.reduceEqDiff, Nat.reduceLT, Nat.reduceAdd, Bool.not_true, Bool.not_false, Bool.false_eq_true, if_true, if_false, List.getElem?_cons_zero, List.getElem?_cons_succ, List.length_cons, List.length_nil, List.cons_append, List.nil_append, Nat.zero_add, Nat.add_zero, reduceCtorEq, circC, gateC, ints, hk1, hk2, h3, hk', bneq, h1]; exact RetQ.pl rfl rfl)
  cases h2 : (g.val == 0)
  · cases h3 : (g.kind == 3) <;> (rw [h3] at hk'; simp only [cond_true, cond_false] at hk'; simp only [fn42, wp, stepL_true, stepL_false, doI, quietI, isCallI, wantedD, wantD, undefD, LSt.put, LSt.putO, LSt.putE, qL, effL, evD, boolD, litD, litV, lk, pickC_true, pickC_false, loadD_ptr, fldD, takeD, Lx.cellsO, cells_agg, binV, intBin, argsE, Option.map_some, cond_true, cond_false, beq_self_eq_true, Nat.reduceEqDiff, Nat.reduceLT, Nat.reduceAdd, Bool.not_true, Bool.not_false, Bool.false_eq_true, if_true, if_false, List.getElem?_cons_zero, List.getElem?_cons_succ, List.length_cons, List.length_nil, List.cons_append, List.nil_append, Nat.zero_add, Nat.add_zero, Bool.true_and, reduceCtorEq, circC, gateC, ints, hk1, hk2, h3, hk', bneq, h1, h2]; exact RetQ.pl rfl rfl)
  cases h4 : (g.n == 0)
  · cases h3 : (g.kind == 3) <;> (rw [h3] at hk'; simp only [cond_true, cond_false] at hk'; simp only [fn42, wp, stepL_true, stepL_false, doI, quietI, isCallI, wantedD, wantD, undefD, LSt.put, LSt.putO, LSt.putE, qL, effL, evD, boolD, litD, litV, lk, pickC_true, pickC_false, loadD_ptr, fldD, takeD, Lx.cellsO, cells_agg, binV, intBin, argsE, Option.map_some, cond_true, cond_false, beq_self_eq_true, Nat.reduceEqDiff, Nat.reduceLT, Nat.reduceAdd, Bool.not_true, Bool.not_false, Bool.false_eq_true, if_true, if_false, List.getElem?_cons_zero, List.getElem?_cons_succ, List.length_cons, List.length_nil, List.cons_append, List.nil_append, Nat.zero_add, Nat.add_zero, Bool.true_and, reduceCtorEq, circC, gateC, ints, hk1, hk2, h3, hk', bneq, h1, h2, h4]; exact RetQ.pl rfl rfl)
  cases h5 : ((g.args.length : Int) == 0)
  rotate_left
  · cases h3 : (g.kind == 3) <;> (rw [h3] at hk'; simp only [cond_true, cond_false] at hk'; simp only [fn42, wp, stepL_true, doI, quietI, isCallI, wantedD, wantD, LSt.put, LSt.putO, LSt.putE, qL, effL, evD, boolD, litD, litV, lk, pickC_true, pickC_false, lenD_fz, loadD_ptr, fldD, takeD, Lx.cellsO, cells_agg, binV, intBin, argsE, Option.map_some, cond_true, cond_false, beq_self_eq_true, Nat.reduceEqDiff, Nat.reduceLT, Nat.reduceAdd, Bool.not_true, Bool.not_false, Bool.false_eq_true, if_true, if_false, List.getElem?_cons_zero, List.getElem?_cons_succ, List.length_cons, List.length_nil, List.cons_append, List.nil_append, Nat.zero_add, Nat.add_zero, Bool.and_true, Bool.true_and, reduceCtorEq, circC, gateC, ints, List.length_map, hk1, hk2, h3, hk', bneq, h1, h2, h4, h5]; exact RetQ.pl rfl rfl)
  simp only [Bool.not_false, Bool.true_and]
  cases h3 : (g.kind == 3) <;> (
    rw [h3] at hk'; simp only [cond_true, cond_false] at hk'
    simp only [fn42, wp, stepL_true, doI, quietI, isCallI, wantedD, wantD, LSt.put, LSt.putO, LSt.putE, qL, effL, evD, boolD, litD, litV, lk, pickC_true, pickC_false, lenD_fz, loadD_ptr, fldD, takeD, Lx.cellsO, cells_agg, binV, intBin, argsE, Option.map_some, cond_true, cond_false, beq_self_eq_true, Nat.reduceEqDiff, Nat.reduceLT, Nat.reduceAdd, Bool.not_true, Bool.not_false, Bool.false_eq_true, if_true, if_false, List.getElem?_cons_zero, List.getElem?_cons_succ, List.length_cons, List.length_nil, List.cons_append, List.nil_append, Nat.zero_add, Nat.add_zero, reduceCtorEq, circC, gateC, ints, List.length_map, hk1, hk2, h3, hk', bneq, h1, h2, h4, h5]
    refine EvL.loop (α := Nat × Int) (fun a => ⟨117, [(1, dI i), (101, ints false g.args), (102, dI g.args.length), (103, dI a.1), (7, dI a.2)], _⟩) (fun a => a.1 ≤ g.args.length ∧ incr a.2 i (g.args.drop a.1) = incr (-1) i g.args) (fun a => g.args.length - a.1) (0, -1) (Weak.sub (by simp [envSub, lk, ints])) (by simp) ?_
    rintro ⟨k, b⟩ ⟨p1, p2⟩
    simp only at p1 p2
    refine wp_sound ?_
    by_cases hk : k < g.args.length
    · have hlt : decide ((k : Int) < (g.args.length : Int)) = true := by simp; omega
      have hlt' : (k : Int) < (g.args.length : Int) := by omega
      have hw2 : IntKind.i64.wrap ((k : Int) + 1) = ((k + 1 : Nat) : Int) := by rw [wrap64 (by omega) (by omega)]; rfl
      rw [drop_cons hk, incr] at p2
      cases e1 : decide (g.args[k] ≤ b)
      · cases e2 : decide (i ≤ g.args[k])
        · rw [e1, e2] at p2
          simp only [wp, stepL_true, doI, quietI, isCallI, wantedD, wantD, LSt.put, LSt.putO, qL, evD, intD, boolD, litD, litV, lk, pickC_true, pickC_false, idxD_fz, loadD_fptr, takeD, binV, intBin, Option.map_some, cond_true, cond_false, beq_self_eq_true, Nat.reduceEqDiff, Nat.reduceLT, Bool.not_false, and_self, if_true, if_false, List.getElem?_cons_zero, decide_true, ints, hlt', Int.toNat_natCast, ints_get hk, Int.natCast_nonneg, e1, e2, hw2]
          exact ⟨(k + 1, g.args[k]), ⟨by simp; omega, by simpa using p2⟩, by simp; omega, Weak.sub (by simp [envSub, lk])⟩
        · rw [e1, e2] at p2
          simp only [wp, stepL_true, doI, quietI, isCallI, wantedD, wantD, LSt.put, LSt.putO, qL, evD, intD, boolD, litD, litV, lk, pickC_true, idxD_fz, loadD_fptr, takeD, binV, intBin, Option.map_some, cond_true, cond_false, beq_self_eq_true, Nat.reduceEqDiff, Nat.reduceLT, Bool.not_false, and_self, if_true, if_false, List.getElem?_cons_zero, decide_true, ints, hlt', Int.toNat_natCast, ints_get hk, Int.natCast_nonneg, e1, e2]
          rw [← p2]
          exact RetQ.pl rfl rfl
      · rw [e1] at p2
        simp only [wp, stepL_true, stepL_false, doI, quietI, isCallI, wantedD, wantD, undefD, LSt.put, LSt.putO, qL, evD, intD, boolD, litD, litV, lk, pickC_true, idxD_fz, loadD_fptr, takeD, binV, intBin, Option.map_some, cond_true, cond_false, beq_self_eq_true, Nat.reduceEqDiff, Nat.reduceLT, Bool.not_true, Bool.not_false, and_self, if_true, if_false, List.getElem?_cons_zero, decide_true, ints, hlt', Int.toNat_natCast, ints_get hk, Int.natCast_nonneg, e1]
        rw [← p2]
        exact RetQ.pl rfl rfl
    · have hlt : decide ((k : Int) < (g.args.length : Int)) = false := by simp; omega
      simp only [wp, stepL_true, doI, quietI, isCallI, wantedD, LSt.put, LSt.putO, qL, evD, boolD, litD, litV, lk, pickC_false, binV, intBin, Option.map_some, cond_true, beq_self_eq_true, Nat.reduceEqDiff, Nat.reduceLT, Bool.not_false, if_true, if_false, reduceCtorEq, hlt]
      rw [List.drop_of_length_le (by omega), incr] at p2
      rw [← p2]
      exact RetQ.pl rfl rfl)
end Go.Proofs.Ytbjfkbkmoeibdaa.C
