/-
  Contracts: newRun, Eval. Conditions: none.
-/
import Derived.Test.YtbjfkbkmoeibdaaEvCc9
namespace Go.Proofs.Ytbjfkbkmoeibdaa.C
open Go Go.Mx Go.Lx
set_option linter.unusedSimpArgs false
set_option linter.unusedVariables false
set_option maxRecDepth 100000
def inGo : List Int → List Int → Bool
  | card :: r, x :: s => !(decide (x < -1)) && !(decide (card ≤ x)) && inGo r s
  | _, _ => true
def inputB (cards input : List Int) : Bool := (((input.length : Int) == (cards.length : Int))) && inGo cards input
structure Circ.Small (c : Circ) : Prop where
  cards : c.cards.length < 1000000
  gates : c.gates.length < 1000000
  args : ∀ g ∈ c.gates, g.args.length < 1000000
abbrev nilP : D := .lit (.pointer none)
theorem has49 : mC.has 49 fn49 := ⟨rfl, fun _ _ _ => rfl⟩
theorem has20 : mC.has 20 fn20 := ⟨rfl, fun _ _ _ => rfl⟩
set_option maxHeartbeats 4000000 in
theorem newRun_ok (c : Circ) (hs : c.Small) (input : List Int) (hl : input.length < 1000000) : CallL mC false 49 [.agg (circC false c), ints false input] [.cells (circC false c)]
    (fun d L' => (validB c = false ∧ d = .tup [nilP, dI 150]) ∨ (validB c = true ∧ inputB c.cards input = false ∧ d = .tup [nilP, dI 2]) ∨
      (validB c = true ∧ inputB c.cards input = true ∧ d = .tup [.ptr 2 0, dI 0] ∧ L' = [.cells (circC false c), .cells (circC false c), .cells (runC c input (.lit (.slice none 0 0)))])) fun _ _ => False := by
  refine CallL.code has49 rfl (by simp [fn49]) ?_
  have hcirc : circC false c = [ints false c.cards, gatesD false c.gates] := rfl
  simp only [wp, stepL_true, doI, quietI, isCallI, wantedD, LSt.put, LSt.putO, LSt.putE, qL, effL, evD, lk, loadD_ptr, takeD, slotD, Lx.cellsO, cells_agg, argsE, Nat.reduceEqDiff, Nat.reduceLT, Nat.reduceAdd, Nat.reduceLeDiff, Bool.not_false, if_true, if_false, List.getElem?_cons_zero, List.getElem?_cons_succ, List.length_cons, List.length_nil, List.cons_append, List.nil_append, Nat.zero_add, List.drop_zero, List.take_succ_cons, List.take_zero, reduceCtorEq, fn49, hcirc]
  refine EvL.fn (Check_ok c hs.cards hs.gates hs.args) rfl rfl (.cons (snp_circ _ _ _) .nil) ?_
  cases hv : validB c
  · simp only [wp, stepL_true, doI, quietI, isCallI, wantedD, LSt.put, LSt.putO, qL, evD, boolD, litD, litV, lk, pickC_true, binV, intBin, Option.map_some, cond_true, beq_self_eq_true, Nat.reduceEqDiff, Nat.reduceLT, Bool.not_false, Bool.false_eq_true, true_and, if_true, if_false, reduceCtorEq, Int.reduceBNe]
    exact ⟨_, rfl, .inl rfl⟩
  cases h1 : ((input.length : Int) == (c.cards.length : Int))
  · have hib : inputB c.cards input = false := by unfold inputB; rw [h1]; rfl
    simp only [wp, stepL_true, doI, quietI, isCallI, wantedD, LSt.put, LSt.putO, qL, evD, boolD, litD, litV, lk, pickC_true, pickC_false, loadD_ptr, fldD, takeD, binV, intBin, Option.map_some, cond_true, beq_self_eq_true, Nat.reduceEqDiff, Nat.reduceLT, Bool.not_true, Bool.not_false, Bool.true_eq_false, true_and, if_true, if_false, List.getElem?_cons_zero, List.getElem?_cons_succ, Nat.add_zero, reduceCtorEq, len_ints, bneq, h1]
    exact ⟨_, rfl, .inr (.inl ⟨hib, rfl⟩)⟩
  have hib : inputB c.cards input = inGo c.cards input := by unfold inputB; rw [h1]; rfl
  have hlen : input.length = c.cards.length := by simpa [Int.ofNat_inj] using h1
  rw [hib]
  simp only [wp, stepL_true, doI, quietI, isCallI, wantedD, LSt.put, LSt.putO, qL, evD, boolD, litD, litV, lk, pickC_false, loadD_ptr, fldD, takeD, binV, intBin, Option.map_some, cond_true, beq_self_eq_true, Nat.reduceEqDiff, Nat.reduceLT, Bool.not_true, Bool.not_false, Bool.true_eq_false, true_and, if_true, if_false, List.getElem?_cons_zero, List.getElem?_cons_succ, Nat.add_zero, reduceCtorEq, len_ints, bneq, h1]
  refine EvL.loop (α := Nat) (fun a => ⟨43, [(1, ints false input), (2, .ptr 1 0), (20, ints false input), (21, dI input.length), (22, dI a)], [.cells [ints false c.cards, gatesD false c.gates], .cells [ints false c.cards, gatesD false c.gates]]⟩) (fun a => a ≤ input.length ∧ inGo (c.cards.drop a) (input.drop a) = inGo c.cards input) (fun a => input.length - a) 0 (Weak.sub (by simp [envSub, lk])) (by simp) ?_
  rintro k ⟨p1, p2⟩
  refine wp_sound ?_
  by_cases hk : k < input.length
  · have hlt : decide ((k : Int) < (input.length : Int)) = true := by simp; omega
    have hkc : k < c.cards.length := by omega
    have hw2 : IntKind.i64.wrap ((k : Int) + 1) = ((k + 1 : Nat) : Int) := by rw [wrap64 (by omega) (by omega)]; rfl
    rw [drop_cons hk, drop_cons hkc, inGo] at p2
    cases e1 : decide (input[k] < -1)
    · cases e2 : decide (c.cards[k] ≤ input[k])
      · rw [e1, e2] at p2
        simp only [wp, stepL_true, doI, quietI, isCallI, wantedD, wantD, LSt.put, LSt.putO, qL, evD, intD, boolD, litD, litV, lk, pickC_true, pickC_false, loadD_ptr, loadD_fptr, fldD, takeD, binV, intBin, Option.map_some, cond_true, cond_false, beq_self_eq_true, Nat.reduceEqDiff, Nat.reduceLT, Bool.not_false, if_true, if_false, List.getElem?_cons_zero, List.getElem?_cons_succ, Nat.add_zero, hlt, idx_ints _ _ hk, idx_ints _ _ hkc, e1, e2, hw2]
        exact ⟨k + 1, ⟨by omega, by simpa using p2⟩, by omega, Weak.sub (by simp [envSub, lk])⟩
      · rw [e1, e2] at p2
        simp only [wp, stepL_true, doI, quietI, isCallI, wantedD, wantD, LSt.put, LSt.putO, qL, evD, intD, boolD, litD, litV, lk, pickC_true, loadD_ptr, loadD_fptr, fldD, takeD, binV, intBin, Option.map_some, cond_true, cond_false, beq_self_eq_true, Nat.reduceEqDiff, Nat.reduceLT, Bool.not_false, if_true, if_false, List.getElem?_cons_zero, List.getElem?_cons_succ, Nat.add_zero, hlt, idx_ints _ _ hk, idx_ints _ _ hkc, e1, e2]
        exact ⟨_, rfl, .inr (.inl ⟨by rw [← p2]; rfl, rfl⟩)⟩
    · rw [e1] at p2
      simp only [wp, stepL_true, stepL_false, doI, quietI, isCallI, wantedD, wantD, undefD, LSt.put, LSt.putO, qL, evD, intD, boolD, litD, litV, lk, pickC_true, loadD_fptr, takeD, binV, intBin, Option.map_some, cond_true, cond_false, beq_self_eq_true, Nat.reduceEqDiff, Nat.reduceLT, Bool.not_true, Bool.not_false, if_true, if_false, List.getElem?_cons_zero, hlt, idx_ints _ _ hk, e1]
      exact ⟨_, rfl, .inr (.inl ⟨by rw [← p2]; rfl, rfl⟩)⟩
  · have hlt : decide ((k : Int) < (input.length : Int)) = false := by simp; omega
    rw [List.drop_of_length_le (by omega), List.drop_of_length_le (by omega), inGo] at p2
    simp only [wp, stepL_true, doI, quietI, isCallI, wantedD, LSt.put, LSt.putO, LSt.putE, qL, effL, evD, boolD, litD, litV, lk, pickC_false, loadD_ptr, takeD, slotD, Lx.cellsO, cells_agg, fillD, putD, binV, intBin, Option.map_some, cond_true, beq_self_eq_true, Nat.reduceEqDiff, Nat.reduceLT, Nat.reduceAdd, Nat.reduceLeDiff, Bool.not_false, and_self, if_true, if_false, List.getElem?_cons_zero, List.getElem?_cons_succ, List.length_cons, List.length_nil, List.cons_append, List.nil_append, Nat.zero_add, List.drop_zero, List.drop_succ_cons, List.take_succ_cons, List.take_zero, List.map_cons, List.map_nil, hlt, cells_ints]
    · exact ⟨_, rfl, .inr (.inr ⟨p2.symm, rfl, rfl⟩)⟩
    · intro a b r s h1 h2; cases h1
def evalR (c : Circ) (input : List Int) : Int × Int :=
  if validB c = false then (0, 150) else if inputB c.cards input = false then (0, 2) else match evalGo input [] c.gates with
    | none => (0, 6)
    | some vals => (valAt vals ((vals.length - 1 : Nat) : Int), 0)
theorem inputB_len {cards input : List Int} (h : inputB cards input = true) : input.length = cards.length := by
  simp only [inputB, Bool.and_eq_true, beq_iff_eq] at h
  omega
set_option maxHeartbeats 4000000 in
theorem Eval_ok (c : Circ) (hs : c.Small) (input : List Int) (hl : input.length < 1000000) : Lx.Fn mC 20 [.agg (circC false c), ints false input] (.tup [dI (evalR c input).1, dI (evalR c input).2]) := by
  refine Lx.Fn.intro has20 (by simp [fn20]) (fun _ => rfl) ?_
  have hcirc : circC false c = [ints false c.cards, gatesD false c.gates] := rfl
  simp only [wp, stepL_true, doI, quietI, isCallI, wantedD, LSt.put, LSt.putO, LSt.putE, qL, effL, evD, lk, loadD_ptr, takeD, slotD, Lx.cellsO, cells_agg, argsE, Nat.reduceEqDiff, Nat.reduceLT, Nat.reduceAdd, Nat.reduceLeDiff, Bool.not_false, if_true, if_false, List.getElem?_cons_zero, List.length_cons, List.length_nil, List.nil_append, Nat.zero_add, List.drop_zero, List.take_succ_cons, List.take_zero, reduceCtorEq, fn20, hcirc]
  refine EvL.call rfl rfl (newRun_ok c hs input hl) ?_ (fun _ _ (h : False) => False.elim h)
  rintro r L' (⟨h1, rfl⟩ | ⟨h1, h2, rfl⟩ | ⟨h1, h2, rfl, rfl⟩)
  · unfold evalR
    rw [if_pos h1]
    simp only [wp, stepL_true, doI, quietI, isCallI, wantedD, LSt.put, LSt.putO, qL, evD, boolD, litD, litV, lk, pickC_true, binV, intBin, Option.map_some, cond_true, beq_self_eq_true, Nat.reduceEqDiff, Nat.reduceLT, Bool.not_false, if_true, if_false, List.getElem?_cons_zero, List.getElem?_cons_succ, reduceCtorEq, Int.reduceBNe]
    exact RetQ.pl rfl rfl
  · unfold evalR
    rw [if_neg (by rw [h1]; simp), if_pos h2]
    simp only [wp, stepL_true, doI, quietI, isCallI, wantedD, LSt.put, LSt.putO, qL, evD, boolD, litD, litV, lk, pickC_true, binV, intBin, Option.map_some, cond_true, beq_self_eq_true, Nat.reduceEqDiff, Nat.reduceLT, Bool.not_false, if_true, if_false, List.getElem?_cons_zero, List.getElem?_cons_succ, reduceCtorEq, Int.reduceBNe]
    exact RetQ.pl rfl rfl
  · unfold evalR
    rw [if_neg (by rw [h1]; simp), if_neg (by rw [h2]; simp)]
    simp only [wp, stepL_true, doI, quietI, isCallI, wantedD, LSt.put, LSt.putO, qL, evD, evDs, boolD, litD, litV, lk, pickC_false, binV, intBin, Option.map_some, cond_true, beq_self_eq_true, Nat.reduceEqDiff, Nat.reduceLT, Bool.not_false, if_true, if_false, List.getElem?_cons_zero, List.getElem?_cons_succ, reduceCtorEq, Int.reduceBNe]
    have hev := evaluate_ok c input h1 hs.args (inputB_len h2)
    refine EvL.call rfl rfl (try_ok (L := [.cells (circC false c), .cells (circC false c), .cells (runC c input (.lit (.slice none 0 0)))]) (first := [.ptr 2 0]) (cap := []) hev ?_ ?_) ?_ (fun _ _ (h : False) => False.elim h)
    · rintro d L' ⟨vals, es, _, _, _, _, _, _, rfl⟩; rfl
    · rintro d L' ⟨_, q1, q2⟩; exact ⟨q1, q2⟩
    · rintro r L' (⟨rfl, d, vals, es, q1, q2, q3, q4, q5, q6, rfl⟩ | ⟨rfl, d, L0, ⟨q1, _, _⟩, rfl⟩)
      · rw [q1]
        have hn := (validB_len h1).1
        have eev : evL c input vals es = [.cells (circC false c), .cells (circC false c), .cells [ints false c.cards, gatesD false c.gates, ints false input, .sl 5 0 1 vals.length (some es.length) es.length], .cells [dI 0], .cells rulesC, .els 1 es] := rfl
        have hw : IntKind.i64.wrap ((vals.length : Int) - 1) = ((vals.length - 1 : Nat) : Int) := by
          have := hs.gates
          rw [wrap64 (by omega) (by omega)]; omega
        have hlt : ((vals.length - 1 : Nat) : Int) < (vals.length : Int) := by omega
        have hlt' : vals.length - 1 < vals.length := by omega
        have hva : valAt vals ((vals.length - 1 : Nat) : Int) = vals[vals.length - 1] := by
          obtain ⟨hh, e⟩ := valAt_get (vals := vals) (a := ((vals.length - 1 : Nat) : Int)) (by omega) hlt
          rw [e]; simp
        simp only []
        rw [hva]
        simp only [wp, stepL_true, doI, quietI, isCallI, wantedD, LSt.put, LSt.putO, qL, evD, intD, boolD, litD, litV, lk, pickC_false, lenD_sl, idxD_sl, loadD_ptr, loadD_eptr, fldD, takeD, esOf, binV, intBin, Option.map_some, cond_true, beq_self_eq_true, Nat.reduceEqDiff, Nat.reduceLT, Bool.not_true, Bool.not_false, and_self, if_true, if_false, List.getElem?_cons_zero, List.getElem?_cons_succ, Nat.zero_add, reduceCtorEq, Int.reduceBNe, eev, hw, hlt, Int.natCast_nonneg, Int.toNat_natCast, q5 _ hlt']
        exact RetQ.pl rfl rfl
      · rw [q1]
        simp only [wp, stepL_true, doI, quietI, isCallI, wantedD, LSt.put, LSt.putO, qL, evD, boolD, litD, litV, lk, pickC_true, binV, intBin, Option.map_some, cond_true, beq_self_eq_true, Nat.reduceEqDiff, Nat.reduceLT, Nat.reduceAdd, Bool.not_false, if_true, if_false, List.length_cons, List.length_nil, Nat.zero_add, reduceCtorEq, Int.reduceBNe]
        exact RetQ.pl rfl rfl
end Go.Proofs.Ytbjfkbkmoeibdaa.C
