/-
  Contracts: At, Product, Input, Right, of the references. Conditions: none.
-/
import Derived.Test.YtbjfkbkmoeibdaaDe4
namespace Go.Proofs.Ytbjfkbkmoeibdaa.C
open Go Go.Mx Go.Lx
set_option linter.unusedSimpArgs false
set_option linter.unusedVariables false
set_option maxRecDepth 100000
def intsE (xs : List Int) : List (List D) := xs.map fun x => [dI x]
theorem intsE_len (xs : List Int) : (intsE xs).length = xs.length := List.length_map ..
theorem intsE_app (xs : List Int) (x : Int) : intsE xs ++ [[dI x]] = intsE (xs ++ [x]) := by simp [intsE]
theorem intsE_get (xs : List Int) {i : Nat} {cells : List D} (h : (intsE xs)[i]? = some cells) : ∃ x, xs[i]? = some x ∧ cells = [dI x] := by
  simp only [intsE, List.getElem?_map, Option.map_eq_some_iff] at h
  obtain ⟨x, h1, rfl⟩ := h
  exact ⟨x, h1, rfl⟩
theorem intsE_sc (xs : List Int) (n : Nat) : ∀ cells ∈ intsE xs, D.scs n cells := by
  intro cells h
  obtain ⟨x, _, rfl⟩ := List.mem_map.1 h
  exact ⟨trivial, trivial⟩
theorem snp_own {L : List LB} {t : Bool} {β : Nat} {xs : List Int} {cap : Option Nat} {st : Nat} (h : esOf L β 1 st = some (intsE xs)) (hc : ∀ k, cap = some k → xs.length ≤ k) : Snp L t (.sl β 0 1 xs.length cap st) (ints t xs) := by
  refine .sl h (by rw [intsE_len]; omega) hc (intsE_len xs).symm (fun i cells cells' h1 h2 => ?_) fun i k cells cells' d d' h1 h2 h3 h4 => ?_
  · rw [Nat.zero_add] at h1
    obtain ⟨x, _, rfl⟩ := intsE_get xs h1
    obtain ⟨y, _, rfl⟩ := intsE_get xs h2
    rfl
  · rw [Nat.zero_add] at h1
    obtain ⟨x, q1, rfl⟩ := intsE_get xs h1
    obtain ⟨y, q2, rfl⟩ := intsE_get xs h2
    rw [q1] at q2
    cases q2
    rw [h3] at h4
    cases h4
    cases k with
    | zero => simp at h3; subst h3; exact .lit _
    | succ k => simp at h3
theorem has48 : mC.has 48 fn48 := ⟨rfl, fun _ _ _ => rfl⟩
theorem has47 : mC.has 47 fn47 := ⟨rfl, fun _ _ _ => rfl⟩
theorem has52 : mC.has 52 fn52 := ⟨rfl, fun _ _ _ => rfl⟩
theorem has12 : mC.has 12 fn12 := ⟨rfl, fun _ _ _ => rfl⟩
theorem mb8 {k : Nat} (h : k < 1000000) : (k + 1) * 8 ≤ maxBytes := by show _ ≤ 140737488355328; omega
set_option maxHeartbeats 4000000 in
theorem At_ok (l idx : List Int) (hl : idx.length < 1000000) (hi : ∀ a ∈ idx, 0 ≤ a ∧ a < l.length) : Lx.Fn mC 48 [ints false l, ints false idx] (ints true (idx.map (valAt l))) := by
  refine Lx.Fn.intro has48 (by simp [fn48]) (fun h => by cases h) ?_
  simp only [wp, stepL_true, doI, quietI, isCallI, wantedD, LSt.put, LSt.putO, qL, evD, argsE, Nat.reduceLT, Bool.not_false, if_true, Nat.zero_add, fn48]
  refine EvL.loop (α := Nat) (fun k => ⟨24, [(0, ints false l), (1, ints false idx), (5, .sl 0 0 1 ((idx.take k).map (valAt l)).length none ((idx.take k).map (valAt l)).length), (6, dI k)], [.grow 1 (intsE ((idx.take k).map (valAt l)))]⟩) (fun k => k ≤ idx.length) (fun k => idx.length - k) 0
    ((Weak.ghost (k := 5) (n := 1) (by simp) (by simp [lk])).trans (Weak.sub (by simp [envSub, lk]))) (by simp) ?_
  intro k p1
  refine wp_sound ?_
  have htl : ((idx.take k).map (valAt l)).length = k := by simp; omega
  by_cases hk : k < idx.length
  · have hlt : decide ((k : Int) < (idx.length : Int)) = true := by simp; omega
    have hw2 : IntKind.i64.wrap ((k : Int) + 1) = ((k + 1 : Nat) : Int) := by rw [wrap64 (by omega) (by omega)]; rfl
    obtain ⟨q1, q2⟩ := hi idx[k] (List.getElem_mem hk)
    have hva : valAt l idx[k] = l[idx[k].toNat]'(by omega) := (valAt_get q1 q2).2
    have hq : ∀ L, idxD L 1 idx[k] (ints false l) = some (.fptr false [dI (valAt l idx[k])]) := fun L => by rw [hva]; exact idx_intsZ _ _ q1 (by omega)
    have htk : (idx.take (k + 1)).map (valAt l) = (idx.take k).map (valAt l) ++ [valAt l idx[k]] := by rw [List.take_succ_eq_append_getElem hk, List.map_append]; rfl
    simp only [wp, stepL_true, doI, quietI, isCallI, wantedD, LSt.put, LSt.putO, LSt.putE, qL, effL, evD, intD, boolD, litD, litV, lk, pickC_true, loadD_fptr, takeD, esOf, Lx.cellsO, cells_lit, oneV, fillE, srcD_sl, appD, binV, intBin, Option.map_some, cond_true, beq_self_eq_true, Nat.reduceEqDiff, Nat.reduceLT, Nat.reduceLeDiff, Bool.not_false, and_self, if_true, if_false, List.getElem?_cons_zero, List.getElem?_cons_succ, List.length_cons, List.length_nil, List.cons_append, List.nil_append, Nat.zero_add, List.drop_zero, List.take_succ_cons, List.take_zero, List.map_cons, List.map_nil, List.set_cons_zero, List.replicate_succ, List.replicate_zero, reduceCtorEq, hlt, len_ints, idx_ints _ _ hk, hq, htl, intsE_len, mb8 (show k < 1000000 by omega), hw2]
    refine ⟨k + 1, by omega, by omega, ?_⟩
    rw [htk]
    refine Weak.cutD (L0 := [.grow 1 (intsE ((idx.take k).map (valAt l) ++ [valAt l idx[k]]))]) ?_ (by simp) ?_ ?_
    · rw [← intsE_app]; rfl
    · simp [envOk, lk, D.sc, ints]; omega
    · exact ⟨intsE_sc _ _, trivial⟩
  · have hlt : decide ((k : Int) < (idx.length : Int)) = false := by simp; omega
    have hk' : idx.take k = idx := List.take_of_length_le (by omega)
    simp only [wp, stepL_true, doI, quietI, isCallI, wantedD, LSt.put, LSt.putO, qL, evD, boolD, litD, litV, lk, pickC_false, binV, intBin, Option.map_some, cond_true, beq_self_eq_true, Nat.reduceEqDiff, Nat.reduceLT, Bool.not_false, if_true, if_false, reduceCtorEq, hlt, len_ints]
    refine RetQ.ret rfl ?_
    rw [hk']
    exact snp_own (by simp [esOf, intsE_len]) (fun k h => by cases h)
def mulsR : Int → List Int → Option Int
  | o, [] => some o
  | o, x :: r => match mulR o x with
    | none => none
    | some y => mulsR y r
def prodR (l : List Int) : Option Int := if l.any (· == 0) then some 0 else mulsR 1 l
set_option maxHeartbeats 4000000 in
theorem Product_ok (l : List Int) (hl : l.length < 1000000) (hx : ∀ x ∈ l, 0 ≤ x ∧ x ≤ 4611686018427387904) : Lx.Fn mC 47 [ints false l] (.tup [dI ((prodR l).getD 0), dB (prodR l).isSome]) := by
  refine Lx.Fn.intro has47 (by simp [fn47]) (fun _ => rfl) ?_
  simp only [wp, stepL_true, doI, quietI, isCallI, wantedD, LSt.put, LSt.putO, qL, evD, argsE, Nat.reduceLT, Bool.not_false, if_true, fn47]
  refine EvL.loop (α := Nat) (fun k => ⟨39, [(0, ints false l), (4, dI k)], []⟩) (fun k => k ≤ l.length ∧ (l.drop k).any (· == 0) = l.any (· == 0)) (fun k => l.length - k) 0 (Weak.sub (by simp [envSub, lk])) (by simp) ?_
  rintro k ⟨p1, p2⟩
  refine wp_sound ?_
  by_cases hk : k < l.length
  · have hlt : decide ((k : Int) < (l.length : Int)) = true := by simp; omega
    have hw2 : IntKind.i64.wrap ((k : Int) + 1) = ((k + 1 : Nat) : Int) := by rw [wrap64 (by omega) (by omega)]; rfl
    rw [drop_cons hk, List.any_cons] at p2
    cases e : (l[k] == 0)
    · simp only [wp, stepL_true, doI, quietI, isCallI, wantedD, LSt.put, LSt.putO, qL, evD, intD, boolD, litD, litV, lk, pickC_true, pickC_false, loadD_fptr, takeD, binV, intBin, Option.map_some, cond_true, beq_self_eq_true, Nat.reduceEqDiff, Nat.reduceLT, Bool.not_false, if_true, if_false, List.getElem?_cons_zero, reduceCtorEq, hlt, len_ints, idx_ints _ _ hk, e, hw2]
      exact ⟨k + 1, ⟨by omega, by rw [← p2, e]; simp⟩, by omega, Weak.sub (by simp [envSub, lk])⟩
    · simp only [wp, stepL_true, doI, quietI, isCallI, wantedD, LSt.put, LSt.putO, qL, evD, intD, boolD, litD, litV, lk, pickC_true, loadD_fptr, takeD, binV, intBin, Option.map_some, cond_true, beq_self_eq_true, Nat.reduceEqDiff, Nat.reduceLT, Bool.not_false, if_true, if_false, List.getElem?_cons_zero, reduceCtorEq, hlt, len_ints, idx_ints _ _ hk, e]
      have : l.any (· == 0) = true := by rw [← p2, e]; rfl
      unfold prodR
      rw [if_pos this]
      exact RetQ.pl rfl rfl
  · have hlt : decide ((k : Int) < (l.length : Int)) = false := by simp; omega
    rw [List.drop_of_length_le (by omega)] at p2
    have hp : prodR l = mulsR 1 l := by unfold prodR; rw [← p2]; rfl
    rw [hp]
    simp only [wp, stepL_true, doI, quietI, isCallI, wantedD, LSt.put, LSt.putO, qL, evD, boolD, litD, litV, lk, pickC_false, binV, intBin, Option.map_some, cond_true, beq_self_eq_true, Nat.reduceEqDiff, Nat.reduceLT, Bool.not_false, if_true, if_false, reduceCtorEq, hlt, len_ints]
    refine EvL.loop (α := Nat × Option Int) (fun a => ⟨39, [(0, ints false l), (5, dI (a.2.getD 0)), (6, dB a.2.isSome), (7, dI a.1)], []⟩) (fun a => a.1 ≤ l.length ∧ (∀ o, a.2 = some o → 0 ≤ o ∧ o < 4611686018427387904) ∧ (a.2.bind fun o => mulsR o (l.drop a.1)) = mulsR 1 l) (fun a => l.length - a.1) (0, some 1) (Weak.sub (by simp [envSub, lk])) (by simp) ?_
    rintro ⟨j, a⟩ ⟨r1, r2, r3⟩
    simp only at r1 r2 r3
    refine wp_sound ?_
    by_cases hj : j < l.length
    · have hlt : decide ((j : Int) < (l.length : Int)) = true := by simp; omega
      have hw2 : IntKind.i64.wrap ((j : Int) + 1) = ((j + 1 : Nat) : Int) := by rw [wrap64 (by omega) (by omega)]; rfl
      cases a with
      | none =>
        simp only [wp, stepL_true, doI, quietI, isCallI, wantedD, wantD, LSt.put, LSt.putO, qL, evD, boolD, litD, litV, lk, pickC_false, binV, intBin, Option.map_some, cond_true, beq_self_eq_true, Nat.reduceEqDiff, Nat.reduceLT, Bool.not_true, Bool.not_false, if_true, if_false, reduceCtorEq, hlt, len_ints, Option.isSome_none, Option.getD_none]
        rw [← r3]
        exact RetQ.pl rfl rfl
      | some o =>
        obtain ⟨b1, b2⟩ := r2 o rfl
        obtain ⟨b3, b4⟩ := hx l[j] (List.getElem_mem hj)
        simp only [wp, stepL_true, doI, quietI, isCallI, wantedD, wantD, LSt.put, LSt.putO, qL, evD, intD, boolD, litD, litV, lk, pickC_true, loadD_fptr, takeD, binV, intBin, Option.map_some, cond_true, beq_self_eq_true, Nat.reduceEqDiff, Nat.reduceLT, Bool.not_true, Bool.not_false, if_true, if_false, List.getElem?_cons_zero, reduceCtorEq, hlt, len_ints, Option.isSome_some, Option.getD_some, idx_ints _ _ hj]
        refine EvL.fn (Product2_ok o l[j] b1 (by omega) b3 b4) rfl rfl (.cons (.lit _) (.cons (.lit _) .nil)) ?_
        simp only [wp, stepL_true, doI, quietI, isCallI, wantedD, LSt.put, LSt.putO, qL, evD, litD, litV, lk, binV, intBin, Option.map_some, cond_true, beq_self_eq_true, Nat.reduceEqDiff, Nat.reduceLT, Bool.not_false, if_true, if_false, List.getElem?_cons_zero, List.getElem?_cons_succ, reduceCtorEq, hw2]
        refine ⟨(j + 1, mulR o l[j]), ⟨by simp; omega, fun y hy => ?_, ?_⟩, by simp; omega, Weak.sub (by simp [envSub, lk])⟩
        · simp only [mulR] at hy
          have := Int.mul_nonneg b1 b3
          split at hy
          · cases hy
          · cases hy; exact ⟨this, by omega⟩
        · rw [← r3, drop_cons hj]
          simp only [Option.bind_some, mulsR]
          cases mulR o l[j] <;> rfl
    · have hlt : decide ((j : Int) < (l.length : Int)) = false := by simp; omega
      rw [List.drop_of_length_le (by omega)] at r3
      have ha : a = mulsR 1 l := by
        rw [← r3]
        cases a <;> rfl
      rw [← ha]
      simp only [wp, stepL_true, stepL_false, doI, quietI, isCallI, wantedD, wantD, undefD, LSt.put, LSt.putO, qL, evD, boolD, litD, litV, lk, pickC_false, binV, intBin, Option.map_some, cond_true, beq_self_eq_true, Nat.reduceEqDiff, Nat.reduceLT, Bool.not_false, if_true, if_false, reduceCtorEq, hlt, len_ints]
      exact RetQ.pl rfl rfl
set_option maxHeartbeats 4000000 in
theorem Input_ok (c : Circ) (input : List Int) (hl : input.length < 1000000) : Lx.Fn mC 52 [.agg (circC false c), ints false input] (dB (inputB c.cards input)) := by
  refine Lx.Fn.intro has52 (by simp [fn52]) (fun _ => rfl) ?_
  have hcirc : circC false c = [ints false c.cards, gatesD false c.gates] := rfl
  unfold inputB
  cases h1 : ((input.length : Int) == (c.cards.length : Int))
  · simp only [wp, stepL_true, doI, quietI, isCallI, wantedD, LSt.put, LSt.putO, LSt.putE, qL, effL, evD, boolD, litD, litV, lk, pickC_true, loadD_ptr, fldD, takeD, Lx.cellsO, cells_agg, binV, intBin, argsE, Option.map_some, cond_true, beq_self_eq_true, Nat.reduceEqDiff, Nat.reduceLT, Bool.not_false, if_true, if_false, List.getElem?_cons_zero, List.length_nil, List.nil_append, Nat.zero_add, Nat.add_zero, reduceCtorEq, fn52, len_ints, hcirc, bneq, h1]
    exact RetQ.pl rfl rfl
  have hlen : input.length = c.cards.length := by simpa [Int.ofNat_inj] using h1
  simp only [wp, stepL_true, doI, quietI, isCallI, wantedD, LSt.put, LSt.putO, LSt.putE, qL, effL, evD, boolD, litD, litV, lk, pickC_false, loadD_ptr, fldD, takeD, Lx.cellsO, cells_agg, binV, intBin, argsE, Option.map_some, cond_true, beq_self_eq_true, Nat.reduceEqDiff, Nat.reduceLT, Bool.not_true, Bool.not_false, if_true, if_false, List.getElem?_cons_zero, List.length_nil, List.nil_append, Nat.zero_add, Nat.add_zero, Bool.true_and, reduceCtorEq, fn52, len_ints, hcirc, bneq, h1]
  refine EvL.loop (α := Nat) (fun a => ⟨35, [(1, ints false input), (2, .ptr 0 0), (5, dI a)], [.cells [ints false c.cards, gatesD false c.gates]]⟩) (fun a => a ≤ input.length ∧ inGo (c.cards.drop a) (input.drop a) = inGo c.cards input) (fun a => input.length - a) 0 (Weak.sub (by simp [envSub, lk])) (by simp) ?_
  rintro k ⟨p1, p2⟩
  refine wp_sound ?_
  by_cases hk : k < input.length
  · have hlt : decide ((k : Int) < (input.length : Int)) = true := by simp; omega
    have hkc : k < c.cards.length := by omega
    have hw2 : IntKind.i64.wrap ((k : Int) + 1) = ((k + 1 : Nat) : Int) := by rw [wrap64 (by omega) (by omega)]; rfl
    rw [drop_cons hk, drop_cons hkc, inGo] at p2
    cases e1 : decide (input[k] < -1)
    · cases e2 : decide (c.cards[k] ≤ input[k])
      · rw [e1, e2] at p2
        simp only [wp, stepL_true, doI, quietI, isCallI, wantedD, wantD, LSt.put, LSt.putO, qL, evD, intD, boolD, litD, litV, lk, pickC_true, pickC_false, loadD_ptr, loadD_fptr, fldD, takeD, binV, intBin, Option.map_some, cond_true, cond_false, beq_self_eq_true, Nat.reduceEqDiff, Nat.reduceLT, Bool.not_true, Bool.not_false, if_true, if_false, List.getElem?_cons_zero, Nat.add_zero, hlt, len_ints, idx_ints _ _ hk, idx_ints _ _ hkc, e1, e2, hw2]
        exact ⟨k + 1, ⟨by omega, by simpa using p2⟩, by omega, Weak.sub (by simp [envSub, lk])⟩
      · rw [e1, e2] at p2
        simp only [wp, stepL_true, doI, quietI, isCallI, wantedD, wantD, LSt.put, LSt.putO, qL, evD, intD, boolD, litD, litV, lk, pickC_true, loadD_ptr, loadD_fptr, fldD, takeD, binV, intBin, Option.map_some, cond_true, cond_false, beq_self_eq_true, Nat.reduceEqDiff, Nat.reduceLT, Bool.not_true, Bool.not_false, if_true, if_false, List.getElem?_cons_zero, Nat.add_zero, hlt, len_ints, idx_ints _ _ hk, idx_ints _ _ hkc, e1, e2]
        rw [← p2]
        exact RetQ.pl rfl rfl
    · rw [e1] at p2
      simp only [wp, stepL_true, stepL_false, doI, quietI, isCallI, wantedD, wantD, undefD, LSt.put, LSt.putO, qL, evD, intD, boolD, litD, litV, lk, pickC_true, loadD_fptr, takeD, binV, intBin, Option.map_some, cond_true, cond_false, beq_self_eq_true, Nat.reduceEqDiff, Nat.reduceLT, Bool.not_true, Bool.not_false, if_true, if_false, List.getElem?_cons_zero, hlt, len_ints, idx_ints _ _ hk, e1]
      rw [← p2]
      exact RetQ.pl rfl rfl
  · have hlt : decide ((k : Int) < (input.length : Int)) = false := by simp; omega
    rw [List.drop_of_length_le (by omega), List.drop_of_length_le (by omega), inGo] at p2
    simp only [wp, stepL_true, doI, quietI, isCallI, wantedD, LSt.put, LSt.putO, qL, evD, boolD, litD, litV, lk, pickC_false, binV, intBin, Option.map_some, cond_true, beq_self_eq_true, Nat.reduceEqDiff, Nat.reduceLT, Bool.not_false, if_true, if_false, hlt, len_ints]
    · rw [← p2]
      exact RetQ.pl rfl rfl
    · intro a b r s h1 h2; cases h1
set_option maxHeartbeats 4000000 in
theorem Right_ok (c : Circ) (hs : c.Small) : Lx.Fn mC 12 [.agg (circC false c)] (dB (validB c)) := by
  refine Lx.Fn.intro has12 (by simp [fn12]) (fun _ => rfl) ?_
  have hcirc : circC false c = [ints false c.cards, gatesD false c.gates] := rfl
  have hg := hs.gates
  simp only [wp, stepL_true, doI, quietI, isCallI, wantedD, LSt.put, LSt.putO, LSt.putE, qL, effL, evD, lk, loadD_ptr, fldD, takeD, Lx.cellsO, cells_agg, argsE, Nat.reduceEqDiff, Nat.reduceLT, Bool.not_false, if_true, if_false, List.getElem?_cons_zero, List.length_nil, List.nil_append, Nat.add_zero, reduceCtorEq, fn12, hcirc]
  refine EvL.fn (Cards_ok c.cards hs.cards) rfl rfl (.cons (snp_ints _ _ _) .nil) ?_
  unfold validB
  cases h0 : cardsB c.cards
  · simp only [wp, stepL_true, stepL_false, doI, quietI, isCallI, wantedD, wantD, undefD, LSt.put, LSt.putO, qL, evD, boolD, litD, litV, lk, pickC_true, unV, cond_false, Nat.reduceEqDiff, Nat.reduceLT, Bool.not_true, Bool.not_false, if_true, if_false, reduceCtorEq]
    exact RetQ.pl rfl rfl
  cases h3 : decide ((c.gates.length : Int) < 1)
  rotate_left
  · have e : decide (1 ≤ c.gates.length) = false := by have hh := of_decide_eq_true h3; simp only [decide_eq_false_iff_not]; omega
    simp only [wp, stepL_true, stepL_false, doI, quietI, isCallI, wantedD, wantD, undefD, LSt.put, LSt.putO, qL, evD, boolD, litD, litV, lk, pickC_true, loadD_ptr, fldD, takeD, binV, intBin, unV, Option.map_some, cond_true, cond_false, beq_self_eq_true, Nat.reduceEqDiff, Nat.reduceLT, Bool.not_true, Bool.not_false, if_true, if_false, List.getElem?_cons_zero, List.getElem?_cons_succ, Nat.zero_add, Bool.true_and, reduceCtorEq, len_gates, h3, e]
    exact RetQ.pl rfl rfl
  have e3 : decide (1 ≤ c.gates.length) = true := by have hh := of_decide_eq_false h3; simp only [decide_eq_true_eq]; omega
  cases h4 : decide ((4000 : Int) < c.gates.length)
  rotate_left
  · have e : decide (c.gates.length ≤ 4000) = false := by have hh := of_decide_eq_true h4; simp only [decide_eq_false_iff_not]; omega
    simp only [wp, stepL_true, doI, quietI, isCallI, wantedD, wantD, LSt.put, LSt.putO, qL, evD, boolD, litD, litV, lk, pickC_true, loadD_ptr, fldD, takeD, binV, intBin, unV, Option.map_some, cond_true, cond_false, beq_self_eq_true, Nat.reduceEqDiff, Nat.reduceLT, Bool.not_true, Bool.not_false, if_true, if_false, List.getElem?_cons_zero, List.getElem?_cons_succ, Nat.zero_add, Bool.true_and, reduceCtorEq, len_gates, h3, h4, e, e3]
    exact RetQ.pl rfl rfl
  have e4 : decide (c.gates.length ≤ 4000) = true := by have hh := of_decide_eq_false h4; simp only [decide_eq_true_eq]; omega
  simp only [wp, stepL_true, doI, quietI, isCallI, wantedD, wantD, LSt.put, LSt.putO, qL, evD, boolD, litD, litV, lk, pickC_false, loadD_ptr, fldD, takeD, binV, intBin, unV, Option.map_some, cond_true, cond_false, beq_self_eq_true, Nat.reduceEqDiff, Nat.reduceLT, Bool.not_true, Bool.not_false, if_true, if_false, List.getElem?_cons_zero, List.getElem?_cons_succ, Nat.zero_add, Bool.true_and, reduceCtorEq, len_gates, h3, h4, e3, e4]
  refine EvL.loop (α := Nat) (fun a => ⟨37, [(1, .ptr 0 0), (3, dI a)], [.cells (circC false c)]⟩) (fun a => a ≤ c.gates.length ∧ gatesB c.cards a (c.gates.drop a) = gatesB c.cards 0 c.gates) (fun a => c.gates.length - a) 0 (Weak.sub (by simp [envSub, lk])) (by simp) ?_
  rintro j ⟨r1, r2⟩
  refine wp_sound ?_
  by_cases hj : j < c.gates.length
  · have hlt : decide ((j : Int) < (c.gates.length : Int)) = true := by simp; omega
    have hw2 : IntKind.i64.wrap ((j : Int) + 1) = ((j + 1 : Nat) : Int) := by rw [wrap64 (by omega) (by omega)]; rfl
    have hgc : gateC false c.gates[j] = [dI c.gates[j].kind, dI c.gates[j].var, dI c.gates[j].val, dI c.gates[j].n, ints false c.gates[j].args] := rfl
    rw [gatesB_drop hj] at r2
    simp only [wp, stepL_true, doI, quietI, isCallI, wantedD, LSt.put, LSt.putO, qL, evD, intD, boolD, litD, litV, lk, pickC_true, loadD_ptr, loadD_fptr, fldD, takeD, slotD, binV, intBin, Option.map_some, cond_true, beq_self_eq_true, Nat.reduceEqDiff, Nat.reduceLT, Nat.reduceAdd, Nat.reduceLeDiff, Bool.not_true, Bool.not_false, if_true, if_false, List.getElem?_cons_zero, List.getElem?_cons_succ, List.length_cons, List.length_nil, Nat.zero_add, Nat.add_zero, List.drop_zero, List.take_succ_cons, List.take_zero, hlt, idx_gates _ _ hj, hcirc, hgc, len_gates]
    refine EvL.fn (good_ok c.cards j c.gates[j] (hs.args _ (List.getElem_mem hj))) rfl rfl (.cons (snp_gate _ _ _) (.cons (.lit _) (.cons (snp_ints _ _ _) .nil))) ?_
    cases e7 : gateB c.cards j c.gates[j]
    · simp only [wp, stepL_true, doI, quietI, isCallI, wantedD, LSt.put, LSt.putO, qL, evD, boolD, litD, litV, lk, pickC_true, unV, Nat.reduceEqDiff, Nat.reduceLT, Bool.not_false, if_true, if_false]
      rw [← r2, e7]
      exact RetQ.pl rfl rfl
    · simp only [wp, stepL_true, doI, quietI, isCallI, wantedD, LSt.put, LSt.putO, qL, evD, boolD, litD, litV, lk, pickC_false, binV, intBin, unV, Option.map_some, cond_true, beq_self_eq_true, Nat.reduceEqDiff, Nat.reduceLT, Bool.not_true, Bool.not_false, if_true, if_false, hw2]
      rw [e7, Bool.true_and] at r2
      exact ⟨j + 1, ⟨by omega, r2⟩, by omega, Weak.sub (by simp [envSub, lk])⟩
  · have hlt : decide ((j : Int) < (c.gates.length : Int)) = false := by simp; omega
    simp only [wp, stepL_true, doI, quietI, isCallI, wantedD, LSt.put, LSt.putO, qL, evD, boolD, litD, litV, lk, pickC_false, loadD_ptr, fldD, takeD, binV, intBin, Option.map_some, cond_true, beq_self_eq_true, Nat.reduceEqDiff, Nat.reduceLT, Bool.not_false, if_true, if_false, List.getElem?_cons_zero, List.getElem?_cons_succ, Nat.zero_add, hlt, hcirc, len_gates]
    rw [List.drop_of_length_le (by omega), gatesB] at r2
    rw [← r2]
    exact RetQ.pl rfl rfl
end Go.Proofs.Ytbjfkbkmoeibdaa.C
