/-
  CircuitDerives returns true for all arguments. Conditions: none.
-/
import Derived.Test.YtbjfkbkmoeibdaaDe7
import Derived.Test.YtbjfkbkmoeibdaaDe9
import Derived.Test.YtbjfkbkmoeibdaaDe10
namespace Go.Proofs.Ytbjfkbkmoeibdaa.C
open Go Go.Mx Go.Lx
set_option linter.unusedSimpArgs false
set_option linter.unusedVariables false
set_option maxRecDepth 100000
theorem addT_top : ∀ (l : List Int), (∀ x ∈ l, 0 ≤ x) → l.foldl addT 4611686018427387904 = 4611686018427387904
  | [], _ => rfl
  | x :: l, h => by
    have h0 := h x (by simp)
    have : addT 4611686018427387904 x = 4611686018427387904 := by unfold addT; split <;> omega
    rw [List.foldl_cons, this]
    exact addT_top l fun y hy => h y (by simp [hy])
theorem sum_same : ∀ (l : List Int) (o : Int), (∀ x ∈ l, 0 ≤ x) → 0 ≤ o → o < 4611686018427387904 → l.foldl addT o = (sumGo o l).getD 4611686018427387904
  | [], o, _, _, _ => rfl
  | x :: l, o, h, h0, h1 => by
    have hx := h x (by simp)
    have hl : ∀ y ∈ l, 0 ≤ y := fun y hy => h y (by simp [hy])
    rw [List.foldl_cons, sumGo]
    by_cases hc : x > 4611686018427387904 - 1 - o
    · rw [if_pos (by omega)]
      have : addT o x = 4611686018427387904 := by unfold addT; split <;> omega
      rw [this, addT_top l hl]; rfl
    · rw [if_neg (by omega)]
      have : addT o x = o + x := by unfold addT; rw [if_neg (by omega)]
      rw [this]
      exact sum_same l (o + x) hl (by omega) (by omega)
theorem mulT_zero : ∀ (l : List Int), l.foldl mulT 0 = 0
  | [] => rfl
  | x :: l => by
    have : mulT 0 x = 0 := by unfold mulT; simp
    rw [List.foldl_cons, this]; exact mulT_zero l
theorem mulT_any : ∀ (l : List Int) (u : Int), l.any (· == 0) = true → l.foldl mulT u = 0
  | [], u, h => by simp at h
  | x :: l, u, h => by
    rw [List.foldl_cons]
    by_cases hx : x = 0
    · subst hx
      have : mulT u 0 = 0 := by unfold mulT; simp
      rw [this]; exact mulT_zero l
    · refine mulT_any l _ ?_
      simpa [hx] using h
theorem mulT_top : ∀ (l : List Int), (∀ x ∈ l, 1 ≤ x) → l.foldl mulT 4611686018427387904 = 4611686018427387904
  | [], _ => rfl
  | x :: l, h => by
    have h0 := h x (by simp)
    have h1 : (4611686018427387904 : Int) * 1 ≤ 4611686018427387904 * x := Int.mul_le_mul_of_nonneg_left h0 (by omega)
    have : mulT 4611686018427387904 x = 4611686018427387904 := by unfold mulT; rw [if_pos (by omega)]
    rw [List.foldl_cons, this]
    exact mulT_top l fun y hy => h y (by simp [hy])
theorem muls_same : ∀ (l : List Int) (o : Int), (∀ x ∈ l, 1 ≤ x) → 0 ≤ o → o < 4611686018427387904 → l.foldl mulT o = (mulsR o l).getD 4611686018427387904
  | [], o, _, _, _ => rfl
  | x :: l, o, h, h0, h1 => by
    have hx := h x (by simp)
    have hl : ∀ y ∈ l, 1 ≤ y := fun y hy => h y (by simp [hy])
    rw [List.foldl_cons, mulsR]
    unfold mulR
    by_cases hc : 4611686018427387904 ≤ o * x
    · have : mulT o x = 4611686018427387904 := by unfold mulT; rw [if_pos hc]
      rw [this, mulT_top l hl]
      rw [if_pos hc]; rfl
    · have : mulT o x = o * x := by unfold mulT; rw [if_neg hc]
      rw [this, if_neg hc]
      exact muls_same l (o * x) hl (Int.mul_nonneg h0 (by omega)) (by omega)
theorem prod_same {l : List Int} (h : ∀ x ∈ l, 0 ≤ x) : l.foldl mulT 1 = (prodR l).getD 4611686018427387904 := by
  unfold prodR
  cases hz : l.any (· == 0) with
  | true => rw [if_pos rfl, mulT_any l 1 hz]; rfl
  | false =>
    rw [if_neg (by simp)]
    refine muls_same l 1 (fun x hx => ?_) (by omega) (by omega)
    have h1 := h x hx
    have h2 : x ≠ 0 := by
      rintro rfl
      have := List.any_eq_false.1 hz 0 hx
      simp at this
    omega
theorem inGo_get : ∀ {cards input : List Int}, inGo cards input = true → input.length = cards.length → ∀ k : Nat, -1 ≤ input.getD k 0
  | [], [], _, _, k => by simp
  | [], _ :: _, _, h, _ => by simp at h
  | _ :: _, [], _, h, _ => by simp at h
  | c :: r, x :: s, h, hl, k => by
    rw [inGo] at h
    simp only [Bool.and_eq_true, Bool.not_eq_true', decide_eq_false_iff_not] at h
    cases k with
    | zero => simp; omega
    | succ k => simpa using inGo_get h.2 (by simpa using hl) k
theorem gate_same2 {cards input vals : List Int} {i : Int} {g : Gate} (hg : gateB cards i g = true) (hi : ∀ k : Nat, -1 ≤ input.getD k 0) (hv : ∀ v ∈ vals, 0 ≤ v ∧ v < 4611686018427387904) : gateV input vals g = (gateR input vals g).getD 4611686018427387904 := by
  have hm : ∀ x ∈ g.args.map (valAt vals), 0 ≤ x := by
    intro x hx
    obtain ⟨a, _, rfl⟩ := List.mem_map.1 hx
    unfold valAt
    rw [List.getD_eq_getElem?_getD]
    cases hh : vals[a.toNat]? with
    | none => simp
    | some v => simpa using (hv v (List.mem_of_getElem? hh)).1
  unfold gateV gateR
  rcases gate_kinds hg with ⟨e, h1, h2⟩ | ⟨e, h1, h2, h3⟩ | ⟨e | e, h1⟩
  · rw [if_pos e, if_pos e]; rfl
  · rw [if_neg (by omega), if_pos e, if_neg (by omega), if_pos e]
    have := hi g.var.toNat
    unfold isV valAt
    simp only [Option.getD_some]
    split
    · rw [if_neg (by omega)]
    · rw [if_pos (by omega)]
  · rw [if_neg (by omega), if_neg (by omega), if_pos e, if_neg (by omega), if_neg (by omega), if_pos e]
    exact sum_same _ 0 hm (by omega) (by omega)
  · rw [if_neg (by omega), if_neg (by omega), if_neg (by omega), if_neg (by omega), if_neg (by omega), if_neg (by omega), if_pos e]
    exact prod_same hm
theorem eval_same {cards input : List Int} (hi : ∀ k : Nat, -1 ≤ input.getD k 0) : ∀ (gs : List Gate) (vals : List Int) (i : Int), gatesB cards i gs = true → (∀ v ∈ vals, 0 ≤ v ∧ v < 4611686018427387904) → evalGo input vals gs = valuesGo input vals gs
  | [], vals, i, _, _ => rfl
  | g :: gs, vals, i, hg, hv => by
    rw [gatesB, Bool.and_eq_true] at hg
    rw [evalGo, valuesGo, gate_same2 hg.1 hi hv]
    cases hr : gateR input vals g with
    | none => simp
    | some x =>
      have hb := gateR_bnd hg.1 hv hr
      simp only [Option.getD_some]
      rw [if_neg (by omega)]
      refine eval_same hi gs _ _ hg.2 fun v h => ?_
      rcases List.mem_append.1 h with h | h
      · exact hv v h
      · simp at h; subst h; exact hb
theorem evals_same (c : Circ) (input : List Int) : evalR c input = refR c input := by
  unfold evalR refR
  cases hv : validB c with
  | false => simp only [if_true]
  | true =>
    cases hi : inputB c.cards input with
    | false => simp only [Bool.true_eq_false, if_false, if_true]
    | true =>
      have h1 : gatesB c.cards 0 c.gates = true := by
        unfold validB at hv
        simp only [Bool.and_eq_true] at hv
        exact hv.2.2.2
      have h2 : inGo c.cards input = true := by
        unfold inputB at hi
        simp only [Bool.and_eq_true] at hi
        exact hi.2
      simp only [Bool.true_eq_false, if_false]
      rw [eval_same (inGo_get h2 (inputB_len hi)) c.gates [] 0 h1 (fun v h => by simp at h)]
      cases valuesGo input [] c.gates <;> rfl
theorem has4 : mC.has 4 fn4 := ⟨rfl, fun _ _ _ => rfl⟩
theorem wakes2_ok : Lx.Fn mC 10 [] (dB true) := by
  intro z B H vs hz hB hr
  have hvs : vs = [] := List.eq_nil_of_length_eq_zero hr.1.symm
  subst hvs
  refine ⟨1, .ret (.lit (.bool true)), H, fun n hn => ?_, Nat.le_refl _, fun _ _ => rfl, _, fun _ => none, rfl, fun b cs hb => (by cases hb), .lit _⟩
  obtain ⟨m, rfl⟩ : ∃ m, n = m + 1 := ⟨n - 1, by omega⟩
  rfl
theorem snp_eight {L : List LB} (l : List Int) : Snp L false (.agg (l.map dU8)) (.agg (l.map dU8)) := by
  refine .agg rfl fun i x x' h1 h2 => ?_
  rw [h1] at h2; cases h2
  obtain ⟨y, _, rfl⟩ := List.mem_map.1 (List.mem_of_getElem? h1)
  exact .lit _
set_option maxHeartbeats 8000000 in
theorem Evals_ok (d : Dr) (hd : d.Ok) (b0 b1 : Bd) (h0 : b0.Ok) (h1 : b1.Ok) (raw : Circ) (hraw : ∀ x ∈ raw.cards, x < 9223372036854775808) (l : List Int) (h8 : l.length = 8) (hl8 : ∀ x ∈ l, 0 ≤ x ∧ x < 256) (odd : List Int) :
    Lx.Fn mC 4 [.agg (drC d), .agg (bdC b0 ++ bdC b1), .agg (circC false raw), .agg (l.map dU8), ints false odd] (dB true) := by
  refine Lx.Fn.intro has4 (by simp [fn4]) (fun _ => rfl) ?_
  have hbd : bdC b0 ++ bdC b1 = [dU8 b0.w, dU8 b0.a, dI b0.n, dU8 b1.w, dU8 b1.a, dI b1.n] := rfl
  have edr : drC d = [u8s d.cards, g4s d.gates, dB d.big] := rfl
  have eraw : circC false raw = [ints false raw.cards, gatesD false raw.gates] := rfl
  have hl8' : (l.map dU8).length = 8 := by simp [h8]
  have hl8'' : (l.map dU8).take 8 = l.map dU8 := List.take_of_length_le (by rw [hl8']; exact Nat.le_refl 8)
  have hodd : ∀ L, slcD L 1 none (some ((min odd.length 10 : Nat) : Int)) none (ints false odd) = some (ints false (odd.take 10)) := fun L => by rw [slc_ints L false (by omega), take_min]
  simp only [wp, stepL_true, doI, quietI, isCallI, wantedD, LSt.put, LSt.putO, LSt.putE, qL, effL, evD, lk, Lx.cellsO, cells_agg, argsE, Nat.reduceEqDiff, Nat.reduceLT, Nat.reduceAdd, Bool.not_false, if_true, if_false, List.length_cons, List.length_nil, List.cons_append, List.nil_append, Nat.zero_add, reduceCtorEq, fn4, edr, hbd, eraw]
  refine EvL.fn wakes2_ok rfl rfl .nil ?_
  simp only [wp, stepL_true, doI, quietI, isCallI, wantedD, LSt.put, LSt.putO, qL, evD, boolD, litD, litV, lk, pickC_false, loadD_ptr, takeD, slotD, unV, Nat.reduceEqDiff, Nat.reduceLT, Nat.reduceAdd, Nat.reduceLeDiff, Bool.not_true, Bool.not_false, if_true, if_false, List.getElem?_cons_zero, List.getElem?_cons_succ, List.length_cons, List.length_nil, Nat.zero_add, List.drop_zero, List.take_succ_cons, List.take_zero, reduceCtorEq]
  refine EvL.fnA (circuits_ok d hd b0 b1 h0 h1 raw) rfl rfl raw_fr (fourC_fr d b0 b1 raw) ?_
  have hat := fun {k : Nat} (hk : k < 4) => fourC_at (d := d) (b0 := b0) (b1 := b1) (raw := raw) hk
  have hfine := four_fine (d := d) h0 h1 hraw
  have hlen := fourC_len d b0 b1 raw
  have hsc8 : D.scs 4 (fourC d b0 b1 raw) := by simp [fourC, four, circC, ints, D.scs, D.sc]
  have hscl : D.scs 4 (l.map dU8) := by
    refine scs_iff.2 fun x hx => ?_
    obtain ⟨y, _, rfl⟩ := List.mem_map.1 hx
    trivial
  generalize fourC d b0 b1 raw = ds8 at *
  generalize four d b0 b1 raw = cs4 at *
  simp only [wp, stepL_true, doI, quietI, isCallI, wantedD, LSt.put, LSt.putO, qL, evD, Nat.reduceLT, if_true]
  refine EvL.loop (α := Nat) (fun k => ⟨68, [(4, ints false odd), (8, .ptr 3 0), (24, .agg ds8), (25, dI k)], [.cells [u8s d.cards, g4s d.gates, dB d.big], .cells [dU8 b0.w, dU8 b0.a, dI b0.n, dU8 b1.w, dU8 b1.a, dI b1.n], .cells [ints false raw.cards, gatesD false raw.gates], .cells (l.map dU8)]⟩) (fun k => k ≤ 4) (fun k => 4 - k) 0 (Weak.sub (by simp [envSub, lk])) (by simp) ?_
  intro k p1
  refine wp_sound ?_
  by_cases hk : k < 4
  · obtain ⟨c, hc, hdt⟩ := hat hk
    have hcf := hfine c hc
    have hcs := hcf.small (by omega)
    have hlt : decide ((k : Int) < 4) = true := decide_eq_true (by omega)
    have hltp : ((k : Int) < ((4 : Nat) : Int)) = True := eq_true (by omega)
    have hroom : (k * 2 + 2 ≤ ds8.length) = True := eq_true (by omega)
    have hw2 : IntKind.i64.wrap ((k : Int) + 1) = ((k + 1 : Nat) : Int) := by rw [wrap64 (by omega) (by omega)]; rfl
    have hcards : ∀ L, slcD L 1 none (some ((min c.cards.length 10 : Nat) : Int)) none (ints false c.cards) = some (ints false (c.cards.take 10)) := fun L => by rw [slc_ints L false (by omega), take_min]
    simp only [wp, stepL_true, doI, quietI, isCallI, wantedD, LSt.put, LSt.putO, LSt.putE, qL, effL, evD, evDs, intD, boolD, litD, litV, litDs, evDOI, lk, pickC_true, loadD_ptr, fldD, takeD, slotD, Lx.cellsO, cells_agg, putD, storeD, binV, intBin, mms, mm2, Option.map_some, cond_true, cond_false, beq_self_eq_true, Nat.reduceEqDiff, Nat.reduceLT, Nat.reduceAdd, Bool.not_true, Bool.not_false, and_self, if_true, if_false, List.getElem?_cons_zero, List.getElem?_cons_succ, List.length_cons, List.length_nil, List.cons_append, List.nil_append, Nat.zero_add, Nat.add_zero, List.drop_zero, List.drop_succ_cons, List.take_zero, List.map_cons, List.map_nil, List.set_cons_zero, List.set_cons_succ, hlt, hltp, Int.natCast_nonneg, Int.toNat_natCast, Option.getD_some, hroom, hdt, len_ints, min10, hcards, hl8', hl8'', Nat.le_refl, hodd]
    refine EvL.fn (Inputs_ok (c.cards.take 10) l (by simp; omega) (fun x hx => hcf.val x (List.mem_of_mem_take hx)) h8 hl8) rfl rfl (.cons (snp_ints _ _ _) (.cons (snp_eight l) .nil)) ?_
    simp only [wp, stepL_true, doI, quietI, isCallI, wantedD, LSt.put, LSt.putO, qL, evD, lk, Lx.cellsO, fillD, putD, Nat.reduceEqDiff, Nat.reduceLT, Nat.reduceAdd, Nat.reduceLeDiff, and_self, if_true, if_false, List.length_cons, List.length_nil, List.cons_append, List.nil_append, Nat.zero_add, List.drop_zero, List.drop_succ_cons, List.take_succ_cons, List.take_zero, List.map_cons, List.map_nil, cells_ints]
    have hil := inputsGo_len l (c.cards.take 10) 0
    have hin : ∀ {j : Nat}, j < 2 → ∃ t inp, inp.length < 1000000 ∧ [ints true (inputsGo l 0 (c.cards.take 10)), ints false (odd.take 10)][j]? = some (ints t inp) := by
      intro j hj
      match j, hj with
      | 0, _ => exact ⟨true, _, by rw [hil]; simp; omega, rfl⟩
      | 1, _ => exact ⟨false, odd.take 10, by simp; omega, rfl⟩
    generalize [ints true (inputsGo l 0 (c.cards.take 10)), ints false (odd.take 10)] = ds2 at *
    refine EvL.loop (α := Nat) (fun j => ⟨68, [(4, ints false odd), (8, .ptr 3 0), (12, .ptr 4 0), (24, .agg ds8), (25, dI k), (42, .agg ds2), (43, dI j)], [.cells [u8s d.cards, g4s d.gates, dB d.big], .cells [dU8 b0.w, dU8 b0.a, dI b0.n, dU8 b1.w, dU8 b1.a, dI b1.n], .cells [ints false raw.cards, gatesD false raw.gates], .cells (l.map dU8), .cells [ints false c.cards, gatesD false c.gates]]⟩) (fun j => j ≤ 2) (fun j => 2 - j) 0 (Weak.sub (by simp [envSub, lk])) (by simp) ?_
    intro j r1
    refine wp_sound ?_
    by_cases hj : j < 2
    · obtain ⟨t, inp, hinl, hget⟩ := hin hj
      have hltj : decide ((j : Int) < 2) = true := decide_eq_true (by omega)
      have hltpj : ((j : Int) < ((2 : Nat) : Int)) = True := eq_true (by omega)
      have hw3 : IntKind.i64.wrap ((j : Int) + 1) = ((j + 1 : Nat) : Int) := by rw [wrap64 (by omega) (by omega)]; rfl
      simp only [wp, stepL_true, doI, quietI, isCallI, wantedD, LSt.put, LSt.putO, qL, evD, intD, boolD, litD, litV, lk, pickC_true, loadD_ptr, takeD, slotD, binV, intBin, Option.map_some, cond_true, beq_self_eq_true, Nat.reduceEqDiff, Nat.reduceLT, Nat.reduceAdd, Nat.reduceLeDiff, Bool.not_false, and_self, if_true, if_false, List.getElem?_cons_zero, List.getElem?_cons_succ, List.length_cons, List.length_nil, Nat.zero_add, List.drop_zero, List.take_succ_cons, List.take_zero, hltj, hltpj, Int.natCast_nonneg, Int.toNat_natCast, Option.getD_none, Nat.mul_one, hget]
      refine EvL.fn (Eval_ok c hcs inp hinl) rfl rfl (.cons (snp_circ _ _ _) (.cons (snp_ints _ _ _) .nil)) ?_
      simp only [wp, stepL_true, doI, quietI, isCallI, wantedD, LSt.put, LSt.putO, qL, evD, lk, loadD_ptr, takeD, slotD, Nat.reduceEqDiff, Nat.reduceLT, Nat.reduceAdd, Nat.reduceLeDiff, Bool.not_false, if_true, if_false, List.getElem?_cons_zero, List.getElem?_cons_succ, List.length_cons, List.length_nil, Nat.zero_add, List.drop_zero, List.take_succ_cons, List.take_zero]
      refine EvL.fn (RefEval_ok c hcs inp hinl) rfl rfl (.cons (snp_circ _ _ _) (.cons (snp_ints _ _ _) .nil)) ?_
      rw [evals_same]
      simp only [wp, stepL_true, doI, quietI, isCallI, wantedD, wantD, LSt.put, LSt.putO, qL, evD, boolD, litD, litV, lk, pickC_false, binV, intBin, Option.map_some, cond_true, cond_false, beq_self_eq_true, Nat.reduceEqDiff, Nat.reduceLT, Bool.not_true, Bool.not_false, if_true, if_false, List.getElem?_cons_zero, List.getElem?_cons_succ, bneq, hw3]
      exact ⟨j + 1, by omega, by omega, Weak.sub (by simp [envSub, lk])⟩
    · have hltj : decide ((j : Int) < 2) = false := decide_eq_false (by omega)
      simp only [wp, stepL_true, doI, quietI, isCallI, wantedD, LSt.put, LSt.putO, qL, evD, boolD, litD, litV, lk, pickC_false, binV, intBin, Option.map_some, cond_true, beq_self_eq_true, Nat.reduceEqDiff, Nat.reduceLT, Bool.not_false, if_true, if_false, reduceCtorEq, hltj, hw2]
      refine ⟨k + 1, by omega, by omega, ?_⟩
      refine Weak.cutD (L0 := [.cells [u8s d.cards, g4s d.gates, dB d.big], .cells [dU8 b0.w, dU8 b0.a, dI b0.n, dU8 b1.w, dU8 b1.a, dI b1.n], .cells [ints false raw.cards, gatesD false raw.gates], .cells (l.map dU8)]) rfl (Nat.zero_le _) ?_ ?_
      · simp [envOk, lk, D.sc, ints, hsc8]
      · exact ⟨by simp [LB.sc, D.scs, D.sc, u8s, g4s], by simp [LB.sc, D.scs, D.sc], by simp [LB.sc, D.scs, D.sc, ints, gatesD], hscl, trivial⟩
  · have hlt : decide ((k : Int) < 4) = false := decide_eq_false (by omega)
    simp only [wp, stepL_true, doI, quietI, isCallI, wantedD, LSt.put, LSt.putO, qL, evD, boolD, litD, litV, lk, pickC_false, binV, intBin, Option.map_some, cond_true, beq_self_eq_true, Nat.reduceEqDiff, Nat.reduceLT, Bool.not_false, if_true, if_false, hlt]
    exact RetQ.pl rfl rfl
end Go.Proofs.Ytbjfkbkmoeibdaa.C
namespace Go.Proofs.Ytbjfkbkmoeibdaa.C
open Go Go.Mx Go.Lx
set_option linter.unusedSimpArgs false
set_option linter.unusedVariables false
set_option maxRecDepth 100000
def capT (x : Int) : Int := if 4611686018427387904 ≤ x then 4611686018427387904 else x
def sumL : List Int → Int
  | [] => 0
  | x :: l => x + sumL l
def prodL : List Int → Int
  | [] => 1
  | x :: l => x * prodL l
theorem sumL_app : ∀ (a b : List Int), sumL (a ++ b) = sumL a + sumL b
  | [], b => by simp [sumL]
  | x :: a, b => by simp only [List.cons_append, sumL, sumL_app a b]; omega
theorem prodL_app : ∀ (a b : List Int), prodL (a ++ b) = prodL a * prodL b
  | [], b => by simp [prodL]
  | x :: a, b => by simp only [List.cons_append, prodL, prodL_app a b, Int.mul_assoc]
theorem sumL_nn : ∀ {l : List Int}, (∀ x ∈ l, 0 ≤ x) → 0 ≤ sumL l
  | [], _ => by simp [sumL]
  | x :: l, h => by
    have h1 := h x (by simp)
    have h2 := sumL_nn (l := l) fun y hy => h y (by simp [hy])
    simp only [sumL]; omega
theorem prodL_nn : ∀ {l : List Int}, (∀ x ∈ l, 0 ≤ x) → 0 ≤ prodL l
  | [], _ => by simp [prodL]
  | x :: l, h => Int.mul_nonneg (h x (by simp)) (prodL_nn fun y hy => h y (by simp [hy]))
theorem prodL_pos : ∀ {l : List Int}, (∀ x ∈ l, 1 ≤ x) → 1 ≤ prodL l
  | [], _ => by simp [prodL]
  | x :: l, h => by
    have h1 := h x (by simp)
    have h2 := prodL_pos (l := l) fun y hy => h y (by simp [hy])
    have h3 : 1 * 1 ≤ x * prodL l := Int.mul_le_mul h1 h2 (by omega) (by omega)
    simpa [prodL] using h3
theorem prodL_zero : ∀ {l : List Int}, (0 : Int) ∈ l → prodL l = 0
  | x :: l, h => by
    rcases List.mem_cons.1 h with h | h
    · subst h; simp [prodL]
    · simp [prodL, prodL_zero h]
theorem prodL_rev : ∀ (l : List Int), prodL l.reverse = prodL l
  | [] => rfl
  | x :: l => by rw [List.reverse_cons, prodL_app, prodL_rev l]; simp only [prodL, Int.mul_one]; exact Int.mul_comm _ _
theorem cap_bnd {x : Int} (h : 0 ≤ x) : 0 ≤ capT x ∧ capT x ≤ 4611686018427387904 := by unfold capT; split <;> omega
theorem cap_add {x y : Int} (hx : 0 ≤ x) (hy : 0 ≤ y) : addT (capT x) (capT y) = capT (x + y) := by
  unfold addT capT
  split <;> split <;> split <;> split <;> omega
theorem cap_add1 {x y : Int} (hx : 0 ≤ x) (hy : 0 ≤ y) (h1 : y < 4611686018427387904) : addT (capT x) y = capT (x + y) := by
  have := cap_add hx hy
  rwa [show capT y = y by unfold capT; rw [if_neg (by omega)]] at this
theorem mulT_cap (x y : Int) : mulT x y = capT (x * y) := rfl
theorem big_mul {x y : Int} (hx : 4611686018427387904 ≤ x) (hy : 1 ≤ y) : 4611686018427387904 ≤ x * y := by
  have : x * 1 ≤ x * y := Int.mul_le_mul_of_nonneg_left hy (by omega)
  omega
theorem cap_mul {x y : Int} (hx : 0 ≤ x) (hy : 0 ≤ y) : mulT (capT x) (capT y) = capT (x * y) := by
  rw [mulT_cap]
  by_cases h0 : x = 0
  · subst h0; simp [capT]
  by_cases h1 : y = 0
  · subst h1; simp [capT]
  by_cases hX : 4611686018427387904 ≤ x
  · have e1 : capT x = 4611686018427387904 := if_pos hX
    have h2 : 1 ≤ capT y := by unfold capT; split <;> omega
    have h3 := big_mul (x := capT x) (y := capT y) (by omega) h2
    have h4 := big_mul (x := x) (y := y) hX (by omega)
    rw [show capT (capT x * capT y) = 4611686018427387904 from if_pos h3, show capT (x * y) = 4611686018427387904 from if_pos h4]
  · have e1 : capT x = x := if_neg hX
    by_cases hY : 4611686018427387904 ≤ y
    · have e2 : capT y = 4611686018427387904 := if_pos hY
      have h3 := big_mul (x := capT y) (y := capT x) (by omega) (by omega)
      have h4 := big_mul (x := y) (y := x) hY (by omega)
      rw [Int.mul_comm] at h3 h4
      rw [show capT (capT x * capT y) = 4611686018427387904 from if_pos h3, show capT (x * y) = 4611686018427387904 from if_pos h4]
    · rw [e1, show capT y = y from if_neg hY]
theorem foldl_cap : ∀ (l : List Int) (u : Int), (∀ x ∈ l, 0 ≤ x ∧ x < 4611686018427387904) → 0 ≤ u → l.foldl mulT (capT u) = capT (u * prodL l)
  | [], u, _, _ => by simp [prodL]
  | x :: l, u, h, hu => by
    have hx := h x (by simp)
    have e : mulT (capT u) x = capT (u * x) := by
      have := cap_mul hu hx.1
      rwa [show capT x = x from if_neg (by omega)] at this
    rw [List.foldl_cons, e, foldl_cap l (u * x) (fun y hy => h y (by simp [hy])) (Int.mul_nonneg hu hx.1), Int.mul_assoc]
    rfl
theorem fold_prod {l : List Int} (h : ∀ x ∈ l, 0 ≤ x ∧ x < 4611686018427387904) : l.foldl mulT 1 = capT (prodL l) := by
  have := foldl_cap l 1 h (by omega)
  rwa [show capT 1 = 1 from rfl, Int.one_mul] at this
theorem sum_spec : ∀ (l : List Int) (o : Int), (∀ x ∈ l, 0 ≤ x) → 0 ≤ o → o < 4611686018427387904 → sumGo o l = if o + sumL l < 4611686018427387904 then some (o + sumL l) else none
  | [], o, _, h0, h1 => by simp [sumGo, sumL, h1]
  | x :: l, o, h, h0, h1 => by
    have hx := h x (by simp)
    have hl : ∀ y ∈ l, 0 ≤ y := fun y hy => h y (by simp [hy])
    have hs := sumL_nn hl
    rw [sumGo, sumL]
    by_cases hc : x > 4611686018427387904 - 1 - o
    · rw [if_pos (by omega), if_neg (by omega)]
    · rw [if_neg (by omega), sum_spec l (o + x) hl (by omega) (by omega), Int.add_assoc]
theorem muls_spec : ∀ (l : List Int) (o : Int), (∀ x ∈ l, 1 ≤ x) → 0 ≤ o → o < 4611686018427387904 → mulsR o l = if o * prodL l < 4611686018427387904 then some (o * prodL l) else none
  | [], o, _, h0, h1 => by simp [mulsR, prodL, h1]
  | x :: l, o, h, h0, h1 => by
    have hx := h x (by simp)
    have hl : ∀ y ∈ l, 1 ≤ y := fun y hy => h y (by simp [hy])
    have hp := prodL_pos hl
    rw [mulsR, prodL, ← Int.mul_assoc]
    unfold mulR
    by_cases hc : 4611686018427387904 ≤ o * x
    · have := big_mul hc hp
      rw [if_pos hc, if_neg (by omega)]
    · rw [if_neg hc]
      exact muls_spec l (o * x) hl (Int.mul_nonneg h0 (by omega)) (by omega)
theorem prod_spec {l : List Int} (h : ∀ x ∈ l, 0 ≤ x) : prodR l = if prodL l < 4611686018427387904 then some (prodL l) else none := by
  unfold prodR
  cases hz : l.any (· == 0) with
  | true =>
    obtain ⟨x, hx, h0⟩ := List.any_eq_true.1 hz
    have : x = 0 := by simpa using h0
    subst this
    rw [if_pos rfl, prodL_zero hx]; simp
  | false =>
    rw [if_neg (by simp)]
    have := muls_spec l 1 (fun x hx => by
      have h1 := h x hx
      have h2 : x ≠ 0 := by
        rintro rfl
        have := List.any_eq_false.1 hz 0 hx
        simp at this
      omega) (by omega) (by omega)
    simpa using this
/-- The weight of an argument in a gate. -/
def wt (vals : List Int) (g : Gate) (i : Int) : Int := if g.kind = 4 then prodL ((withoutR g.args i).map (valAt vals)) else 1
def con (vals : List Int) (g : Gate) (x i : Int) : Int := if i ∈ g.args then x * wt vals g i else 0
def tsum (vals : List Int) (i : Int) : List Gate → List Int → Int
  | g :: gs, x :: d => con vals g x i + tsum vals i gs d
  | _, _ => 0
def isum (v x : Int) : List Gate → List Int → Int
  | g :: gs, y :: d => (if g.kind = 2 ∧ g.var = v ∧ g.val = x then y else 0) + isum v x gs d
  | _, _ => 0
section
variable {vals : List Int} (hvb : ∀ v ∈ vals, 0 ≤ v ∧ v < 4611686018427387904)
include hvb
theorem val_bnd (a : Int) : 0 ≤ valAt vals a ∧ valAt vals a < 4611686018427387904 := by
  unfold valAt
  rw [List.getD_eq_getElem?_getD]
  cases hh : vals[a.toNat]? with
  | none => simp
  | some v => simpa using hvb v (List.mem_of_getElem? hh)
theorem map_bnd (l : List Int) : ∀ x ∈ l.map (valAt vals), 0 ≤ x ∧ x < 4611686018427387904 := by
  intro x hx
  obtain ⟨a, _, rfl⟩ := List.mem_map.1 hx
  exact val_bnd hvb a
theorem wt_nn (g : Gate) (i : Int) : 0 ≤ wt vals g i := by
  unfold wt
  split
  · exact prodL_nn fun x hx => (map_bnd hvb _ x hx).1
  · omega
theorem con_nn (g : Gate) {x : Int} (hx : 0 ≤ x) (i : Int) : 0 ≤ con vals g x i := by
  unfold con
  split
  · exact Int.mul_nonneg hx (wt_nn hvb g i)
  · omega
theorem tsum_nn (i : Int) : ∀ (gs : List Gate) (d : List Int), (∀ x ∈ d, 0 ≤ x) → 0 ≤ tsum vals i gs d
  | [], d, _ => by simp [tsum]
  | g :: gs, [], _ => by simp [tsum]
  | g :: gs, x :: d, h => by
    have h1 := con_nn hvb g (h x (by simp)) i
    have h2 := tsum_nn i gs d fun y hy => h y (by simp [hy])
    simp only [tsum]; omega
omit hvb in
theorem without_mem {l : List Int} {i : Int} : (withoutR l i).length = l.length ↔ i ∉ l := by
  unfold withoutR
  rw [List.length_filter_eq_length_iff]
  constructor
  · intro h hi
    have := h i hi
    simp at this
  · intro h a ha
    simp only [bne_iff_ne, ne_eq]
    rintro rfl
    exact h ha
theorem term_spec (i : Int) (g : Gate) {x : Int} (hx : 0 ≤ x) : termR vals i g x = if x * wt vals g i < 4611686018427387904 then some (x * wt vals g i) else none := by
  unfold termR wt
  split
  · rw [prod_spec]
    · rfl
    · intro y hy
      rcases List.mem_cons.1 hy with rfl | hy
      · exact hx
      · exact (map_bnd hvb _ y hy).1
  · rw [prod_spec]
    · rfl
    · intro y hy
      simp at hy
      subst hy
      exact hx
theorem parts_spec (i : Int) : ∀ (gs : List Gate) (d acc : List Int), (∀ x ∈ d, 0 ≤ x) → (∀ x ∈ acc, 0 ≤ x) →
    (match rPartsGo vals i acc gs d with | none => none | some parts => sumGo 0 parts) = if sumL acc + tsum vals i gs d < 4611686018427387904 then some (sumL acc + tsum vals i gs d) else none
  | [], d, acc, _, ha => by
    simp only [rPartsGo, tsum, Int.add_zero]
    have := sum_spec acc 0 ha (by omega) (by omega)
    simpa using this
  | g :: gs, [], acc, _, ha => by
    simp only [rPartsGo, tsum, Int.add_zero]
    have := sum_spec acc 0 ha (by omega) (by omega)
    simpa using this
  | g :: gs, x :: d, acc, hd, ha => by
    have hx := hd x (by simp)
    have hd' : ∀ y ∈ d, 0 ≤ y := fun y hy => hd y (by simp [hy])
    have ht := tsum_nn hvb i gs d hd'
    have hs := sumL_nn ha
    rw [rPartsGo, tsum]
    by_cases hi : i ∈ g.args
    · have hc : con vals g x i = x * wt vals g i := if_pos hi
      rw [if_neg (by rw [without_mem]; exact fun h => h hi), term_spec hvb i g hx, hc]
      have hw := Int.mul_nonneg hx (wt_nn hvb g i)
      generalize x * wt vals g i = p at *
      by_cases hp : p < 4611686018427387904
      · rw [if_pos hp]
        simp only
        rw [parts_spec i gs d (acc ++ [p]) hd' (fun y hy => by
          rcases List.mem_append.1 hy with hy | hy
          · exact ha y hy
          · simp at hy; subst hy; exact hw), sumL_app]
        simp only [sumL, Int.add_zero, Int.add_assoc]
      · rw [if_neg hp, if_neg (by omega)]
    · have hc : con vals g x i = 0 := if_neg hi
      rw [if_pos (without_mem.2 hi), hc, parts_spec i gs d acc hd' ha, Int.zero_add]
end
theorem isum_nn (v x : Int) : ∀ (gs : List Gate) (d : List Int), (∀ y ∈ d, 0 ≤ y) → 0 ≤ isum v x gs d
  | [], d, _ => by simp [isum]
  | g :: gs, [], _ => by simp [isum]
  | g :: gs, y :: d, h => by
    have h1 := h y (by simp)
    have h2 := isum_nn v x gs d fun z hz => h z (by simp [hz])
    simp only [isum]; split <;> omega
theorem isParts_sum (v x : Int) : ∀ (gs : List Gate) (d acc : List Int), sumL (isPartsGo v x acc gs d) = sumL acc + isum v x gs d
  | [], d, acc => by simp [isPartsGo, isum]
  | g :: gs, [], acc => by simp [isPartsGo, isum]
  | g :: gs, y :: d, acc => by
    rw [isPartsGo, isParts_sum v x gs d, isum]
    split
    · rw [sumL_app]; simp only [sumL]; omega
    · omega
theorem isum_spec {v x : Int} {gs : List Gate} {d : List Int} (hd : ∀ y ∈ d, 0 ≤ y ∧ y < 4611686018427387904) : sumGo 0 (isPartsGo v x [] gs d) = if isum v x gs d < 4611686018427387904 then some (isum v x gs d) else none := by
  have hb := (isPartsGo_bnd (v := v) (x := x) gs d [] hd (fun y hy => by simp at hy)).1
  have := sum_spec _ 0 (fun y hy => (hb y hy).1) (by omega) (by omega)
  rw [isParts_sum] at this
  simpa [sumL] using this
theorem opt_some {α β : Type} {f : α → Option β} {g : α → β} : ∀ (l : List α) (acc : List β), (∀ a ∈ l, f a = some (g a)) → optGo f acc l = some (acc ++ l.map g)
  | [], acc, _ => by simp [optGo]
  | a :: l, acc, h => by
    rw [optGo, h a (by simp)]
    simp only
    rw [opt_some l _ fun b hb => h b (by simp [hb])]
    simp
theorem opt_none {α β : Type} {f : α → Option β} : ∀ (l : List α) (acc : List β), (∃ a ∈ l, f a = none) → optGo f acc l = none
  | [], acc, h => by simp at h
  | a :: l, acc, h => by
    rw [optGo]
    cases hf : f a with
    | none => rfl
    | some b =>
      simp only
      refine opt_none l _ ?_
      obtain ⟨c, hc, h1⟩ := h
      rcases List.mem_cons.1 hc with rfl | hc
      · rw [hf] at h1; cases h1
      · exact ⟨c, hc, h1⟩
theorem rows_none {gs : List Gate} {d cs : List Int} (hd : ∀ y ∈ d, 0 ≤ y ∧ y < 4611686018427387904) {v x : Nat} (hv : v < cs.length) (hx : x < (cs.getD v 0).toNat) (hb : 4611686018427387904 ≤ isum v x gs d) : rowsOf gs d cs = none := by
  refine opt_none _ _ ⟨v, by simpa using hv, ?_⟩
  refine opt_none _ _ ⟨x, by simpa using hx, ?_⟩
  rw [isum_spec hd, if_neg (by omega)]
theorem rows_some {gs : List Gate} {d cs : List Int} (hd : ∀ y ∈ d, 0 ≤ y ∧ y < 4611686018427387904) (hb : ∀ v x : Nat, v < cs.length → x < (cs.getD v 0).toNat → isum v x gs d < 4611686018427387904) :
    rowsOf gs d cs = some ((List.range cs.length).map fun v : Nat => (List.range (cs.getD v 0).toNat).map fun x : Nat => isum (v : Int) (x : Int) gs d) := by
  refine opt_some _ [] fun v hv => ?_
  refine opt_some _ [] fun x hx => ?_
  rw [isum_spec hd, if_pos (hb v x (by simpa using hv) (by simpa using hx))]
theorem isum_drop (v x : Int) : ∀ (j : Nat) (gs : List Gate) (d : List Int), (∀ y ∈ d, 0 ≤ y) → isum v x (gs.drop j) (d.drop j) ≤ isum v x gs d
  | 0, gs, d, _ => by simp
  | j + 1, [], d, _ => by simp [isum]
  | j + 1, g :: gs, [], _ => by simp [isum]
  | j + 1, g :: gs, y :: d, h => by
    have h1 := h y (by simp)
    have := isum_drop v x j gs d fun z hz => h z (by simp [hz])
    simp only [List.drop_succ_cons, isum]
    split <;> omega
theorem refD_drop {gs : List Gate} {vals : List Int} (hvb : ∀ v ∈ vals, 0 ≤ v ∧ v < 4611686018427387904) : ∀ (j : Nat) (d r : List Int), (∀ y ∈ d, 0 ≤ y ∧ y < 4611686018427387904) → refDGo vals gs j d = some r → r.drop j = d.drop j ∧ (∀ y ∈ r, 0 ≤ y ∧ y < 4611686018427387904) ∧ r.length = d.length
  | 0, d, r, hd, h => by simp only [refDGo, Option.some.injEq] at h; subst h; exact ⟨rfl, hd, rfl⟩
  | j + 1, d, r, hd, h => by
    rw [refDGo] at h
    split at h
    · cases h
    · rename_i parts hp
      split at h
      · cases h
      · rename_i s hs
        have hsp := parts_spec hvb (j : Int) (gs.drop (j + 1)) (d.drop (j + 1)) [] (fun y hy => (hd y (List.mem_of_mem_drop hy)).1) (fun y hy => by simp at hy)
        rw [hp] at hsp
        simp only [hs] at hsp
        have hn := tsum_nn hvb (j : Int) (gs.drop (j + 1)) (d.drop (j + 1)) (fun y hy => (hd y (List.mem_of_mem_drop hy)).1)
        have hsb : 0 ≤ s ∧ s < 4611686018427387904 := by
          split at hsp
          · cases hsp; simp only [sumL] at *; omega
          · cases hsp
        obtain ⟨h1, h2, h3⟩ := refD_drop hvb j (d.set j s) r (fun y hy => by
          rcases List.mem_or_eq_of_mem_set hy with hy | rfl
          · exact hd y hy
          · exact hsb) h
        refine ⟨?_, h2, by simpa using h3⟩
        have : r.drop (j + 1) = (r.drop j).drop 1 := by rw [List.drop_drop]
        rw [this, h1, List.drop_drop, List.drop_set_of_lt (by omega)]
end Go.Proofs.Ytbjfkbkmoeibdaa.C
namespace Go.Proofs.Ytbjfkbkmoeibdaa.C
open Go Go.Mx Go.Lx
set_option linter.unusedSimpArgs false
set_option linter.unusedVariables false
set_option maxRecDepth 100000
theorem valAt_set {ss : List Int} {a k y : Int} (ha : 0 ≤ a) (hl : a < ss.length) (hk : 0 ≤ k) : valAt (ss.set a.toNat y) k = if k = a then y else valAt ss k := by
  unfold valAt
  rw [List.getD_eq_getElem?_getD, List.getElem?_set]
  by_cases h : k = a
  · subst h
    rw [if_pos rfl, if_pos rfl, if_pos (by omega)]; rfl
  · rw [if_neg h, if_neg (by omega), List.getD_eq_getElem?_getD]
theorem addAll_at {slope : Int} : ∀ (args ss : List Int) (k : Int), args.Nodup → (∀ a ∈ args, 0 ≤ a ∧ a < ss.length) → 0 ≤ k → valAt (addAll slope ss args) k = if k ∈ args then addT (valAt ss k) slope else valAt ss k
  | [], ss, k, _, _, _ => by simp [addAll]
  | a :: r, ss, k, hn, ha, hk => by
    obtain ⟨h1, h2⟩ := List.nodup_cons.1 hn
    obtain ⟨a0, a1⟩ := ha a (by simp)
    rw [addAll, addAll_at r _ k h2 (fun b hb => by have := ha b (by simp [hb]); simpa using this) hk, valAt_set a0 a1 hk]
    by_cases hka : k = a
    · subst hka
      rw [if_pos rfl, if_neg h1, if_pos (by simp)]
    · rw [if_neg hka]
      by_cases hr : k ∈ r
      · rw [if_pos hr, if_pos (by simp [hr])]
      · rw [if_neg hr, if_neg (by simp [hka, hr])]
theorem addPro_out {slope : Int} : ∀ (args qs ss : List Int) (k : Int), (∀ a ∈ args, 0 ≤ a ∧ a < ss.length) → 0 ≤ k → k ∉ args → valAt (addPro slope ss args qs) k = valAt ss k
  | [], qs, ss, k, _, _, _ => by simp [addPro]
  | a :: r, [], ss, k, _, _, _ => by simp [addPro]
  | a :: r, q :: qs, ss, k, ha, hk, hn => by
    obtain ⟨a0, a1⟩ := ha a (by simp)
    rw [addPro, addPro_out r qs _ k (fun b hb => by have := ha b (by simp [hb]); simpa using this) hk (fun h => hn (by simp [h])), valAt_set a0 a1 hk, if_neg (fun h => hn (by simp [h]))]
theorem addPro_in {slope : Int} : ∀ (args qs ss : List Int) (i : Nat) (h : i < args.length) (hq : i < qs.length), args.Nodup → (∀ a ∈ args, 0 ≤ a ∧ a < ss.length) → valAt (addPro slope ss args qs) args[i] = addT (valAt ss args[i]) (mulT slope qs[i])
  | [], qs, ss, i, h, _, _, _ => by simp at h
  | a :: r, [], ss, i, _, hq, _, _ => by simp at hq
  | a :: r, q :: qs, ss, i, h, hq, hn, ha => by
    obtain ⟨h1, h2⟩ := List.nodup_cons.1 hn
    obtain ⟨a0, a1⟩ := ha a (by simp)
    have ha' : ∀ b ∈ r, 0 ≤ b ∧ b < ((ss.set a.toNat (addT (valAt ss a) (mulT slope q))).length : Int) := fun b hb => by have := ha b (by simp [hb]); simpa using this
    rw [addPro]
    cases i with
    | zero =>
      simp only [List.getElem_cons_zero]
      rw [addPro_out r qs _ a ha' a0 h1, valAt_set a0 a1 a0, if_pos rfl]
    | succ i =>
      simp only [List.getElem_cons_succ]
      have hi : i < r.length := by simpa using h
      have hmem : r[i] ∈ r := List.getElem_mem hi
      have hb := ha r[i] (by simp [hmem])
      rw [addPro_in r qs _ i hi (by simpa using hq) h2 ha', valAt_set a0 a1 hb.1, if_neg (fun e => h1 (by rw [← e]; exact hmem))]
theorem addAll_ok {m : Nat} {slope : Int} (h0 : 0 ≤ slope) (h1 : slope ≤ 4611686018427387904) : ∀ (args ss : List Int), SloOk m ss → (∀ a ∈ args, 0 ≤ a ∧ a < m) → SloOk m (addAll slope ss args)
  | [], ss, h, _ => h
  | a :: r, ss, h, ha => by
    obtain ⟨a0, a1⟩ := ha a (by simp)
    obtain ⟨_, b1, b2⟩ := h.at_ a0 a1
    obtain ⟨c1, c2⟩ := addT_bnd (a := valAt ss a) (b := slope) b1 h0 b2
    exact addAll_ok h0 h1 r _ (h.set _ c1 c2) fun b hb => ha b (by simp [hb])
theorem addPro_ok {m : Nat} {slope : Int} (h0 : 0 ≤ slope) : ∀ (args qs ss : List Int), SloOk m ss → (∀ a ∈ args, 0 ≤ a ∧ a < m) → (∀ q ∈ qs, 0 ≤ q) → SloOk m (addPro slope ss args qs)
  | [], qs, ss, h, _, _ => by simpa [addPro] using h
  | a :: r, [], ss, h, _, _ => by simpa [addPro] using h
  | a :: r, q :: qs, ss, h, ha, hq => by
    obtain ⟨a0, a1⟩ := ha a (by simp)
    obtain ⟨_, b1, b2⟩ := h.at_ a0 a1
    obtain ⟨m1, m2⟩ := mulT_bnd (a := slope) (b := q) h0 (hq q (by simp))
    obtain ⟨c1, c2⟩ := addT_bnd (a := valAt ss a) (b := mulT slope q) b1 m1 b2
    exact addPro_ok h0 r qs _ (h.set _ c1 c2) (fun b hb => ha b (by simp [hb])) fun p hp => hq p (by simp [hp])
theorem incr_nodup {i : Int} : ∀ {b : Int} {xs : List Int}, incr b i xs = true → xs.Nodup
  | _, [], _ => List.nodup_nil
  | b, a :: r, h => by
    simp only [incr, Bool.and_eq_true] at h
    refine List.nodup_cons.2 ⟨fun hm => ?_, incr_nodup h.2⟩
    have := (incr_ge h.2 a hm).1
    omega
theorem gate_args {cards : List Int} {i : Int} {g : Gate} (h : gateB cards i g = true) : (g.args = [] ∧ (g.kind = 1 ∨ g.kind = 2)) ∨ ((g.kind = 3 ∨ g.kind = 4) ∧ g.args.Nodup ∧ ∀ a ∈ g.args, 0 ≤ a ∧ a < i) := by
  unfold gateB at h
  split at h
  · rename_i hk
    simp only [Bool.and_eq_true, beq_iff_eq] at h hk
    exact .inl ⟨List.eq_nil_of_length_eq_zero (by omega), .inl hk⟩
  · split at h
    · rename_i hk
      simp only [Bool.and_eq_true, beq_iff_eq] at h hk
      exact .inl ⟨List.eq_nil_of_length_eq_zero (by omega), .inr hk⟩
    · split at h
      · rename_i hk
        simp only [Bool.and_eq_true] at h
        refine .inr ⟨by simpa using hk, incr_nodup h.2.2.2.2, fun a ha => ?_⟩
        have := incr_ge h.2.2.2.2 a ha
        omega
      · cases h
theorem without_at : ∀ {l : List Int} (i : Nat) (h : i < l.length), l.Nodup → withoutR l l[i] = l.take i ++ l.drop (i + 1)
  | [], i, h, _ => by simp at h
  | a :: r, 0, h, hn => by
    obtain ⟨h1, h2⟩ := List.nodup_cons.1 hn
    simp only [List.getElem_cons_zero, List.take_zero, List.drop_succ_cons, List.drop_zero, List.nil_append, withoutR, List.filter_cons, bne_self_eq_false, Bool.false_eq_true, if_false]
    rw [List.filter_eq_self]
    intro b hb
    simp only [bne_iff_ne, ne_eq]
    rintro rfl
    exact h1 hb
  | a :: r, i + 1, h, hn => by
    obtain ⟨h1, h2⟩ := List.nodup_cons.1 hn
    have hi : i < r.length := by simpa using h
    have hne : (a != r[i]) = true := by
      simp only [bne_iff_ne, ne_eq]
      rintro e
      exact h1 (by rw [e]; exact List.getElem_mem hi)
    have := without_at (l := r) i hi h2
    simp only [withoutR] at this
    simp only [List.getElem_cons_succ, withoutR, List.filter_cons, hne, if_true, List.take_succ_cons, List.drop_succ_cons, List.cons_append, this]
theorem oth_at {vals args : List Int} (hvb : ∀ v ∈ vals, 0 ≤ v ∧ v < 4611686018427387904) (hn : args.Nodup) {i : Nat} (hi : i < args.length) (hq : i < (othR vals args).length) : (othR vals args)[i] = capT (prodL ((withoutR args args[i]).map (valAt vals))) := by
  rw [without_at i hi hn, List.map_append, prodL_app]
  simp only [othR, List.getElem_map, List.getElem_range, befo, behi]
  rw [fold_prod (map_bnd hvb _), fold_prod (map_bnd hvb _), List.map_reverse, prodL_rev]
  exact cap_mul (prodL_nn fun x hx => (map_bnd hvb _ x hx).1) (prodL_nn fun x hx => (map_bnd hvb _ x hx).1)
structure DInv (cs : List Int) (gs : List Gate) (vals : List Int) (j : Nat) (rows : List (List Int)) (ss d : List Int) : Prop where
  rok : RowsOk cs rows
  sok : SloOk gs.length ss
  dok : DOk gs.length d
  cur : valAt ss (j : Int) = valAt d (j : Int)
  low : ∀ k : Nat, k < j → valAt ss (k : Int) = capT (tsum vals k (gs.drop (j + 1)) (d.drop (j + 1)))
  row : ∀ v x : Nat, v < cs.length → x < (cs.getD v 0).toNat → valAt (rowAt rows (v : Int)) (x : Int) = isum v x (gs.drop (j + 1)) (d.drop (j + 1))
structure DOut (cs : List Int) (gs : List Gate) (vals : List Int) (j : Nat) (rows : List (List Int)) (ss d : List Int) : Prop where
  rok : RowsOk cs rows
  sok : SloOk gs.length ss
  low : ∀ k : Nat, k < j → valAt ss (k : Int) = capT (tsum vals k (gs.drop j) (d.drop j))
  row : ∀ v x : Nat, v < cs.length → x < (cs.getD v 0).toNat → valAt (rowAt rows (v : Int)) (x : Int) = isum v x (gs.drop j) (d.drop j)
theorem rowAt_set {rows : List (List Int)} {a : Nat} {v : Nat} {r : List Int} (ha : a < rows.length) : rowAt (rows.set a r) (v : Int) = if v = a then r else rowAt rows (v : Int) := by
  unfold rowAt
  rw [Int.toNat_natCast, List.getD_eq_getElem?_getD, List.getElem?_set]
  by_cases h : v = a
  · subst h
    rw [if_pos rfl, if_pos rfl, if_pos ha]; rfl
  · rw [if_neg h, if_neg (fun e => h e.symm), List.getD_eq_getElem?_getD]
theorem der_step {cs : List Int} {gs : List Gate} {vals : List Int} (hvb : ∀ v ∈ vals, 0 ≤ v ∧ v < 4611686018427387904) {j : Nat} {rows : List (List Int)} {ss d : List Int} (hj : j < gs.length) (hg : gateB cs j gs[j] = true) (h : DInv cs gs vals j rows ss d) :
    (stepD vals gs[j] (valAt ss (j : Int)) rows ss = none ∧ ∃ v x : Nat, v < cs.length ∧ x < (cs.getD v 0).toNat ∧ 4611686018427387904 ≤ isum v x (gs.drop j) (d.drop j)) ∨
    ∃ rows' ss', stepD vals gs[j] (valAt ss (j : Int)) rows ss = some (rows', ss') ∧ DOut cs gs vals j rows' ss' d := by
  have hjd : j < d.length := by rw [h.dok.len]; exact hj
  have hy : valAt d (j : Int) = d[j] := by simp [valAt, hjd]
  have hyb := h.dok.bnd _ (List.getElem_mem hjd)
  have hdn : ∀ y ∈ d.drop (j + 1), 0 ≤ y := fun y hy => (h.dok.bnd y (List.mem_of_mem_drop hy)).1
  have et : ∀ k : Int, tsum vals k (gs.drop j) (d.drop j) = con vals gs[j] d[j] k + tsum vals k (gs.drop (j + 1)) (d.drop (j + 1)) := fun k => by rw [drop_cons hj, drop_cons hjd, tsum]
  have ei : ∀ v x : Int, isum v x (gs.drop j) (d.drop j) = (if gs[j].kind = 2 ∧ gs[j].var = v ∧ gs[j].val = x then d[j] else 0) + isum v x (gs.drop (j + 1)) (d.drop (j + 1)) := fun v x => by rw [drop_cons hj, drop_cons hjd, isum]
  rw [h.cur, hy]
  have hsl := h.sok.len
  have hrows := h.rok.len
  generalize gs[j] = g at *
  generalize d[j] = y at *
  have hnb : ¬ y = 4611686018427387904 := by omega
  rcases gate_args hg with ⟨ha, hk | hk⟩ | ⟨hk | hk, hn, hin⟩
  · refine .inr ⟨rows, ss, by unfold stepD; rw [if_neg hnb, if_neg (by omega), if_neg (by omega), if_neg (by omega)], h.rok, h.sok, fun k hkj => ?_, fun v x hv hx => ?_⟩
    · rw [et, h.low k hkj]; simp [con, ha]
    · rw [ei, h.row v x hv hx, if_neg (by omega), Int.zero_add]
  · obtain ⟨g1, g2, g3, g4⟩ := gate_is hg hk
    have hvr : g.var.toNat < rows.length := by omega
    have hvn : ((g.var.toNat : Nat) : Int) = g.var := by omega
    have hxn : ((g.val.toNat : Nat) : Int) = g.val := by omega
    have hrow0 := h.row g.var.toNat g.val.toNat (by omega) (by omega)
    rw [hvn, hxn] at hrow0
    have hrw : rowAt rows g.var = rows[g.var.toNat] := by unfold rowAt; rw [List.getD_eq_getElem?_getD, List.getElem?_eq_getElem hvr]; rfl
    have hrl := h.rok.row _ hvr
    rw [← hrw] at hrl
    have hin : ∀ z, 0 ≤ isum z g.val (gs.drop (j + 1)) (d.drop (j + 1)) := fun z => isum_nn _ _ _ _ hdn
    have hsum := hin g.var
    have hrb : valAt (rowAt rows g.var) g.val < 4611686018427387904 := by
      obtain ⟨hh, e⟩ := valAt_get (vals := rowAt rows g.var) g3 (by omega)
      rw [e]
      exact (h.rok.bnd _ (by rw [hrw]; exact List.getElem_mem hvr) _ (List.getElem_mem hh)).2
    have hadd : addT (valAt (rowAt rows g.var) g.val) y = capT (isum g.var g.val (gs.drop j) (d.drop j)) := by
      rw [ei, if_pos ⟨hk, rfl, rfl⟩, ← hrow0, Int.add_comm y]
      have := cap_add1 (x := valAt (rowAt rows g.var) g.val) (y := y) (by omega) hyb.1 hyb.2
      rwa [show capT (valAt (rowAt rows g.var) g.val) = valAt (rowAt rows g.var) g.val from if_neg (by omega)] at this
    by_cases hov : 4611686018427387904 ≤ isum g.var g.val (gs.drop j) (d.drop j)
    · refine .inl ⟨?_, g.var.toNat, g.val.toNat, by omega, by omega, by rw [hvn, hxn]; exact hov⟩
      unfold stepD
      have hc : capT (isum g.var g.val (gs.drop j) (d.drop j)) = 4611686018427387904 := if_pos hov
      rw [if_neg hnb, if_pos hk, hadd, if_pos hc]
    · have hcap : capT (isum g.var g.val (gs.drop j) (d.drop j)) = isum g.var g.val (gs.drop j) (d.drop j) := if_neg hov
      have hnn : 0 ≤ isum g.var g.val (gs.drop j) (d.drop j) := by rw [ei, if_pos ⟨hk, rfl, rfl⟩]; omega
      refine .inr ⟨rows.set g.var.toNat ((rowAt rows g.var).set g.val.toNat (isum g.var g.val (gs.drop j) (d.drop j))), ss, ?_, ?_, h.sok, fun k hkj => ?_, fun v x hv hx => ?_⟩
      · unfold stepD
        rw [if_neg hnb, if_pos hk, hadd, hcap, if_neg (by omega)]
      · refine h.rok.set hvr (by rw [← hrw]; simp) fun z hz => ?_
        rcases List.mem_or_eq_of_mem_set hz with hz | rfl
        · exact h.rok.bnd _ (by rw [hrw]; exact List.getElem_mem hvr) z hz
        · omega
      · rw [et, h.low k hkj]; simp [con, ha]
      · rw [rowAt_set hvr]
        by_cases hvv : v = g.var.toNat
        · rw [if_pos hvv, valAt_set g3 (by omega) (by omega)]
          have hvv' : (v : Int) = g.var := by omega
          by_cases hxx : (x : Int) = g.val
          · rw [if_pos hxx, hvv', hxx]
          · rw [if_neg hxx, ei, if_neg (fun e => hxx e.2.2.symm), Int.zero_add, ← hvv']
            exact h.row v x hv hx
        · rw [if_neg hvv, ei, if_neg (fun e => hvv (by omega)), Int.zero_add]
          exact h.row v x hv hx
  · have hin' : ∀ a ∈ g.args, 0 ≤ a ∧ a < ((gs.length : Nat) : Int) := fun a ha => by have := hin a ha; omega
    have hins : ∀ a ∈ g.args, 0 ≤ a ∧ a < (ss.length : Int) := fun a ha => by have := hin a ha; omega
    refine .inr ⟨rows, addAll y ss g.args, by unfold stepD; rw [if_neg hnb, if_neg (by omega), if_pos hk], h.rok, addAll_ok hyb.1 (by omega) _ _ h.sok hin', fun k hkj => ?_, fun v x hv hx => ?_⟩
    · rw [et, addAll_at _ _ _ hn hins (by omega), h.low k hkj]
      have ht := tsum_nn hvb k (gs.drop (j + 1)) (d.drop (j + 1)) hdn
      unfold con wt
      by_cases hm : (k : Int) ∈ g.args
      · rw [if_pos hm, if_pos hm, if_neg (by omega), Int.mul_one, Int.add_comm y]
        exact cap_add1 ht hyb.1 hyb.2
      · rw [if_neg hm, if_neg hm, Int.zero_add]
    · rw [ei, h.row v x hv hx, if_neg (by omega), Int.zero_add]
  · have hin' : ∀ a ∈ g.args, 0 ≤ a ∧ a < ((gs.length : Nat) : Int) := fun a ha => by have := hin a ha; omega
    have hins : ∀ a ∈ g.args, 0 ≤ a ∧ a < (ss.length : Int) := fun a ha => by have := hin a ha; omega
    refine .inr ⟨rows, addPro y ss g.args (othR vals g.args), by unfold stepD; rw [if_neg hnb, if_neg (by omega), if_neg (by omega), if_pos hk], h.rok, addPro_ok hyb.1 _ _ _ h.sok hin' (fun q hq => (othR_bnd hvb g.args q hq).1), fun k hkj => ?_, fun v x hv hx => ?_⟩
    · rw [et]
      have ht := tsum_nn hvb k (gs.drop (j + 1)) (d.drop (j + 1)) hdn
      unfold con wt
      by_cases hm : (k : Int) ∈ g.args
      · obtain ⟨i, hi, e⟩ := List.getElem_of_mem hm
        have hq : i < (othR vals g.args).length := by rw [othR_len]; exact hi
        have hp := addPro_in (slope := y) g.args (othR vals g.args) ss i hi hq hn hins
        rw [oth_at hvb hn hi hq, e] at hp
        rw [hp, if_pos hm, if_pos hk, h.low k hkj, Int.add_comm (y * _)]
        have hpn : 0 ≤ prodL ((withoutR g.args (k : Int)).map (valAt vals)) := prodL_nn fun x hx => (map_bnd hvb _ x hx).1
        have hyc : capT y = y := if_neg (by omega)
        have hmul := cap_mul (x := y) hyb.1 hpn
        rw [hyc] at hmul
        rw [hmul]
        exact cap_add ht (Int.mul_nonneg hyb.1 hpn)
      · rw [addPro_out _ _ _ _ hins (by omega) hm, if_neg hm, Int.zero_add]
        exact h.low k hkj
    · rw [ei, h.row v x hv hx, if_neg (by omega), Int.zero_add]
theorem rows_eq {cs : List Int} {gs : List Gate} {d : List Int} {rows : List (List Int)} (hr : RowsOk cs rows) (h : ∀ v x : Nat, v < cs.length → x < (cs.getD v 0).toNat → valAt (rowAt rows (v : Int)) (x : Int) = isum v x gs d) :
    rows = (List.range cs.length).map fun v : Nat => (List.range (cs.getD v 0).toNat).map fun x : Nat => isum (v : Int) (x : Int) gs d := by
  have hl := hr.len
  refine List.ext_getElem (by simp [hl]) fun v h1 h2 => ?_
  have hv : v < cs.length := by omega
  simp only [List.getElem_map, List.getElem_range]
  have hrl := hr.row v h1
  refine List.ext_getElem (by simp [hrl]) fun x h3 h4 => ?_
  simp only [List.getElem_map, List.getElem_range]
  have := h v x hv (by omega)
  rw [← this]
  simp [rowAt, valAt, h1, h3]
theorem der_main {cs : List Int} {gs : List Gate} {vals : List Int} (hvb : ∀ v ∈ vals, 0 ≤ v ∧ v < 4611686018427387904) (hgB : ∀ {j : Nat} (hj : j < gs.length), gateB cs j gs[j] = true) : ∀ (j : Nat) (rows : List (List Int)) (ss d : List Int), j < gs.length → DInv cs gs vals j rows ss d →
    derGo vals gs (j + 1) rows ss = match refDGo vals gs j d with | none => none | some d' => rowsOf gs d' cs := by
  intro j
  induction j with
  | zero =>
    intro rows ss d hj h
    have hgd : gs.getD 0 ⟨0, 0, 0, 0, []⟩ = gs[0] := by rw [List.getD_eq_getElem?_getD, List.getElem?_eq_getElem hj]; rfl
    rw [derGo, hgd, refDGo]
    simp only
    rcases der_step hvb hj (hgB hj) h with ⟨h1, v, x, hv, hx, hb⟩ | ⟨rows', ss', h1, h2⟩
    · rw [h1]
      simp only [List.drop_zero] at hb
      rw [rows_none h.dok.bnd hv hx hb]
    · rw [h1]
      simp only
      have hro := h2.row
      simp only [List.drop_zero] at hro
      rw [derGo, rows_some h.dok.bnd (fun v x hv hx => ?_), ← rows_eq h2.rok hro]
      rw [← hro v x hv hx]
      have hvr : v < rows'.length := by rw [h2.rok.len]; exact hv
      have hrw : rowAt rows' (v : Int) = rows'[v] := by simp [rowAt, hvr]
      have hxl : x < (rowAt rows' (v : Int)).length := by rw [hrw, h2.rok.row v hvr]; exact hx
      obtain ⟨hh, e⟩ := valAt_get (vals := rowAt rows' (v : Int)) (a := (x : Int)) (by omega) (by omega)
      rw [e]
      exact (h2.rok.bnd _ (by rw [hrw]; exact List.getElem_mem hvr) _ (List.getElem_mem hh)).2
  | succ j ih =>
    intro rows ss d hj h
    have hgd : gs.getD (j + 1) ⟨0, 0, 0, 0, []⟩ = gs[j + 1] := by rw [List.getD_eq_getElem?_getD, List.getElem?_eq_getElem hj]; rfl
    have hdn : ∀ y ∈ d.drop (j + 1), 0 ≤ y := fun y hy => (h.dok.bnd y (List.mem_of_mem_drop hy)).1
    have hsp := parts_spec hvb (j : Int) (gs.drop (j + 1)) (d.drop (j + 1)) [] hdn (fun y hy => by simp at hy)
    simp only [sumL, Int.zero_add] at hsp
    have ht := tsum_nn hvb (j : Int) (gs.drop (j + 1)) (d.drop (j + 1)) hdn
    have href : refDGo vals gs (j + 1) d = if tsum vals j (gs.drop (j + 1)) (d.drop (j + 1)) < 4611686018427387904 then refDGo vals gs j (d.set j (tsum vals j (gs.drop (j + 1)) (d.drop (j + 1)))) else none := by
      rw [refDGo]
      cases hp : rPartsGo vals j [] (gs.drop (j + 1)) (d.drop (j + 1)) with
      | none =>
        rw [hp] at hsp
        simp only at hsp ⊢
        split at hsp
        · cases hsp
        · rename_i hn; rw [if_neg hn]
      | some parts =>
        rw [hp] at hsp
        simp only at hsp ⊢
        rw [hsp]
        by_cases hT : tsum vals j (gs.drop (j + 1)) (d.drop (j + 1)) < 4611686018427387904
        · rw [if_pos hT, if_pos hT]
        · rw [if_neg hT, if_neg hT]
    rw [derGo, hgd]
    rcases der_step hvb hj (hgB hj) h with ⟨h1, v, x, hv, hx, hb⟩ | ⟨rows', ss', h1, h2⟩
    · have h1' : stepD vals gs[j + 1] (valAt ss ((j + 1 : Nat) : Int)) rows ss = none := h1
      rw [h1']
      cases hr : refDGo vals gs (j + 1) d with
      | none => rfl
      | some r =>
        obtain ⟨k1, k2, _⟩ := refD_drop hvb (j + 1) d r h.dok.bnd hr
        simp only
        rw [rows_none k2 hv hx]
        have := isum_drop v x (j + 1) gs r fun y hy => (k2 y hy).1
        rw [k1] at this
        omega
    · have h1' : stepD vals gs[j + 1] (valAt ss ((j + 1 : Nat) : Int)) rows ss = some (rows', ss') := h1
      rw [h1', href]
      simp only
      have hcur := h2.low j (by omega)
      by_cases hT : tsum vals j (gs.drop (j + 1)) (d.drop (j + 1)) < 4611686018427387904
      · rw [if_pos hT]
        have hjd : j < d.length := by rw [h.dok.len]; omega
        refine ih rows' ss' (d.set j (tsum vals j (gs.drop (j + 1)) (d.drop (j + 1)))) (by omega) ⟨h2.rok, h2.sok, h.dok.set _ ht hT, ?_, fun k hk => ?_, fun v x hv hx => ?_⟩
        · rw [hcur]
          have : capT (tsum vals j (gs.drop (j + 1)) (d.drop (j + 1))) = tsum vals j (gs.drop (j + 1)) (d.drop (j + 1)) := if_neg (by omega)
          rw [this]
          have := valAt_set (ss := d) (a := (j : Int)) (k := (j : Int)) (y := tsum vals j (gs.drop (j + 1)) (d.drop (j + 1))) (by omega) (by omega) (by omega)
          rw [if_pos rfl, Int.toNat_natCast] at this
          exact this.symm
        · rw [h2.low k (by omega), List.drop_set_of_lt (by omega)]
        · rw [h2.row v x hv hx, List.drop_set_of_lt (by omega)]
      · rw [if_neg hT]
        have hgd' : gs.getD j ⟨0, 0, 0, 0, []⟩ = gs[j] := by rw [List.getD_eq_getElem?_getD, List.getElem?_eq_getElem (by omega)]; rfl
        have hc : valAt ss' (j : Int) = 4611686018427387904 := by rw [hcur]; exact if_pos (by omega)
        rw [derGo, hgd']
        have : stepD vals (gs[j]'(by omega)) (valAt ss' (j : Int)) rows' ss' = none := by unfold stepD; rw [if_pos hc]
        rw [this]
theorem derives_same (c : Circ) (input : List Int) : deriveR c input = refDeriveR c input := by
  unfold deriveR refDeriveR
  cases hv : validB c with
  | false => simp only [if_true]
  | true =>
    cases hi : inputB c.cards input with
    | false => simp only [Bool.true_eq_false, if_false, if_true]
    | true =>
      have h1 : gatesB c.cards 0 c.gates = true := by
        unfold validB at hv
        simp only [Bool.and_eq_true] at hv
        exact hv.2.2.2
      have h2 : inGo c.cards input = true := by
        unfold inputB at hi
        simp only [Bool.and_eq_true] at hi
        exact hi.2
      simp only [Bool.true_eq_false, if_false]
      have he := eval_same (inGo_get h2 (inputB_len hi)) c.gates [] 0 h1 (fun v h => by simp at h)
      unfold derO
      rw [he]
      cases hr : valuesGo input [] c.gates with
      | none => rfl
      | some vals =>
        have hvb := values_bnd c.gates [] vals 0 h1 (fun v h => by simp at h) hr
        obtain ⟨hm1, hm2⟩ := validB_len hv
        have hmain := der_main hvb (fun {j} hj => validB_get hv j hj) (c.gates.length - 1) (rows0 c.cards) (slope0 c.gates.length) (slope0 c.gates.length) (by omega) ⟨rows0_ok _, slope0_ok _, slope0_dok _, rfl, fun k hk => ?_, fun v x hv' hx => ?_⟩
        · rw [show c.gates.length - 1 + 1 = c.gates.length by omega] at hmain
          simp only
          rw [hmain]
          cases refDGo vals c.gates (c.gates.length - 1) (slope0 c.gates.length) with
          | none => rfl
          | some d =>
            simp only
            all_goals (cases rowsOf c.gates d c.cards <;> rfl)
        · rw [List.drop_of_length_le (by omega), tsum]
          · have : valAt (slope0 c.gates.length) (k : Int) = 0 := by
              unfold slope0 valAt
              rw [Int.toNat_natCast, List.getD_eq_getElem?_getD, List.getElem?_set, if_neg (by omega), List.getElem?_replicate]
              split <;> rfl
            rw [this]; rfl
          · intro g gs x d h; cases h
        · rw [List.drop_of_length_le (by omega), isum]
          · unfold rowAt rows0 valAt
            rw [Int.toNat_natCast, Int.toNat_natCast, List.getD_eq_getElem?_getD, List.getD_eq_getElem?_getD, List.getElem?_map]
            cases c.cards[v]? with
            | none => simp
            | some k => simp only [Option.map_some, Option.getD_some, List.getElem?_replicate]; split <;> rfl
          · intro g gs x d h; cases h
end Go.Proofs.Ytbjfkbkmoeibdaa.C
namespace Go.Proofs.Ytbjfkbkmoeibdaa.C
open Go Go.Mx Go.Lx
set_option linter.unusedSimpArgs false
set_option linter.unusedVariables false
set_option maxRecDepth 100000
theorem has5 : mC.has 5 fn5 := ⟨rfl, fun _ _ _ => rfl⟩
theorem opt_len {α β : Type} {f : α → Option β} : ∀ (l : List α) (acc r : List β), optGo f acc l = some r → r.length = acc.length + l.length ∧ ∀ b ∈ r, b ∈ acc ∨ ∃ a ∈ l, f a = some b
  | [], acc, r, h => by simp only [optGo, Option.some.injEq] at h; subst h; exact ⟨by simp, fun b hb => .inl hb⟩
  | a :: l, acc, r, h => by
    rw [optGo] at h
    cases hf : f a with
    | none => rw [hf] at h; cases h
    | some b =>
      rw [hf] at h
      obtain ⟨h1, h2⟩ := opt_len l _ r h
      refine ⟨by simp at h1 ⊢; omega, fun y hy => ?_⟩
      rcases h2 y hy with h3 | ⟨z, h3, h4⟩
      · rcases List.mem_append.1 h3 with h3 | h3
        · exact .inl h3
        · simp at h3; subst h3; exact .inr ⟨a, by simp, hf⟩
      · exact .inr ⟨z, by simp [h3], h4⟩
theorem tbl_bnd (c : Circ) (hs : c.Small) (input : List Int) : (refDeriveR c input).1.length < 1000000 ∧ ∀ r ∈ (refDeriveR c input).1, r.length < 1000000 := by
  have nil : (([] : List (List Int)), (0 : Int)).1.length < 1000000 := by simp
  have key : ∀ p : List (List Int) × Int, p.1 = [] → p.1.length < 1000000 ∧ ∀ r ∈ p.1, r.length < 1000000 := fun p h => by rw [h]; exact ⟨by simp, fun r hr => by simp at hr⟩
  unfold refDeriveR
  split
  · exact key _ rfl
  rename_i hv
  have hv' : validB c = true := by simpa using hv
  obtain ⟨_, hn2, hn3⟩ := valid_cards hv'
  split
  · exact key _ rfl
  split
  · exact key _ rfl
  split
  · exact key _ rfl
  split
  · exact key _ rfl
  · rename_i rows hr
    obtain ⟨h1, h2⟩ := opt_len _ _ _ hr
    refine ⟨by simp at h1; rw [h1]; omega, fun r hrr => ?_⟩
    rcases h2 r hrr with h3 | ⟨v, h3, h4⟩
    · simp at h3
    · obtain ⟨h5, _⟩ := opt_len _ _ _ h4
      simp at h3 h5
      rw [h5, List.getElem?_eq_getElem h3, Option.getD_some]
      have := (hn3 _ (List.getElem_mem h3)).2
      omega
set_option maxHeartbeats 8000000 in
theorem Derives_ok (d : Dr) (hd : d.Ok) (b0 b1 : Bd) (h0 : b0.Ok) (h1 : b1.Ok) (raw : Circ) (hraw : ∀ x ∈ raw.cards, x < 9223372036854775808) (l : List Int) (h8 : l.length = 8) (hl8 : ∀ x ∈ l, 0 ≤ x ∧ x < 256) (odd : List Int) :
    Lx.Fn mC 5 [.agg (drC d), .agg (bdC b0 ++ bdC b1), .agg (circC false raw), .agg (l.map dU8), ints false odd] (dB true) := by
  refine Lx.Fn.intro has5 (by simp [fn5]) (fun _ => rfl) ?_
  have hbd : bdC b0 ++ bdC b1 = [dU8 b0.w, dU8 b0.a, dI b0.n, dU8 b1.w, dU8 b1.a, dI b1.n] := rfl
  have edr : drC d = [u8s d.cards, g4s d.gates, dB d.big] := rfl
  have eraw : circC false raw = [ints false raw.cards, gatesD false raw.gates] := rfl
  have hl8' : (l.map dU8).length = 8 := by simp [h8]
  have hl8'' : (l.map dU8).take 8 = l.map dU8 := List.take_of_length_le (by rw [hl8']; exact Nat.le_refl 8)
  have hodd : ∀ L, slcD L 1 none (some ((min odd.length 10 : Nat) : Int)) none (ints false odd) = some (ints false (odd.take 10)) := fun L => by rw [slc_ints L false (by omega), take_min]
  simp only [wp, stepL_true, doI, quietI, isCallI, wantedD, LSt.put, LSt.putO, LSt.putE, qL, effL, evD, lk, Lx.cellsO, cells_agg, argsE, Nat.reduceEqDiff, Nat.reduceLT, Nat.reduceAdd, Bool.not_false, if_true, if_false, List.length_cons, List.length_nil, List.cons_append, List.nil_append, Nat.zero_add, reduceCtorEq, fn5, edr, hbd, eraw]
  refine EvL.fn wakes2_ok rfl rfl .nil ?_
  simp only [wp, stepL_true, doI, quietI, isCallI, wantedD, LSt.put, LSt.putO, qL, evD, boolD, litD, litV, lk, pickC_false, loadD_ptr, takeD, slotD, unV, Nat.reduceEqDiff, Nat.reduceLT, Nat.reduceAdd, Nat.reduceLeDiff, Bool.not_true, Bool.not_false, if_true, if_false, List.getElem?_cons_zero, List.getElem?_cons_succ, List.length_cons, List.length_nil, Nat.zero_add, List.drop_zero, List.take_succ_cons, List.take_zero, reduceCtorEq]
  refine EvL.fnA (circuits_ok d hd b0 b1 h0 h1 raw) rfl rfl raw_fr (fourC_fr d b0 b1 raw) ?_
  have hat := fun {k : Nat} (hk : k < 4) => fourC_at (d := d) (b0 := b0) (b1 := b1) (raw := raw) hk
  have hfine := four_fine (d := d) h0 h1 hraw
  have hlen := fourC_len d b0 b1 raw
  have hsc8 : D.scs 4 (fourC d b0 b1 raw) := by simp [fourC, four, circC, ints, D.scs, D.sc]
  have hscl : D.scs 4 (l.map dU8) := by
    refine scs_iff.2 fun x hx => ?_
    obtain ⟨y, _, rfl⟩ := List.mem_map.1 hx
    trivial
  generalize fourC d b0 b1 raw = ds8 at *
  generalize four d b0 b1 raw = cs4 at *
  simp only [wp, stepL_true, doI, quietI, isCallI, wantedD, LSt.put, LSt.putO, qL, evD, Nat.reduceLT, if_true]
  refine EvL.loop (α := Nat) (fun k => ⟨69, [(4, ints false odd), (8, .ptr 3 0), (24, .agg ds8), (25, dI k)], [.cells [u8s d.cards, g4s d.gates, dB d.big], .cells [dU8 b0.w, dU8 b0.a, dI b0.n, dU8 b1.w, dU8 b1.a, dI b1.n], .cells [ints false raw.cards, gatesD false raw.gates], .cells (l.map dU8)]⟩) (fun k => k ≤ 4) (fun k => 4 - k) 0 (Weak.sub (by simp [envSub, lk])) (by simp) ?_
  intro k p1
  refine wp_sound ?_
  by_cases hk : k < 4
  · obtain ⟨c, hc, hdt⟩ := hat hk
    have hcf := hfine c hc
    have hcs := hcf.small (by omega)
    have hlt : decide ((k : Int) < 4) = true := decide_eq_true (by omega)
    have hltp : ((k : Int) < ((4 : Nat) : Int)) = True := eq_true (by omega)
    have hroom : (k * 2 + 2 ≤ ds8.length) = True := eq_true (by omega)
    have hw2 : IntKind.i64.wrap ((k : Int) + 1) = ((k + 1 : Nat) : Int) := by rw [wrap64 (by omega) (by omega)]; rfl
    have hcards : ∀ L, slcD L 1 none (some ((min c.cards.length 10 : Nat) : Int)) none (ints false c.cards) = some (ints false (c.cards.take 10)) := fun L => by rw [slc_ints L false (by omega), take_min]
    simp only [wp, stepL_true, doI, quietI, isCallI, wantedD, LSt.put, LSt.putO, LSt.putE, qL, effL, evD, evDs, intD, boolD, litD, litV, litDs, evDOI, lk, pickC_true, loadD_ptr, fldD, takeD, slotD, Lx.cellsO, cells_agg, putD, storeD, binV, intBin, mms, mm2, Option.map_some, cond_true, cond_false, beq_self_eq_true, Nat.reduceEqDiff, Nat.reduceLT, Nat.reduceAdd, Bool.not_true, Bool.not_false, and_self, if_true, if_false, List.getElem?_cons_zero, List.getElem?_cons_succ, List.length_cons, List.length_nil, List.cons_append, List.nil_append, Nat.zero_add, Nat.add_zero, List.drop_zero, List.drop_succ_cons, List.take_zero, List.map_cons, List.map_nil, List.set_cons_zero, List.set_cons_succ, hlt, hltp, Int.natCast_nonneg, Int.toNat_natCast, Option.getD_some, hroom, hdt, len_ints, min10, hcards, hl8', hl8'', Nat.le_refl, hodd]
    refine EvL.fn (Inputs_ok (c.cards.take 10) l (by simp; omega) (fun x hx => hcf.val x (List.mem_of_mem_take hx)) h8 hl8) rfl rfl (.cons (snp_ints _ _ _) (.cons (snp_eight l) .nil)) ?_
    simp only [wp, stepL_true, doI, quietI, isCallI, wantedD, LSt.put, LSt.putO, qL, evD, lk, Lx.cellsO, fillD, putD, Nat.reduceEqDiff, Nat.reduceLT, Nat.reduceAdd, Nat.reduceLeDiff, and_self, if_true, if_false, List.length_cons, List.length_nil, List.cons_append, List.nil_append, Nat.zero_add, List.drop_zero, List.drop_succ_cons, List.take_succ_cons, List.take_zero, List.map_cons, List.map_nil, cells_ints]
    have hil := inputsGo_len l (c.cards.take 10) 0
    have hin : ∀ {j : Nat}, j < 2 → ∃ t inp, inp.length < 1000000 ∧ [ints true (inputsGo l 0 (c.cards.take 10)), ints false (odd.take 10)][j]? = some (ints t inp) := by
      intro j hj
      match j, hj with
      | 0, _ => exact ⟨true, _, by rw [hil]; simp; omega, rfl⟩
      | 1, _ => exact ⟨false, odd.take 10, by simp; omega, rfl⟩
    generalize [ints true (inputsGo l 0 (c.cards.take 10)), ints false (odd.take 10)] = ds2 at *
    refine EvL.loop (α := Nat) (fun j => ⟨69, [(4, ints false odd), (8, .ptr 3 0), (12, .ptr 4 0), (24, .agg ds8), (25, dI k), (42, .agg ds2), (43, dI j)], [.cells [u8s d.cards, g4s d.gates, dB d.big], .cells [dU8 b0.w, dU8 b0.a, dI b0.n, dU8 b1.w, dU8 b1.a, dI b1.n], .cells [ints false raw.cards, gatesD false raw.gates], .cells (l.map dU8), .cells [ints false c.cards, gatesD false c.gates]]⟩) (fun j => j ≤ 2) (fun j => 2 - j) 0 (Weak.sub (by simp [envSub, lk])) (by simp) ?_
    intro j r1
    refine wp_sound ?_
    by_cases hj : j < 2
    · obtain ⟨t, inp, hinl, hget⟩ := hin hj
      have hltj : decide ((j : Int) < 2) = true := decide_eq_true (by omega)
      have hltpj : ((j : Int) < ((2 : Nat) : Int)) = True := eq_true (by omega)
      have hw3 : IntKind.i64.wrap ((j : Int) + 1) = ((j + 1 : Nat) : Int) := by rw [wrap64 (by omega) (by omega)]; rfl
      simp only [wp, stepL_true, doI, quietI, isCallI, wantedD, LSt.put, LSt.putO, qL, evD, intD, boolD, litD, litV, lk, pickC_true, loadD_ptr, takeD, slotD, binV, intBin, Option.map_some, cond_true, beq_self_eq_true, Nat.reduceEqDiff, Nat.reduceLT, Nat.reduceAdd, Nat.reduceLeDiff, Bool.not_false, and_self, if_true, if_false, List.getElem?_cons_zero, List.getElem?_cons_succ, List.length_cons, List.length_nil, Nat.zero_add, List.drop_zero, List.take_succ_cons, List.take_zero, hltj, hltpj, Int.natCast_nonneg, Int.toNat_natCast, Option.getD_none, Nat.mul_one, hget]
      refine EvL.fn (Derive_ok c hcs inp hinl) rfl rfl (.cons (snp_circ _ _ _) (.cons (snp_ints _ _ _) .nil)) ?_
      simp only [wp, stepL_true, doI, quietI, isCallI, wantedD, LSt.put, LSt.putO, qL, evD, lk, loadD_ptr, takeD, slotD, Nat.reduceEqDiff, Nat.reduceLT, Nat.reduceAdd, Nat.reduceLeDiff, Bool.not_false, if_true, if_false, List.getElem?_cons_zero, List.getElem?_cons_succ, List.length_cons, List.length_nil, Nat.zero_add, List.drop_zero, List.take_succ_cons, List.take_zero]
      refine EvL.fn (RefDerive_ok c hcs inp hinl) rfl rfl (.cons (snp_circ _ _ _) (.cons (snp_ints _ _ _) .nil)) ?_
      rw [derives_same]
      obtain ⟨w1, w2⟩ := tbl_bnd c hcs inp
      simp only [wp, stepL_true, doI, quietI, isCallI, wantedD, wantD, LSt.put, LSt.putO, qL, evD, litD, litV, lk, binV, intBin, Option.map_some, cond_true, cond_false, beq_self_eq_true, Nat.reduceEqDiff, Nat.reduceLT, Bool.not_true, Bool.not_false, if_true, if_false, List.getElem?_cons_zero, List.getElem?_cons_succ, bneq]
      refine EvL.fn (SameTable_ok _ _ w1 w2) rfl rfl (.cons (snp_tbl _ _ _) (.cons (snp_tbl _ _ _) .nil)) ?_
      rw [beq_self_eq_true]
      simp only [wp, stepL_true, doI, quietI, isCallI, wantedD, wantD, LSt.put, LSt.putO, qL, evD, boolD, litD, litV, lk, pickC_false, binV, intBin, unV, Option.map_some, cond_true, cond_false, beq_self_eq_true, Nat.reduceEqDiff, Nat.reduceLT, Bool.not_true, Bool.not_false, if_true, if_false, hw3]
      exact ⟨j + 1, by omega, by omega, Weak.sub (by simp [envSub, lk])⟩
    · have hltj : decide ((j : Int) < 2) = false := decide_eq_false (by omega)
      simp only [wp, stepL_true, doI, quietI, isCallI, wantedD, LSt.put, LSt.putO, qL, evD, boolD, litD, litV, lk, pickC_false, binV, intBin, Option.map_some, cond_true, beq_self_eq_true, Nat.reduceEqDiff, Nat.reduceLT, Bool.not_false, if_true, if_false, reduceCtorEq, hltj, hw2]
      refine ⟨k + 1, by omega, by omega, ?_⟩
      refine Weak.cutD (L0 := [.cells [u8s d.cards, g4s d.gates, dB d.big], .cells [dU8 b0.w, dU8 b0.a, dI b0.n, dU8 b1.w, dU8 b1.a, dI b1.n], .cells [ints false raw.cards, gatesD false raw.gates], .cells (l.map dU8)]) rfl (Nat.zero_le _) ?_ ?_
      · simp [envOk, lk, D.sc, ints, hsc8]
      · exact ⟨by simp [LB.sc, D.scs, D.sc, u8s, g4s], by simp [LB.sc, D.scs, D.sc], by simp [LB.sc, D.scs, D.sc, ints, gatesD], hscl, trivial⟩
  · have hlt : decide ((k : Int) < 4) = false := decide_eq_false (by omega)
    simp only [wp, stepL_true, doI, quietI, isCallI, wantedD, LSt.put, LSt.putO, qL, evD, boolD, litD, litV, lk, pickC_false, binV, intBin, Option.map_some, cond_true, beq_self_eq_true, Nat.reduceEqDiff, Nat.reduceLT, Bool.not_false, if_true, if_false, hlt]
    exact RetQ.pl rfl rfl
end Go.Proofs.Ytbjfkbkmoeibdaa.C
namespace Go.Proofs.Ytbjfkbkmoeibdaa.C
open Go Go.Mx Go.Lx Go.ChangeShapes Go.WideShapes Go.ChangeAt Go.RowKit
set_option linter.unusedSimpArgs false
set_option linter.unusedVariables false
set_option maxRecDepth 100000
theorem flats5 : ∀ t ∈ [25, 28, 32, 46, 29], (flatT Try.prog 8 t).isSome = true := by
  intro t ht
  simp only [List.mem_cons, List.not_mem_nil, or_false] at ht
  rcases ht with rfl | rfl | rfl | rfl | rfl
  · rw [flat25]; rfl
  · rw [flat28]; rfl
  · rw [flat32]; rfl
  · rw [flat46]; rfl
  · rw [flat29]; rfl
theorem reads5 : ∀ t ∈ [25, 28, 32, 46, 29], Try.prog.readableRec t = true ∧ t < Try.prog.types.size := by
  have h : ([25, 28, 32, 46, 29].all fun t => Try.prog.readableRec t && decide (t < Try.prog.types.size)) = true := by kernel_rfl
  intro t ht
  have := List.all_eq_true.1 h t ht
  simpa using this
theorem derives_calls {H : Type} {enc : TypeId × Value → H} {w : World} {b0 : Nat} {args : Array Value} {ds : List (DataW H)} {ps : List MemPlace}
    (hv : ∀ (j : Nat) t v, [25, 28, 32, 46, 29][j]? = some t → args[j]? = some v → Value.okWide Try.prog w .any b0 t v) (hd : DataW.TrodAll enc Try.prog w 0 (fun _ => true) true [25, 28, 32, 46, 29] args.toList ds ps) :
    Calls Try.prog 5 args w fun e w' => e = .returned (.bool true) ∧ Below w.heap.size w w' := by
  refine lawC (g := 8) hv hd flats5 fun es hes => ?_
  obtain ⟨x, y, z, u, v, rfl, h1, h2, h3, h4, h5⟩ := ShAs.five hes
  obtain ⟨d, rfl, k1⟩ := sh_draft h1
  obtain ⟨b0, b1, rfl, k2, k3⟩ := sh_bends h2
  obtain ⟨c, rfl, k4⟩ := sh_circ h3
  obtain ⟨l, rfl, k5, k6⟩ := sh_eight h4
  obtain ⟨odd, rfl, _⟩ := sh_odd h5
  exact Derives_ok d k1 b0 b1 k2 k3 c k4 l k5 k6 odd
theorem derives_lifted (os : Os) (started : os.Started) (H : Type) (enc : TypeId × Value → H) :
    ReturnsInHanded {} Try.checked os 5 .any (Rows.circuitDerivesSpec.pre6 enc Try.prog Try.f5 Rows.circuitDerivesRow.domain false) (Rows.circuitDerivesSpec.post enc Try.prog Try.f5 false true false false) := by
  refine returnsInHanded_of_change (C := Try.checked) own started (by kernel_rfl) Try.func5
    (ChangeSpec.witness6 (enc := enc) (C := Try.checked) false ⟨#[], #[.agg #[.slice none 0 0, .slice none 0 0, .bool true], .agg #[.int .u8 0, .int .u8 0, .int .i64 0, .int .u8 0, .int .u8 0, .int .i64 0], .agg #[.slice none 0 0, .slice none 0 0], .agg #[.int .u8 0, .int .u8 0, .int .u8 0, .int .u8 0, .int .u8 0, .int .u8 0, .int .u8 0, .int .u8 0], .slice none 0 0], []⟩ 8 (by kernel_rfl) (by kernel_rfl) (by kernel_rfl) (by kernel_rfl)) ?_
  intro W base args ds gs before hval0 hW hcnd _
  have hval : ∀ (j : Nat) t v, Try.f5.params[j]? = some t → args[j]? = some v → Value.okWide Try.prog W .any base t v := hval0
  have hlt : ∀ x ∈ before, x.block < W.heap.size := fun x hx => hW.lt x hx
  have hW' := hW
  obtain ⟨p, q, hA0, hV, rfl, hfz, hnd⟩ := hW
  have hA : DataW.TrodAll enc Try.prog W 0 (fun _ => true) true Try.f5.params.toList args.toList ds p := hA0
  rw [Try.params5] at hA hval
  have hcalls := derives_calls (fun j t v h1 h2 => hval j t v (by simpa using h1) h2) hA
  obtain ⟨d0, d1, d2, d3, d4, rfl⟩ := len5 (trods_len hA)
  obtain ⟨rfl, rfl⟩ := trodVars_none hV
  clear hval0
  refine hcalls.mono fun e W' ⟨he, hb⟩ => ?_
  subst he
  refine ⟨_, rfl, _, _, _, [], p, [], hW', trodAll_mk1 (shut_bool Try.underlying4 true), ?_, rfl, hb.frame _, fun h => by cases h⟩
  have := trods_stay hb reads5 hA (fun x hx => hlt x (by simp [hx]))
  exact this
theorem derives_holds : Rows.CircuitDerivesSaid :=
  OpenClaim.holds_of_wide 5 Try.f5 rfl rfl rfl rfl rfl rfl rfl ⟨rfl, rfl, rfl, rfl, rfl⟩ rfl rfl rfl rfl rfl (by kernel_rfl) Try.func5 (by kernel_rfl)
    (of_decide_eq_true (by kernel_rfl)) (by unfold Func.isWrapper; first | (rw [if_pos (by decide +kernel)]; kernel_rfl) | (rw [if_neg (by decide +kernel)]; exact ⟨rfl, rfl⟩))
    (fun os started H enc _ => derives_lifted os started H enc)
end Go.Proofs.Ytbjfkbkmoeibdaa.C
namespace Go.Proofs.Ytbjfkbkmoeibdaa
theorem derives_holds : Rows.CircuitDerivesSaid := C.derives_holds
end Go.Proofs.Ytbjfkbkmoeibdaa
