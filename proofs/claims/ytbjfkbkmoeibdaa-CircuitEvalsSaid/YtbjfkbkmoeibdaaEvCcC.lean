/-
  Contracts: Inputs, Clone. Conditions: none.
-/
import Derived.Test.YtbjfkbkmoeibdaaEvCcB
import Derived.Test.YtbjfkbkmoeibdaaLx12
namespace Go.Proofs.Ytbjfkbkmoeibdaa.C
open Go Go.Mx Go.Lx
set_option linter.unusedSimpArgs false
set_option linter.unusedVariables false
set_option maxRecDepth 100000
abbrev dU8 (n : Int) : D := .lit (.int .u8 n)
def inVal (card l : Int) : Int := IntKind.i64.wrap (l.tmod (IntKind.i64.wrap ((if 0 > card then 0 else card) + 1)) - 1)
def inputsGo (l : List Int) : Nat → List Int → List Int
  | _, [] => []
  | v, k :: r => inVal k (valAt l ((v % 8 : Nat) : Int)) :: inputsGo l (v + 1) r
theorem inputsGo_len (l : List Int) : ∀ (cards : List Int) (v : Nat), (inputsGo l v cards).length = cards.length
  | [], _ => rfl
  | k :: r, v => by simp [inputsGo, inputsGo_len l r]
theorem has19 : mC.has 19 fn19 := ⟨rfl, fun _ _ _ => rfl⟩
theorem has27 : mC.has 27 fn27 := ⟨rfl, fun _ _ _ => rfl⟩
theorem wrap_ne {n : Int} (h1 : 0 < n) (h2 : n ≤ 9223372036854775808) : (IntKind.i64.wrap n == 0) = false := by
  have : IntKind.i64.wrap n ≠ 0 := by
    simp only [IntKind.wrap, IntKind.bits, IntKind.signed]; simp; omega
  simpa using this
set_option maxHeartbeats 4000000 in
theorem Inputs_ok (cards l : List Int) (hl : cards.length < 1000000) (hc : ∀ x ∈ cards, x < 9223372036854775808) (h8 : l.length = 8) (hl8 : ∀ x ∈ l, 0 ≤ x ∧ x < 256) : Lx.Fn mC 19 [ints false cards, .agg (l.map dU8)] (ints true (inputsGo l 0 cards)) := by
  refine Lx.Fn.intro has19 (by simp [fn19]) (fun h => by cases h) ?_
  simp only [wp, stepL_true, doI, quietI, isCallI, wantedD, LSt.put, LSt.putO, LSt.putE, qL, effL, evD, lk, Lx.cellsO, cells_agg, argsE, Nat.reduceEqDiff, Nat.reduceLT, Bool.not_false, if_true, if_false, List.length_nil, List.nil_append, Nat.zero_add, reduceCtorEq, fn19, len_ints]
  refine EvL.loop (α := List Int) (fun xs => ⟨30, [(3, .ptr 0 0), (5, .sl 1 0 1 xs.length none xs.length), (8, ints false cards), (9, dI cards.length), (10, dI xs.length)], [.cells (l.map dU8), .grow 1 (intsE xs)]⟩) (fun xs => xs.length ≤ cards.length ∧ xs ++ inputsGo l xs.length (cards.drop xs.length) = inputsGo l 0 cards) (fun xs => cards.length - xs.length) []
    ((Weak.ghost (k := 5) (n := 1) (by simp) (by simp [lk])).trans (Weak.sub (by simp [envSub, lk]))) (by simp) ?_
  rintro xs ⟨p1, p2⟩
  refine wp_sound ?_
  by_cases hk : xs.length < cards.length
  · have hlt : decide ((xs.length : Int) < (cards.length : Int)) = true := by simp; omega
    have hw2 : IntKind.i64.wrap ((xs.length : Int) + 1) = ((xs.length + 1 : Nat) : Int) := by rw [wrap64 (by omega) (by omega)]; rfl
    have hrem : Int.tmod (xs.length : Int) 8 = ((xs.length % 8 : Nat) : Int) := rfl
    have hr8 : ((xs.length % 8 : Nat) : Int) < ((8 : Nat) : Int) := by omega
    have hx8 : xs.length % 8 < l.length := by omega
    have hva : valAt l ((xs.length % 8 : Nat) : Int) = l[xs.length % 8] := by unfold valAt; rw [Int.toNat_natCast]; simp [hx8]
    have hget : (l.map dU8)[xs.length % 8]? = some (dU8 (valAt l ((xs.length % 8 : Nat) : Int))) := by rw [hva]; simp [hx8]
    obtain ⟨b1, b2⟩ := hl8 _ (List.getElem_mem hx8)
    rw [← hva] at b1 b2
    have hw3 : IntKind.i64.wrap (valAt l ((xs.length % 8 : Nat) : Int)) = valAt l ((xs.length % 8 : Nat) : Int) := wrap64 (by omega) (by omega)
    have hcb := hc _ (List.getElem_mem hk)
    have hne : (IntKind.i64.wrap ((if 0 > cards[xs.length] then 0 else cards[xs.length]) + 1) == 0) = false := by
      refine wrap_ne ?_ ?_ <;> split <;> omega
    rw [drop_cons hk, inputsGo] at p2
    simp only [wp, stepL_true, doI, quietI, isCallI, wantedD, LSt.put, LSt.putO, LSt.putE, qL, effL, evD, evDs, intD, boolD, litD, litV, litDs, lk, pickC_true, loadD_ptr, loadD_fptr, fldD, takeD, esOf, Lx.cellsO, cells_lit, oneV, fillE, srcD_sl, appD, binV, intBin, mms, mm2, Option.map_some, cond_true, cond_false, beq_self_eq_true, Nat.reduceEqDiff, Nat.reduceLT, Nat.reduceAdd, Nat.reduceLeDiff, Bool.not_false, and_self, if_true, if_false, List.getElem?_cons_zero, List.getElem?_cons_succ, List.length_cons, List.length_nil, List.cons_append, List.nil_append, Nat.zero_add, Int.reduceBEq, List.drop_zero, List.take_succ_cons, List.take_zero, List.map_cons, List.map_nil, List.set_cons_zero, List.set_cons_succ, List.replicate_succ, List.replicate_zero, hlt, idx_ints _ _ hk, hrem, hr8, Int.natCast_nonneg, Int.toNat_natCast, Nat.mul_one, hget, hw3, hne, intsE_len, mb8 (show xs.length < 1000000 by omega), hw2]
    refine ⟨xs ++ [inVal cards[xs.length] (valAt l ((xs.length % 8 : Nat) : Int))], ⟨by simp; omega, by rw [← p2]; simp⟩, by simp; omega, ?_⟩
    refine Weak.cutD (L0 := [.cells (l.map dU8), .grow 1 (intsE (xs ++ [inVal cards[xs.length] (valAt l ((xs.length % 8 : Nat) : Int))]))]) ?_ (by simp) ?_ ?_
    · rw [← intsE_app]; rfl
    · simp [envOk, lk, D.sc, ints]
    · refine ⟨?_, intsE_sc _ _, trivial⟩
      simp only [LB.sc]
      refine scs_iff.2 fun d hd => ?_
      obtain ⟨x, _, rfl⟩ := List.mem_map.1 hd
      trivial
  · have hlt : decide ((xs.length : Int) < (cards.length : Int)) = false := by simp; omega
    rw [List.drop_of_length_le (by omega), inputsGo, List.append_nil] at p2
    simp only [wp, stepL_true, doI, quietI, isCallI, wantedD, LSt.put, LSt.putO, qL, evD, boolD, litD, litV, lk, pickC_false, binV, intBin, Option.map_some, cond_true, beq_self_eq_true, Nat.reduceEqDiff, Nat.reduceLT, Bool.not_false, if_true, if_false, hlt]
    refine RetQ.ret rfl ?_
    rw [← p2]
    exact snp_own (by simp [esOf, intsE_len]) (fun k h => by cases h)
theorem Clone_ok (b0 b1 b2 : LB) (t : Bool) (xs : List Int) (hne : 0 < xs.length) (hl : xs.length < 1000000) : CallL mC false 27 [ints t xs] [b0, b1, b2] (fun d L' => d = .sl 4 0 1 xs.length none xs.length ∧ L' = [b0, b1, b2, .els 1 [], .grow 1 (intsE xs)]) fun _ _ => False := by
  refine CallL.code has27 rfl (by simp [fn27]) ?_
  have h2 : (xs.length = 0) = False := eq_false (by omega)
  have h3 : xs.length * 8 ≤ maxBytes := by show _ ≤ 140737488355328; omega
  have h4 : (xs.length ≤ 0) = False := eq_false (by omega)
  have h5 : ints t xs = .fz t 1 (intsE xs) := rfl
  simp only [wp, stepL_true, doI, quietI, isCallI, wantedD, LSt.put, LSt.putO, LSt.putE, qL, effL, evD, boolD, lk, pickC_false, fillE, srcD_fz, appD, argsE, Nat.reduceEqDiff, Nat.reduceLT, Nat.reduceAdd, Bool.not_false, and_true, and_self, if_true, if_false, List.getElem?_cons_zero, List.getElem?_cons_succ, List.length_cons, List.length_nil, List.cons_append, List.nil_append, Nat.zero_add, Nat.add_zero, List.drop_zero, List.take_zero, List.map_cons, List.map_nil, List.set_cons_zero, List.set_cons_succ, List.replicate_zero, reduceCtorEq, fn27, h5, intsE_len, h2, h3, h4, hne, Nat.le_refl]
  exact ⟨_, rfl, rfl⟩
end Go.Proofs.Ytbjfkbkmoeibdaa.C
