/-
  Contracts: products of two numbers, and what stays at the limit. Conditions: none.
-/
import Derived.Test.YtbjfkbkmoeibdaaDe1
import Derived.Test.YtbjfkbkmoeibdaaCc5
namespace Go.Proofs.Ytbjfkbkmoeibdaa.C
open Go Go.Mx Go.Lx
set_option linter.unusedSimpArgs false
set_option linter.unusedVariables false
set_option maxRecDepth 100000
abbrev dU (n : Int) : D := .lit (.int .u64 n)
theorem wrapU (n : Nat) : IntKind.u64.wrap (n : Int) = ((n % 18446744073709551616 : Nat) : Int) := by
  simp only [IntKind.wrap, IntKind.bits, IntKind.signed]; simp
theorem mulU (x y : Nat) : IntKind.u64.wrap ((x : Int) * (y : Int)) = ((x * y % 18446744073709551616 : Nat) : Int) := by rw [← Int.natCast_mul, wrapU]
theorem addU (x y : Nat) : IntKind.u64.wrap ((x : Int) + (y : Int)) = ((x + y) % 18446744073709551616 : Nat) := by rw [← Int.natCast_add, wrapU]
theorem and32 (x : Nat) (hx : x < 18446744073709551616) : IntKind.u64.wrap ((BitVec.ofInt IntKind.u64.bits (x : Int) &&& BitVec.ofInt IntKind.u64.bits 4294967295).toNat : Int) = ((x % 4294967296 : Nat) : Int) := by
  rw [wrapU]
  congr 1
  have h1 : BitVec.ofInt IntKind.u64.bits (4294967295 : Int) = BitVec.ofNat 64 4294967295 := rfl
  have h2 : BitVec.ofInt IntKind.u64.bits (x : Int) = BitVec.ofNat 64 x := by show BitVec.ofInt 64 (x : Int) = _; simp
  rw [h1, h2]
  show (BitVec.ofNat 64 x &&& BitVec.ofNat 64 4294967295).toNat % 18446744073709551616 = _
  rw [BitVec.toNat_and, BitVec.toNat_ofNat, BitVec.toNat_ofNat]
  have h3 : 4294967295 % 2 ^ 64 = 2 ^ 32 - 1 := by decide
  rw [h3, Nat.and_two_pow_sub_one_eq_mod]
  omega
theorem shr32 (x : Nat) : Int.fdiv (x : Int) (2 ^ (min (Int.toNat 32) IntKind.u64.bits)) = ((x / 4294967296 : Nat) : Int) := by
  have h : (2 ^ (min (Int.toNat 32) IntKind.u64.bits) : Int) = ((4294967296 : Nat) : Int) := by decide
  rw [h, Int.fdiv_eq_ediv_of_nonneg _ (by omega)]
  rfl
theorem has79 : mC.has 79 fn79 := ⟨rfl, fun _ _ _ => rfl⟩
theorem mul64_math (a b : Nat) (ha : a < 18446744073709551616) (hb : b < 18446744073709551616) : ((a / 4294967296 * (b / 4294967296) % 18446744073709551616 + (a / 4294967296 * (b % 4294967296) % 18446744073709551616 + a % 4294967296 * (b % 4294967296) % 18446744073709551616 / 4294967296) % 18446744073709551616 / 4294967296) % 18446744073709551616 + ((a / 4294967296 * (b % 4294967296) % 18446744073709551616 + a % 4294967296 * (b % 4294967296) % 18446744073709551616 / 4294967296) % 18446744073709551616 % 4294967296 + a % 4294967296 * (b / 4294967296) % 18446744073709551616) % 18446744073709551616 / 4294967296) % 18446744073709551616 = a * b / 18446744073709551616 := by
  have e : a * b = (a / 4294967296 * (b / 4294967296)) * 18446744073709551616 + (a / 4294967296 * (b % 4294967296) + a % 4294967296 * (b / 4294967296)) * 4294967296 + a % 4294967296 * (b % 4294967296) := by
    conv => lhs; rw [← Nat.div_add_mod a 4294967296, ← Nat.div_add_mod b 4294967296]
    generalize a / 4294967296 = x1; generalize a % 4294967296 = x0; generalize b / 4294967296 = y1; generalize b % 4294967296 = y0
    simp only [Nat.mul_add, Nat.add_mul]
    have h1 : 4294967296 * x1 * (4294967296 * y1) = x1 * y1 * 18446744073709551616 := by
      rw [Nat.mul_mul_mul_comm, Nat.mul_comm]
    have h2 : x0 * (4294967296 * y1) = x0 * y1 * 4294967296 := by rw [Nat.mul_left_comm, Nat.mul_comm]
    have h3 : 4294967296 * x1 * y0 = x1 * y0 * 4294967296 := by rw [Nat.mul_assoc, Nat.mul_comm]
    omega
  rw [e]
  have b1 : a / 4294967296 ≤ 4294967295 := by omega
  have b2 : a % 4294967296 ≤ 4294967295 := by omega
  have b3 : b / 4294967296 ≤ 4294967295 := by omega
  have b4 : b % 4294967296 ≤ 4294967295 := by omega
  have m1 := Nat.mul_le_mul b1 b3
  have m2 := Nat.mul_le_mul b1 b4
  have m3 := Nat.mul_le_mul b2 b3
  have m4 := Nat.mul_le_mul b2 b4
  generalize a / 4294967296 * (b / 4294967296) = p11 at *
  generalize a / 4294967296 * (b % 4294967296) = p10 at *
  generalize a % 4294967296 * (b / 4294967296) = p01 at *
  generalize a % 4294967296 * (b % 4294967296) = p00 at *
  omega
theorem Mul64_ok (a b : Nat) (ha : a < 18446744073709551616) (hb : b < 18446744073709551616) : Lx.Fn mC 79 [dU a, dU b] (.tup [dU ((a * b / 18446744073709551616 : Nat) : Int), dU ((a * b % 18446744073709551616 : Nat) : Int)]) := by
  refine Lx.Fn.intro has79 (by simp [fn79]) (fun _ => rfl) ?_
  rw [← mul64_math a b ha hb]
  have hand : ∀ x : Nat, IntKind.u64.wrap ((BitVec.ofInt IntKind.u64.bits ((x % 18446744073709551616 : Nat) : Int) &&& BitVec.ofInt IntKind.u64.bits 4294967295).toNat : Int) = ((x % 18446744073709551616 % 4294967296 : Nat) : Int) := fun x => and32 _ (Nat.mod_lt _ (by decide))
  simp only [wp, stepL_true, doI, quietI, isCallI, wantedD, LSt.put, LSt.putO, qL, evD, litD, litV, lk, binV, intBin, argsE, Option.map_some, cond_true, beq_self_eq_true, Nat.reduceEqDiff, Nat.reduceLT, Bool.not_false, if_true, if_false, Nat.zero_add, Int.reduceLE, decide_true, reduceCtorEq, fn79, and32 a ha, and32 b hb, hand, shr32, mulU, addU]
  exact RetQ.pl rfl rfl
def mulT (a b : Int) : Int := if 4611686018427387904 ≤ a * b then 4611686018427387904 else a * b
def addT (a b : Int) : Int := if 4611686018427387904 - a < b then 4611686018427387904 else a + b
theorem has77 : mC.has 77 fn77 := ⟨rfl, fun _ _ _ => rfl⟩
theorem has75 : mC.has 75 fn75 := ⟨rfl, fun _ _ _ => rfl⟩
theorem has69 : mC.has 69 fn69 := ⟨rfl, fun _ _ _ => rfl⟩
theorem mul_split {x y : Nat} (hx : x ≤ 4611686018427387904) (hy : y ≤ 4611686018427387904) : (0 < x * y / 18446744073709551616 ∨ 4611686018427387903 < x * y % 18446744073709551616) ↔ 4611686018427387904 ≤ x * y := by
  generalize x * y = p
  omega
theorem toNatC {a : Int} (h : 0 ≤ a) : ∃ x : Nat, a = x := ⟨a.toNat, by omega⟩
theorem times_ok (a b : Int) (ha : 0 ≤ a) (ha' : a ≤ 4611686018427387904) (hb : 0 ≤ b) (hb' : b ≤ 4611686018427387904) : Lx.Fn mC 77 [dI a, dI b] (dI (mulT a b)) := by
  obtain ⟨x, rfl⟩ := toNatC ha
  obtain ⟨y, rfl⟩ := toNatC hb
  have hx : x ≤ 4611686018427387904 := by omega
  have hy : y ≤ 4611686018427387904 := by omega
  have hs := mul_split hx hy
  refine Lx.Fn.intro has77 (by simp [fn77]) (fun _ => rfl) ?_
  have w1 : x % 18446744073709551616 = x := by omega
  have w2 : y % 18446744073709551616 = y := by omega
  simp only [wp, stepL_true, doI, quietI, isCallI, wantedD, LSt.put, LSt.putO, qL, evD, intD, lk, argsE, Nat.reduceEqDiff, Nat.reduceLT, Bool.not_false, if_true, if_false, Nat.zero_add, reduceCtorEq, fn77, wrapU, w1, w2]
  refine EvL.fn (Mul64_ok x y (by omega) (by omega)) rfl rfl (.cons (.lit _) (.cons (.lit _) .nil)) ?_
  unfold mulT
  rw [← Int.natCast_mul]
  have hp : x * y = x * y / 18446744073709551616 * 18446744073709551616 + x * y % 18446744073709551616 := by omega
  generalize hP : x * y = p at hp hs ⊢
  cases h1 : decide ((0 : Int) < ((p / 18446744073709551616 : Nat) : Int))
  · cases h2 : decide ((4611686018427387903 : Int) < ((p % 18446744073709551616 : Nat) : Int))
    · have h1' := of_decide_eq_false h1
      have h2' := of_decide_eq_false h2
      have e : p < 4611686018427387904 := by omega
      rw [if_neg (by show ¬ (4611686018427387904 : Int) ≤ _; omega)]
      have w3 : IntKind.i64.wrap ((p % 18446744073709551616 : Nat) : Int) = (p : Int) := by rw [wrap64 (by omega) (by omega)]; omega
      simp only [wp, stepL_true, doI, quietI, isCallI, wantedD, wantD, LSt.put, LSt.putO, qL, evD, intD, boolD, litD, litV, lk, pickC_false, binV, intBin, Option.map_some, cond_true, cond_false, beq_self_eq_true, Nat.reduceEqDiff, Nat.reduceLT, Bool.not_false, if_true, if_false, List.getElem?_cons_zero, List.getElem?_cons_succ, reduceCtorEq, h1, h2, w3]
      exact RetQ.pl rfl rfl
    · have h2' := of_decide_eq_true h2
      rw [if_pos (by show (4611686018427387904 : Int) ≤ _; omega)]
      simp only [wp, stepL_true, doI, quietI, isCallI, wantedD, wantD, LSt.put, LSt.putO, qL, evD, boolD, litD, litV, lk, pickC_true, binV, intBin, Option.map_some, cond_true, cond_false, beq_self_eq_true, Nat.reduceEqDiff, Nat.reduceLT, Bool.not_false, if_true, if_false, List.getElem?_cons_zero, List.getElem?_cons_succ, reduceCtorEq, h1, h2]
      exact RetQ.pl rfl rfl
  · have h1' := of_decide_eq_true h1
    rw [if_pos (by show (4611686018427387904 : Int) ≤ _; omega)]
    simp only [wp, stepL_true, stepL_false, doI, quietI, isCallI, wantedD, wantD, undefD, LSt.put, LSt.putO, qL, evD, boolD, litD, litV, lk, pickC_true, binV, intBin, Option.map_some, cond_true, cond_false, beq_self_eq_true, Nat.reduceEqDiff, Nat.reduceLT, Bool.not_true, Bool.not_false, if_true, if_false, List.getElem?_cons_zero, List.getElem?_cons_succ, reduceCtorEq, h1]
    exact RetQ.pl rfl rfl
theorem plus_ok (a b : Int) (ha : 0 ≤ a) (ha' : a ≤ 4611686018427387904) (hb : 0 ≤ b) (hb' : b ≤ 4611686018427387904) : Lx.Fn mC 75 [dI a, dI b] (dI (addT a b)) := by
  refine Lx.Fn.intro has75 (by simp [fn75]) (fun _ => rfl) ?_
  have w1 : IntKind.i64.wrap (4611686018427387904 - a) = 4611686018427387904 - a := wrap64 (by omega) (by omega)
  have w2 : IntKind.i64.wrap (a + if 4611686018427387904 - a < b then 4611686018427387904 - a else b) = addT a b := by
    unfold addT
    split
    · rw [wrap64 (by omega) (by omega)]; omega
    · rw [wrap64 (by omega) (by omega)]
  simp only [wp, stepL_true, doI, quietI, isCallI, wantedD, LSt.put, LSt.putO, qL, evD, evDs, litD, litV, litDs, lk, binV, intBin, mms, mm2, argsE, Option.map_some, cond_true, cond_false, beq_self_eq_true, Nat.reduceEqDiff, Nat.reduceLT, Bool.not_false, if_true, if_false, Nat.zero_add, reduceCtorEq, fn75, w1, w2]
  exact RetQ.pl rfl rfl
/-- The reference's product of two numbers. -/
def mulR (a b : Int) : Option Int := if 4611686018427387904 ≤ a * b then none else some (a * b)
theorem Product2_ok (a b : Int) (ha : 0 ≤ a) (ha' : a ≤ 4611686018427387904) (hb : 0 ≤ b) (hb' : b ≤ 4611686018427387904) : Lx.Fn mC 69 [dI a, dI b] (.tup [dI ((mulR a b).getD 0), dB (mulR a b).isSome]) := by
  obtain ⟨x, rfl⟩ := toNatC ha
  obtain ⟨y, rfl⟩ := toNatC hb
  have hx : x ≤ 4611686018427387904 := by omega
  have hy : y ≤ 4611686018427387904 := by omega
  have hs := mul_split hx hy
  refine Lx.Fn.intro has69 (by simp [fn69]) (fun _ => rfl) ?_
  have w1 : x % 18446744073709551616 = x := by omega
  have w2 : y % 18446744073709551616 = y := by omega
  simp only [wp, stepL_true, doI, quietI, isCallI, wantedD, LSt.put, LSt.putO, qL, evD, intD, lk, argsE, Nat.reduceEqDiff, Nat.reduceLT, Bool.not_false, if_true, if_false, Nat.zero_add, reduceCtorEq, fn69, wrapU, w1, w2]
  refine EvL.fn (Mul64_ok x y (by omega) (by omega)) rfl rfl (.cons (.lit _) (.cons (.lit _) .nil)) ?_
  unfold mulR
  rw [← Int.natCast_mul]
  have hp : x * y = x * y / 18446744073709551616 * 18446744073709551616 + x * y % 18446744073709551616 := by omega
  generalize hP : x * y = p at hp hs ⊢
  cases h1 : decide ((0 : Int) < ((p / 18446744073709551616 : Nat) : Int))
  · cases h2 : decide ((4611686018427387903 : Int) < ((p % 18446744073709551616 : Nat) : Int))
    · have h1' := of_decide_eq_false h1
      have h2' := of_decide_eq_false h2
      have e : p < 4611686018427387904 := by omega
      rw [if_neg (by show ¬ (4611686018427387904 : Int) ≤ _; omega)]
      have w3 : IntKind.i64.wrap ((p % 18446744073709551616 : Nat) : Int) = (p : Int) := by rw [wrap64 (by omega) (by omega)]; omega
      simp only [wp, stepL_true, doI, quietI, isCallI, wantedD, wantD, LSt.put, LSt.putO, qL, evD, intD, boolD, litD, litV, lk, pickC_false, binV, intBin, Option.map_some, cond_true, cond_false, beq_self_eq_true, Nat.reduceEqDiff, Nat.reduceLT, Bool.not_false, if_true, if_false, List.getElem?_cons_zero, List.getElem?_cons_succ, reduceCtorEq, h1, h2, w3]
      exact RetQ.pl rfl rfl
    · have h2' := of_decide_eq_true h2
      rw [if_pos (by show (4611686018427387904 : Int) ≤ _; omega)]
      simp only [wp, stepL_true, doI, quietI, isCallI, wantedD, wantD, LSt.put, LSt.putO, qL, evD, boolD, litD, litV, lk, pickC_true, binV, intBin, Option.map_some, cond_true, cond_false, beq_self_eq_true, Nat.reduceEqDiff, Nat.reduceLT, Bool.not_false, if_true, if_false, List.getElem?_cons_zero, List.getElem?_cons_succ, reduceCtorEq, h1, h2]
      exact RetQ.pl rfl rfl
  · have h1' := of_decide_eq_true h1
    rw [if_pos (by show (4611686018427387904 : Int) ≤ _; omega)]
    simp only [wp, stepL_true, stepL_false, doI, quietI, isCallI, wantedD, wantD, undefD, LSt.put, LSt.putO, qL, evD, boolD, litD, litV, lk, pickC_true, binV, intBin, Option.map_some, cond_true, cond_false, beq_self_eq_true, Nat.reduceEqDiff, Nat.reduceLT, Bool.not_true, Bool.not_false, if_true, if_false, List.getElem?_cons_zero, List.getElem?_cons_succ, reduceCtorEq, h1]
    exact RetQ.pl rfl rfl
end Go.Proofs.Ytbjfkbkmoeibdaa.C
