/-
  Contracts: lists of numbers. Conditions: none.
-/
import Derived.Test.YtbjfkbkmoeibdaaLx9
import Derived.Test.YtbjfkbkmoeibdaaTabC
namespace Go.Proofs.Ytbjfkbkmoeibdaa.C
open Go Go.Mx Go.Lx
set_option linter.unusedSimpArgs false
set_option linter.unusedVariables false
set_option maxRecDepth 100000
abbrev dI (n : Int) : D := .lit (.int .i64 n)
abbrev dB (b : Bool) : D := .lit (.bool b)
def ints (t : Bool) (xs : List Int) : D := .fz t 1 (xs.map fun x => [dI x])
def orcW : Orc := fun _ f args h => if f = 10 then (match args with | [] => some (.ret (.lit (.bool true)), h) | _ :: _ => none) else none
def mC : Mach := ⟨lookT tab, orcW⟩
def sumGo : Int → List Int → Option Int
  | o, [] => some o
  | o, x :: r => if x > 4611686018427387903 - o then none else sumGo (o + x) r
theorem has57 : mC.has 57 fn57 := ⟨rfl, fun _ _ _ => rfl⟩
theorem wrap64 {n : Int} (h1 : -9223372036854775808 ≤ n) (h2 : n < 9223372036854775808) : IntKind.i64.wrap n = n := by
  simp only [IntKind.wrap, IntKind.bits, IntKind.signed]; simp; omega
theorem ints_get {xs : List Int} {i : Nat} (h : i < xs.length) : (xs.map fun x => [dI x])[i]? = some [dI xs[i]] := by simp [h]
theorem drop_cons {α : Type} {xs : List α} {k : Nat} (h : k < xs.length) : xs.drop k = xs[k] :: xs.drop (k + 1) := List.drop_eq_getElem_cons h
theorem Sum_ok (xs : List Int) (hl : xs.length < 1000000) (hx : ∀ x ∈ xs, 0 ≤ x ∧ x ≤ 4611686018427387903) : Lx.Fn mC 57 [ints false xs] (.tup [dI ((sumGo 0 xs).getD 0), dB (sumGo 0 xs).isSome]) := by
  refine Lx.Fn.intro has57 (by simp [fn57]) (fun _ => rfl) ?_
  simp only [fn57, wp, stepL_true, doI, quietI, isCallI, wantedD, LSt.put, LSt.putO, qL, evD, argsE, Nat.reduceLT, Bool.not_false, if_true]
  refine EvL.loop (α := Nat × Int) (fun a => ⟨26, [(0, ints false xs), (4, dI a.2), (5, dI a.1)], []⟩) (fun a => a.1 ≤ xs.length ∧ 0 ≤ a.2 ∧ a.2 ≤ 4611686018427387903 ∧ sumGo a.2 (xs.drop a.1) = sumGo 0 xs) (fun a => xs.length - a.1) (0, 0) (Weak.sub (by simp [envSub, lk])) (by simp) ?_
  rintro ⟨k, o⟩ ⟨h1, h2, h3, h4⟩
  simp only at h1 h2 h3 h4
  refine wp_sound ?_
  by_cases hk : k < xs.length
  · have hb := hx xs[k] (List.getElem_mem hk)
    have hk' : ((k : Int) < ((xs.map fun x => [dI x]).length : Int)) = True := by simp; omega
    have hw : IntKind.i64.wrap (4611686018427387903 - o) = 4611686018427387903 - o := wrap64 (by omega) (by omega)
    have hw2 : IntKind.i64.wrap ((k : Int) + 1) = ((k + 1 : Nat) : Int) := by rw [wrap64 (by omega) (by omega)]; rfl
    rw [drop_cons hk, sumGo] at h4
    by_cases hc : 4611686018427387903 - o < xs[k]
    · rw [if_pos hc] at h4
      simp only [wp, stepL_true, doI, quietI, isCallI, wantedD, LSt.put, LSt.putO, qL, evD, intD, boolD, litD, litV, lk, pickC_true, lenD_fz, idxD_fz, loadD_fptr, takeD, binV, intBin, Option.map_some, cond_true, beq_self_eq_true, Nat.reduceEqDiff, Nat.reduceLT, Bool.not_false, and_self, if_true, if_false, List.getElem?_cons_zero, decide_true, reduceCtorEq, ints, hk', hw, Int.toNat_natCast, ints_get hk, hc, Int.natCast_nonneg]
      exact RetQ.ret rfl (by rw [← h4]; exact pl_snp rfl _ _)
    · rw [if_neg hc] at h4
      have hw3 : IntKind.i64.wrap (o + xs[k]) = o + xs[k] := wrap64 (by omega) (by omega)
      simp only [wp, stepL_true, doI, quietI, isCallI, wantedD, LSt.put, LSt.putO, qL, evD, intD, boolD, litD, litV, lk, pickC_true, pickC_false, lenD_fz, idxD_fz, loadD_fptr, takeD, binV, intBin, Option.map_some, cond_true, beq_self_eq_true, Nat.reduceEqDiff, Nat.reduceLT, Bool.not_false, and_self, if_true, if_false, List.getElem?_cons_zero, decide_true, decide_false, reduceCtorEq, ints, hk', hw, hw2, hw3, Int.toNat_natCast, ints_get hk, hc, Int.natCast_nonneg]
      exact ⟨(k + 1, o + xs[k]), ⟨by simp; omega, by show 0 ≤ o + xs[k]; omega, by show o + xs[k] ≤ _; omega, h4⟩, by simp; omega, Weak.sub (by simp [envSub, lk])⟩
  · have hk' : ((k : Int) < ((xs.map fun x => [dI x]).length : Int)) = False := by simp; omega
    simp only [wp, stepL_true, doI, quietI, isCallI, wantedD, LSt.put, LSt.putO, qL, evD, boolD, litD, litV, lk, pickC_false, lenD_fz, binV, intBin, Option.map_some, cond_true, beq_self_eq_true, Nat.reduceEqDiff, Nat.reduceLT, Bool.not_false, if_true, if_false, decide_false, reduceCtorEq, ints, hk']
    rw [List.drop_of_length_le (by omega), sumGo] at h4
    exact RetQ.ret rfl (by rw [← h4]; exact pl_snp rfl _ _)
end Go.Proofs.Ytbjfkbkmoeibdaa.C
