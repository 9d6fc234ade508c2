/-
  Plain laws: numbers and sets of bits. Conditions: none.
-/
import Derived.Test.YtobhjbbinnbdaaaNsDc3
import Derived.Test.YtobhjbbinnbdaaaNsJ1
namespace Go.Dc
open Go Go.Mx Go.Lx
set_option linter.unusedSimpArgs false
set_option linter.unusedVariables false
theorem w64_nat {n : Nat} (h : n < 9223372036854775808) : w64 (n : Int) = (n : Int) := wrap64 (by omega) (by omega)
theorem w64_eq {n : Int} (h1 : -9223372036854775808 ≤ n) (h2 : n < 9223372036854775808) : w64 n = n := wrap64 h1 h2
theorem w64_succ {n : Nat} (h : n + 1 < 9223372036854775808) : w64 ((n : Int) + 1) = ((n + 1 : Nat) : Int) := by
  rw [w64_eq (by omega) (by omega)]; omega
theorem wrapU (n : Nat) : IntKind.u64.wrap (n : Int) = ((n % 18446744073709551616 : Nat) : Int) := by
  simp only [IntKind.wrap, IntKind.bits, IntKind.signed]; simp
theorem wrapU_lt {n : Nat} (h : n < 18446744073709551616) : IntKind.u64.wrap (n : Int) = (n : Int) := by
  rw [wrapU, Nat.mod_eq_of_lt h]
theorem andU {a b : Nat} (ha : a < 18446744073709551616) (hb : b < 18446744073709551616) : andI .u64 (a : Int) (b : Int) = ((a &&& b : Nat) : Int) := by
  have h : (BitVec.ofInt 64 (a : Int) &&& BitVec.ofInt 64 (b : Int)).toNat = a &&& b := by
    simp only [BitVec.ofInt_natCast, BitVec.toNat_and, BitVec.toNat_ofNat]
    rw [Nat.mod_eq_of_lt ha, Nat.mod_eq_of_lt hb]
  show IntKind.u64.wrap ((BitVec.ofInt 64 (a : Int) &&& BitVec.ofInt 64 (b : Int)).toNat : Int) = _
  rw [h]
  exact wrapU_lt (Nat.lt_of_le_of_lt Nat.and_le_left ha)
theorem orU {a b : Nat} (ha : a < 18446744073709551616) (hb : b < 18446744073709551616) : orI .u64 (a : Int) (b : Int) = ((a ||| b : Nat) : Int) := by
  have h : (BitVec.ofInt 64 (a : Int) ||| BitVec.ofInt 64 (b : Int)).toNat = a ||| b := by
    simp only [BitVec.ofInt_natCast, BitVec.toNat_or, BitVec.toNat_ofNat]
    rw [Nat.mod_eq_of_lt ha, Nat.mod_eq_of_lt hb]
  show IntKind.u64.wrap ((BitVec.ofInt 64 (a : Int) ||| BitVec.ofInt 64 (b : Int)).toNat : Int) = _
  rw [h]
  exact wrapU_lt (Nat.or_lt_two_pow (n := 64) ha hb)
/-- What is in a and not in b. -/
def diff (a b : Nat) : Nat := (BitVec.ofNat 64 a &&& ~~~ BitVec.ofNat 64 b).toNat
theorem diff_lt (a b : Nat) : diff a b < 18446744073709551616 := (BitVec.ofNat 64 a &&& ~~~ BitVec.ofNat 64 b).isLt
theorem notU (a b : Nat) : notI .u64 (a : Int) (b : Int) = ((diff a b : Nat) : Int) := by
  show IntKind.u64.wrap ((BitVec.ofInt 64 (a : Int) &&& ~~~ BitVec.ofInt 64 (b : Int)).toNat : Int) = _
  rw [BitVec.ofInt_natCast, BitVec.ofInt_natCast]
  exact wrapU_lt (diff_lt a b)
theorem diff_bit {a b i : Nat} (ha : a < 18446744073709551616) (hb : b < 18446744073709551616) : (diff a b).testBit i = (a.testBit i && !b.testBit i) := by
  unfold diff
  rw [BitVec.testBit_toNat, BitVec.getLsbD_and, BitVec.getLsbD_not, BitVec.getLsbD_ofNat, BitVec.getLsbD_ofNat]
  by_cases hi : i < 64
  · simp [hi]
  · have : a.testBit i = false := Nat.testBit_lt_two_pow (Nat.lt_of_lt_of_le ha (Nat.pow_le_pow_right (n := 2) (by decide) (show 64 ≤ i by omega)))
    simp [hi, this]
theorem shlU {v : Nat} (hv : v < 64) : shlI .u64 1 (v : Int) = some ((2 ^ v : Nat) : Int) := by
  unfold shlI
  rw [if_pos (by omega)]
  congr 1
  have h1 : min (v : Int).toNat IntKind.u64.bits = v := by
    rw [show IntKind.u64.bits = 64 from rfl, Int.toNat_natCast]; exact Nat.min_eq_left (by omega)
  rw [h1, Int.one_mul]
  have h2 : ((2 : Int) ^ v) = ((2 ^ v : Nat) : Int) := by simp
  rw [h2]
  exact wrapU_lt (Nat.pow_lt_pow_right (by decide) hv)
theorem shrU {a v : Nat} (hv : v < 64) : shrI .u64 (a : Int) (v : Int) = some ((a >>> v : Nat) : Int) := by
  unfold shrI
  rw [if_pos (by omega)]
  congr 1
  have h1 : min (v : Int).toNat IntKind.u64.bits = v := by
    rw [show IntKind.u64.bits = 64 from rfl, Int.toNat_natCast]; exact Nat.min_eq_left (by omega)
  rw [h1, Nat.shiftRight_eq_div_pow]
  have h2 : ((2 : Int) ^ v) = ((2 ^ v : Nat) : Int) := by simp
  rw [h2, Int.fdiv_eq_ediv_of_nonneg _ (Int.natCast_nonneg _)]
  rfl
theorem bit1 (a v : Nat) : ((a >>> v) &&& 1) = (a.testBit v).toNat := by
  rw [Nat.and_one_is_mod, Nat.testBit_eq_decide_div_mod_eq, Nat.shiftRight_eq_div_pow]
  have h := Nat.mod_two_eq_zero_or_one (a / 2 ^ v)
  rcases h with h | h <;> simp [h]
/-- A bit is asked for. -/
theorem askU {a v : Nat} (ha : a < 18446744073709551616) (hv : v < 64) : ∃ q : Int, shrI .u64 (a : Int) (v : Int) = some q ∧ andI .u64 q 1 = ((a.testBit v).toNat : Int) := by
  refine ⟨_, shrU hv, ?_⟩
  rw [show (1 : Int) = ((1 : Nat) : Int) from rfl, andU (Nat.lt_of_le_of_lt (by rw [Nat.shiftRight_eq_div_pow]; exact Nat.div_le_self _ _) ha) (by decide), bit1]
end Go.Dc
namespace Go.Dc
open Go Go.Mx Go.Lx
set_option linter.unusedSimpArgs false
set_option linter.unusedVariables false
variable {α : Type}
theorem getI_at' {xs : List α} {i : Nat} : getI xs (i : Int) = xs[i]? := by
  unfold getI
  rw [if_pos (Int.natCast_nonneg i), Int.toNat_natCast]
theorem getI_some {xs : List α} {i : Nat} (h : i < xs.length) : getI xs (i : Int) = some (xs[i]'h) := by
  rw [getI_at', List.getElem?_eq_getElem h]
theorem setI_nat {xs : List α} {i : Nat} {v : α} (h : i < xs.length) : setI xs (i : Int) v = some (xs.set i v) := by
  unfold setI
  rw [if_pos (by omega), Int.toNat_natCast]
theorem push_ok {b : Nat} {xs ys : List α} (h : (xs.length + ys.length) * b ≤ 70368744177664) : pushI b xs ys = some (xs ++ ys) := by
  unfold pushI
  rw [if_pos (by simp only [maxBytes]; omega)]
theorem make_ok {b n : Nat} {z : α} (h : n * b ≤ 70368744177664) : makeI b (n : Int) z = some (List.replicate n z) := by
  have h2 : (n : Int) * (b : Int) ≤ maxBytes := by
    rw [← Int.natCast_mul]; simp only [maxBytes]; omega
  unfold makeI
  rw [if_pos ⟨Int.natCast_nonneg n, h2⟩, Int.toNat_natCast]
theorem start_ok {b : Nat} {xs : List α} (h : xs.length * b ≤ 70368744177664) : startI b xs = some xs := by
  unfold startI
  rw [if_pos (by simp only [maxBytes]; omega)]
theorem lt_nat {i n : Nat} : decide ((i : Int) < (n : Int)) = decide (i < n) := by simp
theorem fuel_nat (n : Nat) : ((n : Int) - 0 + 2).toNat = n + 2 := by omega
theorem cards_l {p0 : S_api_Net} (hl : p0.nodes.length ≤ 8) : ∀ (n i : Nat) (acc : List Int), i ≤ p0.nodes.length → acc.length ≤ i → p0.nodes.length - i < n →
    r05_Cards_l1 p0 n (i : Int) acc = some (acc ++ (p0.nodes.drop i).map (·.card))
  | 0, _, _, _, _, h => absurd h (Nat.not_lt_zero _)
  | n + 1, i, acc, h1, h2, h3 => by
    unfold r05_Cards_l1
    by_cases hi : i < p0.nodes.length
    · rw [lt_nat, decide_eq_true hi, cond_true, getI_some hi, Option.bind_some, push_ok (by simp; omega), Option.bind_some, w64_succ (by omega),
        cards_l hl n (i + 1) _ hi (by simp; omega) (by omega), List.drop_eq_getElem_cons hi]
      rw [List.append_assoc]; rfl
    · rw [lt_nat, decide_eq_false hi, cond_false, List.drop_eq_nil_of_le (by omega)]
      simp
theorem cards_ok {p0 : S_api_Net} (hl : p0.nodes.length ≤ 8) : r05_Cards_s p0 = some (p0.nodes.map (·.card)) := by
  unfold r05_Cards_s
  rw [fuel_nat]
  have h := cards_l hl (p0.nodes.length + 2) 0 [] (Nat.zero_le _) (Nat.le_refl _) (by omega)
  rw [show ((0 : Nat) : Int) = 0 from rfl] at h
  rw [h]
  simp
/-- Places in range. -/
def Pl (n : Nat) (xs : List Nat) : Prop := ∀ x ∈ xs, x < n
def iL (xs : List Nat) : List Int := xs.map (fun x : Nat => (x : Int))
theorem iL_len (xs : List Nat) : (iL xs).length = xs.length := by simp [iL]
theorem iL_get {xs : List Nat} {i : Nat} (h : i < xs.length) : (iL xs)[i]'(by rw [iL_len]; exact h) = ((xs[i] : Nat) : Int) := by simp [iL]
theorem getI_iL {xs : List Nat} {i : Nat} (h : i < xs.length) : getI (iL xs) (i : Int) = some ((xs[i] : Nat) : Int) := by
  rw [getI_some (by rw [iL_len]; exact h), iL_get h]
theorem at_l {cs : List Int} {ps : List Nat} (hp : Pl cs.length ps) (hl : ps.length ≤ 8) : ∀ (n i : Nat) (acc : List Int), i ≤ ps.length → acc.length ≤ i → ps.length - i < n →
    r02_At_l1 (iL ps) cs n (i : Int) acc = some (acc ++ (ps.drop i).map fun p => cs.getD p 0)
  | 0, _, _, _, _, h => absurd h (Nat.not_lt_zero _)
  | n + 1, i, acc, h1, h2, h3 => by
    unfold r02_At_l1
    rw [iL_len]
    by_cases hi : i < ps.length
    · have hb : ps[i] < cs.length := hp _ (List.getElem_mem hi)
      rw [lt_nat, decide_eq_true hi, cond_true, getI_iL hi, Option.bind_some, getI_some hb, Option.bind_some, push_ok (by simp; omega), Option.bind_some, w64_succ (by omega),
        at_l hp hl n (i + 1) _ hi (by simp; omega) (by omega), List.drop_eq_getElem_cons hi]
      rw [List.append_assoc, List.map_cons, show cs.getD ps[i] 0 = cs[ps[i]] by simp [hb]]; rfl
    · rw [lt_nat, decide_eq_false hi, cond_false, List.drop_eq_nil_of_le (by omega)]
      simp
theorem at_ok {cs : List Int} {ps : List Nat} (hp : Pl cs.length ps) (hl : ps.length ≤ 8) : r02_At_s cs (iL ps) = some (ps.map fun p => cs.getD p 0) := by
  unfold r02_At_s
  rw [iL_len, fuel_nat]
  have h := at_l hp hl (ps.length + 2) 0 [] (Nat.zero_le _) (Nat.le_refl _) (by omega)
  rw [show ((0 : Nat) : Int) = 0 from rfl] at h
  rw [h]
  simp
/-- The product of cards that are at least 1, all of it small. -/
def prodI (xs : List Nat) : Nat := xs.foldr (· * ·) 1
theorem prodI_pos {xs : List Nat} (h : ∀ x ∈ xs, 1 ≤ x) : 1 ≤ prodI xs := by
  induction xs with
  | nil => exact Nat.le_refl 1
  | cons x xs ih => exact Nat.mul_le_mul (h x List.mem_cons_self) (ih fun y hy => h y (List.mem_cons_of_mem _ hy))
theorem size_l {cs : List Nat} (hc : ∀ x ∈ cs, 1 ≤ x) (hl : cs.length ≤ 8) : ∀ (n i a : Nat), i ≤ cs.length → a * prodI (cs.drop i) ≤ 65536 → cs.length - i < n →
    r02_Size_l1 (iL cs) n (a : Int) (i : Int) = some ((a * prodI (cs.drop i) : Nat) : Int)
  | 0, _, _, _, _, h => absurd h (Nat.not_lt_zero _)
  | n + 1, i, a, h1, h2, h3 => by
    unfold r02_Size_l1
    rw [iL_len]
    by_cases hi : i < cs.length
    · have e : cs.drop i = cs[i] :: cs.drop (i + 1) := List.drop_eq_getElem_cons hi
      have e2 : a * prodI (cs.drop i) = a * cs[i] * prodI (cs.drop (i + 1)) := by rw [e]; exact (Nat.mul_assoc _ _ _).symm
      rw [e2] at h2
      have hq : 1 ≤ prodI (cs.drop (i + 1)) := prodI_pos fun x hx => hc x (List.mem_of_mem_drop hx)
      have hle : a * cs[i] ≤ 65536 := Nat.le_trans (Nat.le_mul_of_pos_right _ hq) h2
      rw [lt_nat, decide_eq_true hi, cond_true, getI_iL hi, Option.bind_some, w64_succ (by omega), show ((a : Int) * ((cs[i] : Nat) : Int)) = ((a * cs[i] : Nat) : Int) by simp,
        w64_nat (by omega), size_l hc hl n (i + 1) _ hi h2 (by omega), e2]
    · rw [lt_nat, decide_eq_false hi, cond_false, List.drop_eq_nil_of_le (by omega)]
      simp [prodI]
theorem size_ok {cs : List Nat} (hc : ∀ x ∈ cs, 1 ≤ x) (hl : cs.length ≤ 8) (hp : prodI cs ≤ 65536) : r02_Size_s (iL cs) = some ((prodI cs : Nat) : Int) := by
  unfold r02_Size_s
  rw [iL_len, fuel_nat]
  have h := size_l hc hl (cs.length + 2) 0 1 (Nat.zero_le _) (by simpa using hp) (by omega)
  rw [show ((0 : Nat) : Int) = 0 from rfl, show ((1 : Nat) : Int) = 1 from rfl] at h
  rw [h]
  simp
end Go.Dc
namespace Go.Dc
open Go Go.Mx Go.Lx
set_option linter.unusedSimpArgs false
set_option linter.unusedVariables false
theorem setI_iL {xs : List Nat} {i v : Nat} (h : i < xs.length) : setI (iL xs) (i : Int) (v : Int) = some (iL (xs.set i v)) := by
  rw [setI_nat (by rw [iL_len]; exact h)]; simp [iL]
theorem sum_set : ∀ {xs : List Nat} {i k : Nat} (h : i < xs.length), (xs.set i (xs[i] + k)).sum = xs.sum + k
  | [], i, k, h => absurd h (Nat.not_lt_zero _)
  | x :: xs, 0, k, h => by simp; omega
  | x :: xs, i + 1, k, h => by
    have := sum_set (xs := xs) (i := i) (k := k) (by simpa using h)
    simp only [List.set_cons_succ, List.sum_cons, List.getElem_cons_succ, this]
    omega
theorem get_le_sum : ∀ {xs : List Nat} {i : Nat} (h : i < xs.length), xs[i] ≤ xs.sum
  | [], i, h => absurd h (Nat.not_lt_zero _)
  | x :: xs, 0, h => by simp
  | x :: xs, i + 1, h => by
    have := get_le_sum (xs := xs) (i := i) (by simpa using h)
    simp only [List.sum_cons, List.getElem_cons_succ]
    omega
theorem getI_app {xs0 bs : List Nat} {x : Nat} : getI (iL (xs0 ++ x :: bs)) ((xs0.length : Nat) : Int) = some (x : Int) := by
  rw [getI_iL (by simp)]; simp
theorem setI_app {xs0 bs : List Nat} {x y : Nat} : setI (iL (xs0 ++ x :: bs)) ((xs0.length : Nat) : Int) (y : Int) = some (iL (xs0 ++ y :: bs)) := by
  rw [setI_iL (by simp)]; simp
theorem rem_nat {a b : Nat} (hb : 0 < b) : remI (a : Int) (b : Int) = some ((a % b : Nat) : Int) := by
  unfold remI
  have : ((b : Int) == 0) = false := by simp; omega
  rw [this, cond_false]; rfl
theorem row1 {ws : List Nat} {g p c : Nat} (hp : p ≤ 65536) (hc : c ≤ 8) : ∀ (n : Nat) (xs0 : List Nat) (k : Nat), xs0.length + k = c → xs0.sum ≤ 7 * xs0.length → k < n →
    ∃ zs : List Nat, zs.length = c ∧ zs.sum ≤ 7 * c ∧ r05_row_l1 (c : Int) (iL ws) (p : Int) n ((xs0.sum : Nat) : Int) (xs0.length : Int) (iL (xs0 ++ List.replicate k 0)) = some (((zs.sum : Nat) : Int), iL zs)
  | 0, _, _, _, _, h => absurd h (Nat.not_lt_zero _)
  | n + 1, xs0, 0, h1, h2, h3 => by
    refine ⟨xs0, by simpa using h1, by rw [← h1]; simpa using h2, ?_⟩
    unfold r05_row_l1
    rw [lt_nat, decide_eq_false (by omega), cond_false]
    simp
  | n + 1, xs0, k + 1, h1, h2, h3 => by
    have step : ∀ a : Nat, a ≤ 7 → ∃ zs : List Nat, zs.length = c ∧ zs.sum ≤ 7 * c ∧ r05_row_l1 (c : Int) (iL ws) (p : Int) n (w64 (((xs0.sum : Nat) : Int) + (a : Int))) (w64 ((xs0.length : Int) + 1)) (iL (xs0 ++ a :: List.replicate k 0)) = some (((zs.sum : Nat) : Int), iL zs) := by
      intro a ha
      obtain ⟨zs, e1, e2, e3⟩ := row1 (ws := ws) (g := g) hp hc n (xs0 ++ [a]) k (by simp; omega) (by simp; omega) (by omega)
      refine ⟨zs, e1, e2, ?_⟩
      rw [w64_succ (by omega), ← Int.natCast_add, w64_nat (by omega), ← e3]
      simp
    unfold r05_row_l1
    rw [lt_nat, decide_eq_true (by omega), cond_true, iL_len, List.replicate_succ]
    by_cases h0 : 0 < ws.length
    · have hq : (p + xs0.length) % ws.length < ws.length := Nat.mod_lt _ h0
      obtain ⟨zs, e1, e2, e3⟩ := step (ws[(p + xs0.length) % ws.length] % 8) (by omega)
      refine ⟨zs, e1, e2, ?_⟩
      rw [show decide ((0 : Int) < (ws.length : Int)) = true by simpa using h0, cond_true, ← Int.natCast_add, w64_nat (by omega), rem_nat h0, Option.bind_some, getI_iL hq, Option.bind_some, getI_app,
        Option.bind_some, show (((ws[(p + xs0.length) % ws.length] : Nat) : Int).tmod 8) = ((ws[(p + xs0.length) % ws.length] % 8 : Nat) : Int) from rfl, w64_nat (by omega), setI_app,
        Option.bind_some, Option.bind_some, getI_app, Option.bind_some, e3]
    · obtain ⟨zs, e1, e2, e3⟩ := step 0 (by omega)
      refine ⟨zs, e1, e2, ?_⟩
      rw [show decide ((0 : Int) < (ws.length : Int)) = false by simpa using h0, cond_false, Option.bind_some, getI_app, Option.bind_some, e3]
theorem row2 {g t c : Nat} (hg : g ≤ 60) (hc : c ≤ 8) (ht : t ≤ 65536) : ∀ (n : Nat) (xs0 bs : List Nat) (m : Nat) (v : Nat), xs0.length + bs.length = c → xs0.sum * t + g * bs.sum ≤ g * t → bs.sum ≤ t → xs0.sum ≤ g → v < c → bs.length < n →
    ∃ (zs : List Nat) (v' : Nat), zs.length = c ∧ zs.sum ≤ g ∧ v' < c ∧ r05_row_l2 (c : Int) (g : Int) (t : Int) n ((g - xs0.sum : Nat) : Int) (v : Int) (xs0.length : Int) (iL (xs0 ++ bs)) = some (((g - zs.sum : Nat) : Int), (v' : Int), iL zs)
  | 0, _, _, _, _, _, _, _, _, _, h => absurd h (Nat.not_lt_zero _)
  | n + 1, xs0, [], m, v, h1, h2, h2b, h3, h4, h5 => by
    refine ⟨xs0, v, by simpa using h1, h3, h4, ?_⟩
    unfold r05_row_l2
    rw [lt_nat, decide_eq_false (by simp at h1; omega), cond_false]
    simp
  | n + 1, xs0, b :: bs, m, v, h1, h2, h2b, h3, h4, h5 => by
    simp only [List.length_cons, List.sum_cons] at h1 h2 h2b h5
    unfold r05_row_l2
    rw [lt_nat, decide_eq_true (by omega), cond_true, getI_app, Option.bind_some]
    by_cases h0 : 0 < b
    · have hb : b ≤ t := by omega
      have hgb : g * b ≤ 60 * 65536 := Nat.mul_le_mul hg (by omega)
      have hd : g * b / t * t ≤ g * b := Nat.div_mul_le_self _ _
      have hs : xs0.sum + g * b / t ≤ g := by
        have h6 : (xs0.sum + g * b / t) * t ≤ g * t := by
          rw [Nat.add_mul]
          have : g * (b + bs.sum) = g * b + g * bs.sum := Nat.mul_add _ _ _
          omega
        exact Nat.le_of_mul_le_mul_right h6 (by omega)
      obtain ⟨zs, v', e1, e2, e3, e4⟩ := row2 hg hc ht n (xs0 ++ [g * b / t]) bs m xs0.length (by simp; omega) (by
        have : g * (b + bs.sum) = g * b + g * bs.sum := Nat.mul_add _ _ _
        simp only [List.sum_append, List.sum_cons, List.sum_nil, Nat.add_zero, Nat.add_mul]; omega) (by omega) (by simpa using hs) (by omega) (by omega)
      refine ⟨zs, v', e1, e2, e3, ?_⟩
      have hq : quoI .i64 (w64 ((g : Int) * (b : Int))) (t : Int) = some ((g * b / t : Nat) : Int) := by
        unfold quoI
        have : ((t : Int) == 0) = false := by simp; omega
        rw [this, cond_false, ← Int.natCast_mul, w64_nat (by omega)]
        have hle : g * b / t ≤ g * b := Nat.div_le_self _ _
        exact congrArg some (w64_nat (n := g * b / t) (by omega))
      rw [show decide ((0 : Int) < (b : Int)) = true by simpa using h0, cond_true, hq, Option.bind_some, setI_app, Option.bind_some, Option.bind_some]
      simp only []
      rw [getI_app, Option.bind_some, w64_succ (by omega), show (((g - xs0.sum : Nat) : Int) - ((g * b / t : Nat) : Int)) = ((g - (xs0.sum + g * b / t) : Nat) : Int) by omega, w64_nat (Nat.lt_of_le_of_lt (Nat.sub_le _ _) (by omega)), ← e4]
      simp
    · have hb : b = 0 := by omega
      subst hb
      obtain ⟨zs, v', e1, e2, e3, e4⟩ := row2 hg hc ht n (xs0 ++ [0]) bs m v (by simp; omega) (by simp at h2 ⊢; omega) (by omega) (by simpa using h3) h4 (by omega)
      refine ⟨zs, v', e1, e2, e3, ?_⟩
      rw [show decide ((0 : Int) < ((0 : Nat) : Int)) = false from rfl, cond_false, Option.bind_some]
      simp only []
      rw [getI_app, Option.bind_some, w64_succ (by omega), ← Int.ofNat_sub (by omega), w64_nat (by omega), ← e4]
      simp
theorem rowN_ok {ws : List Nat} {g p c : Nat} (hg : g ≤ 60) (hp : p ≤ 65536) (h1 : 1 ≤ c) (hc : c ≤ 8) :
    ∃ zs : List Nat, zs.length = c ∧ zs.sum = g ∧ r05_row_s (g : Int) (c : Int) (iL ws) (p : Int) = some (iL zs) := by
  obtain ⟨zs, e1, e2, e3⟩ := row1 (ws := ws) (g := g) hp hc (c + 2) [] c (by simp) (by simp) (by omega)
  obtain ⟨ys, v, f1, f2, f3, f4⟩ := row2 (g := g) (t := zs.sum) (c := c) hg hc (by omega) (c + 2) [] zs 0 0 (by simp [e1]) (by simp) (Nat.le_refl _) (by simp) (by omega) (by omega)
  have hv : v < ys.length := by omega
  refine ⟨ys.set v (ys[v] + (g - ys.sum)), by simp [f1], by rw [sum_set]; omega, ?_⟩
  unfold r05_row_s
  have hz : List.replicate c (0 : Int) = iL (List.replicate c 0) := by simp [iL]
  simp only [List.nil_append, List.sum_nil, List.length_nil, Nat.sub_zero] at e3 f4
  rw [make_ok (by omega), Option.bind_some, hz, fuel_nat]
  rw [show ((0 : Nat) : Int) = 0 from rfl] at e3 f4
  rw [e3, Option.bind_some]
  simp only []
  rw [f4, Option.bind_some]
  simp only []
  rw [getI_iL hv, Option.bind_some, ← Int.natCast_add, w64_nat, setI_iL hv, Option.bind_some]
  have : ys[v] ≤ ys.sum := get_le_sum hv
  omega
end Go.Dc
namespace Go.Dc
open Go Go.Mx Go.Lx
set_option linter.unusedSimpArgs false
set_option linter.unusedVariables false
theorem zeros_l {c w : Nat} {os : List Int} {wh : Int} (hc : c ≤ 5) : ∀ (n i : Nat) (acc : List Int), acc.length = i → i ≤ c → c - i < n →
    ∃ zs : List Int, zs.length = c ∧ r02_Draft_Cards_l1 ⟨List.replicate c 0, wh, os⟩ n (i : Int) acc = some zs
  | 0, _, _, _, _, h => absurd h (Nat.not_lt_zero _)
  | n + 1, i, acc, h1, h2, h3 => by
    unfold r02_Draft_Cards_l1
    simp only [List.length_replicate]
    by_cases hi : i < c
    · obtain ⟨zs, e1, e2⟩ := zeros_l (w := w) (os := os) (wh := wh) hc n (i + 1) (acc ++ [1]) (by simp [h1]) hi (by omega)
      refine ⟨zs, e1, ?_⟩
      rw [lt_nat, decide_eq_true hi, cond_true, Option.bind_some, show decide ((i : Int) < 5) = true by simp; omega, cond_true, getI_some (by simpa using hi), Option.bind_some,
        List.getElem_replicate, show w64 (1 + w64 ((0 : Int).tmod 4)) = 1 from rfl, push_ok (by simp; omega), Option.bind_some, w64_succ (by omega), e2]
    · exact ⟨acc, by omega, by rw [lt_nat, decide_eq_false hi, cond_false, Option.bind_some, cond_false]⟩
theorem zeros_ok {c N : Nat} {os : List Int} {wh : Int} (hc : c ≤ 5) (hN : 6 ≤ N) : ∃ zs : List Int, zs.length = c ∧ r02_Draft_Cards_s N ⟨List.replicate c 0, wh, os⟩ = some zs := by
  obtain ⟨zs, e1, e2⟩ := zeros_l (w := 0) (os := os) (wh := wh) hc N 0 [] rfl (Nat.zero_le _) (by omega)
  refine ⟨zs, e1, ?_⟩
  unfold r02_Draft_Cards_s
  rw [show ((0 : Nat) : Int) = 0 from rfl] at e2
  rw [e2, Option.bind_some]
/-- A permutation of the first c numbers. -/
structure PermOk (c : Nat) (xs : List Nat) : Prop where
  len : xs.length = c
  nod : xs.Nodup
  lt : ∀ x ∈ xs, x < c
  all : ∀ x, x < c → x ∈ xs
theorem slice_nat {α : Type} {xs : List α} {a b : Nat} (h1 : a ≤ b) (h2 : b ≤ xs.length) : sliceI xs (a : Int) (b : Int) = some ((xs.drop a).take (b - a)) := by
  unfold sliceI
  rw [if_pos (by omega)]
  simp
theorem perm_l {c N : Nat} {os : List Nat} {wh : Int} (hc : c ≤ 5) (hN : 6 ≤ N) (ho : ∀ o ∈ os, o ≤ 255) : ∀ (n i : Nat) (xs : List Nat), PermOk i xs → i ≤ c → c - i < n →
    ∃ zs : List Nat, PermOk c zs ∧ r02_Draft_Permutation_l1 N ⟨List.replicate c 0, wh, iL os⟩ n (i : Int) (iL xs) = some (iL zs)
  | 0, _, _, _, _, h => absurd h (Nat.not_lt_zero _)
  | n + 1, i, xs, h1, h2, h3 => by
    unfold r02_Draft_Permutation_l1
    obtain ⟨z0, z1, z2⟩ := zeros_ok (os := iL os) (wh := wh) hc hN
    rw [z2, Option.bind_some, z1]
    by_cases hi : i < c
    · have step : ∀ q : Nat, q ≤ i → ∃ zs : List Nat, PermOk c zs ∧ ((sliceI (iL xs) 0 (q : Int)).bind fun y9 =>
          (startI 8 y9).bind fun y11 => (pushI 8 y9 [(i : Int)]).bind fun y13 => (sliceI (iL xs) (q : Int) (iL xs).length).bind fun y15 => (pushI 8 y13 y15).bind fun y17 =>
          r02_Draft_Permutation_l1 N ⟨List.replicate c 0, wh, iL os⟩ n (w64 ((i : Int) + 1)) y17) = some (iL zs) := by
        intro q hq
        have hl := h1.len
        have hp : List.Perm (xs.take q ++ i :: xs.drop q) (i :: xs) := by
          refine List.perm_middle.trans ?_
          rw [List.take_append_drop]
        obtain ⟨zs, e1, e2⟩ := perm_l (wh := wh) hc hN ho n (i + 1) (xs.take q ++ i :: xs.drop q) ⟨by rw [hp.length_eq]; simp [hl], hp.nodup_iff.2 (List.nodup_cons.2 ⟨fun hx => Nat.lt_irrefl _ (h1.lt _ hx), h1.nod⟩),
          fun x hx => by
            rcases List.mem_cons.1 (hp.mem_iff.1 hx) with h | h
            · omega
            · have := h1.lt _ h; omega,
          fun x hx => hp.mem_iff.2 (by
            by_cases hxi : x = i
            · exact List.mem_cons.2 (.inl hxi)
            · exact List.mem_cons_of_mem _ (h1.all _ (by omega)))⟩ hi (by omega)
        refine ⟨zs, e1, ?_⟩
        rw [show (0 : Int) = ((0 : Nat) : Int) from rfl, slice_nat (Nat.zero_le _) (by rw [iL_len]; omega), Option.bind_some, start_ok (by simp [iL_len]; omega), Option.bind_some,
          push_ok (by simp [iL_len]; omega), Option.bind_some, slice_nat (by rw [iL_len]; omega) (Nat.le_refl _), Option.bind_some, push_ok (by simp [iL_len]; omega), Option.bind_some, w64_succ (by omega), ← e2]
        congr 1
        simp [iL, List.take_of_length_le]
      rw [lt_nat, decide_eq_true hi, cond_true]
      simp only [iL_len (os)]
      by_cases hio : i < os.length
      · have hq : os[i] % (i + 1) ≤ i := Nat.lt_succ_iff.1 (Nat.mod_lt _ (Nat.succ_pos _))
        have hb := ho _ (List.getElem_mem hio)
        obtain ⟨zs, e1, e2⟩ := step _ hq
        refine ⟨zs, e1, ?_⟩
        rw [lt_nat, decide_eq_true hio, cond_true, getI_iL hio, Option.bind_some, w64_nat (by omega), w64_succ (by omega), rem_nat (by omega), Option.bind_some, Option.bind_some, ← w64_succ (by omega)]
        exact e2
      · obtain ⟨zs, e1, e2⟩ := step 0 (Nat.zero_le _)
        refine ⟨zs, e1, ?_⟩
        rw [lt_nat, decide_eq_false hio, cond_false, Option.bind_some]
        exact e2
    · have : i = c := by omega
      subst this
      exact ⟨xs, h1, by rw [lt_nat, decide_eq_false hi, cond_false]⟩
theorem perm_ok {c N : Nat} {os : List Nat} {wh : Int} (hc : c ≤ 5) (hN : 6 ≤ N) (ho : ∀ o ∈ os, o ≤ 255) :
    ∃ zs : List Nat, PermOk c zs ∧ r02_Draft_Permutation_s N ⟨List.replicate c 0, wh, iL os⟩ = some (iL zs) := by
  obtain ⟨zs, e1, e2⟩ := perm_l (wh := wh) hc hN ho N 0 [] ⟨rfl, List.nodup_nil, by simp, by simp⟩ (Nat.zero_le _) (by omega)
  refine ⟨zs, e1, ?_⟩
  unfold r02_Draft_Permutation_s
  rw [show ((0 : Nat) : Int) = 0 from rfl, show iL [] = [] from rfl] at e2
  rw [e2, Option.bind_some]
end Go.Dc
namespace Go.Dc
open Go Go.Mx Go.Lx
set_option linter.unusedSimpArgs false
set_option linter.unusedVariables false
/-- A node in plain numbers. -/
structure NN where
  c : Nat
  ps : List Nat
  rows : List (List Nat)
def nd (x : NN) : S_api_Node := ⟨x.c, iL x.ps, x.rows.map iL⟩
theorem shr_some (k : IntKind) (a : Int) {v : Nat} : ∃ q, shrI k a (v : Int) = some q := by
  unfold shrI
  rw [if_pos (Int.natCast_nonneg v)]
  exact ⟨_, rfl⟩
theorem par_c_ok {num ps : List Nat} {ps8 : Int} {u k : Nat} (hk : k < num.length) : ∃ b, par_c (iL num) ps8 (u : Int) (k : Int) (iL ps) = some b ∧ (b = true → num[k] = u ∧ ps.length < 3) := by
  unfold par_c
  rw [getI_iL hk, Option.bind_some]
  by_cases h : num[k] = u
  · obtain ⟨q, e⟩ := shr_some .u8 ps8 (v := k % 18446744073709551616)
    rw [show (((num[k] : Nat) : Int) == (u : Int)) = true by simp [h], cond_true, wrapU, e, Option.bind_some]
    cases andI .u8 q 1 == 1 with
    | true => exact ⟨_, rfl, fun h2 => ⟨h, by rw [iL_len] at h2; have := of_decide_eq_true h2; omega⟩⟩
    | false => exact ⟨_, rfl, fun h2 => by cases h2⟩
  · rw [show (((num[k] : Nat) : Int) == (u : Int)) = false by simp; omega, cond_false]
    exact ⟨_, rfl, fun h2 => by cases h2⟩
theorem par_k_ok {num : List Nat} {ps8 : Int} {u i : Nat} (hi : i ≤ num.length) (hn : num.length ≤ 5) (hd : num.Nodup) : ∀ (n k : Nat) (ps : List Nat), ps.length ≤ 3 → k ≤ i → i - k < n →
    ∃ qs : List Nat, par_k (iL num) (i : Int) ps8 (u : Int) n (k : Int) (iL ps) = some (iL qs) ∧ (qs = ps ∨ (qs = ps ++ [u] ∧ ps.length < 3 ∧ ∃ j, k ≤ j ∧ j < i ∧ num[j]? = some u))
  | 0, _, _, _, _, h => absurd h (Nat.not_lt_zero _)
  | n + 1, k, ps, h1, h2, h3 => by
    unfold par_k
    by_cases hk : k < i
    · obtain ⟨b, e, hb⟩ := par_c_ok (num := num) (ps := ps) (ps8 := ps8) (u := u) (k := k) (by omega)
      rw [lt_nat, decide_eq_true hk, cond_true, e, Option.bind_some]
      cases b with
      | false =>
        obtain ⟨qs, e2, h4⟩ := par_k_ok (ps8 := ps8) (u := u) hi hn hd n (k + 1) ps h1 hk (by omega)
        refine ⟨qs, by rw [cond_false, w64_succ (by omega), e2], ?_⟩
        rcases h4 with h4 | ⟨h4, h5, j, h6, h7, h8⟩
        · exact .inl h4
        · exact .inr ⟨h4, h5, j, by omega, h7, h8⟩
      | true =>
        obtain ⟨h5, h6⟩ := hb rfl
        obtain ⟨qs, e2, h4⟩ := par_k_ok (ps8 := ps8) (u := u) hi hn hd n (k + 1) (ps ++ [u]) (by simp; omega) hk (by omega)
        refine ⟨qs, ?_, .inr ⟨?_, h6, k, Nat.le_refl _, hk, by rw [List.getElem?_eq_getElem (by omega), h5]⟩⟩
        · rw [cond_true, push_ok (by simp [iL_len]; omega), Option.bind_some, w64_succ (by omega), ← e2]
          simp [iL]
        · rcases h4 with h4 | ⟨h4, h7, j, h8, h9, h10⟩
          · exact h4
          · exfalso
            have hj : j < num.length := by omega
            rw [List.getElem?_eq_getElem hj] at h10
            have h12 : num[j] = num[k]'(by omega) := by rw [h5]; exact Option.some.inj h10
            exact List.pairwise_iff_getElem.1 hd k j (by omega) hj (by omega) h12.symm
    · exact ⟨ps, by rw [lt_nat, decide_eq_false hk, cond_false], .inl rfl⟩
/-- Parents drawn for the node at place i of the permutation. -/
structure ParOk (num : List Nat) (i : Nat) (b : Nat) (ps : List Nat) : Prop where
  len : ps.length ≤ 3
  inc : ps.Pairwise (· < ·)
  lt : ∀ p ∈ ps, p < b
  mem : ∀ p ∈ ps, ∃ j, j < i ∧ num[j]? = some p
theorem par_u_ok {num : List Nat} {ps8 : Int} {i c : Nat} (hi : i ≤ num.length) (hn : num.length ≤ 5) (hc : c ≤ 5) (hd : num.Nodup) : ∀ (n u : Nat) (ps : List Nat), ParOk num i u ps → u ≤ c → c - u < n →
    ∃ qs : List Nat, par_u (iL num) (i : Int) ps8 (c : Int) n (u : Int) (iL ps) = some (iL qs) ∧ ParOk num i c qs
  | 0, _, _, _, _, h => absurd h (Nat.not_lt_zero _)
  | n + 1, u, ps, h1, h2, h3 => by
    unfold par_u
    by_cases hu : u < c
    · obtain ⟨qs, e, h4⟩ := par_k_ok (ps8 := ps8) (u := u) hi hn hd (i + 2) 0 ps h1.len (Nat.zero_le _) (by omega)
      rw [show ((0 : Nat) : Int) = 0 from rfl] at e
      have hq : ParOk num i (u + 1) qs := by
        rcases h4 with h4 | ⟨h4, h5, j, h6, h7, h8⟩
        · subst h4
          exact ⟨h1.len, h1.inc, fun p hp => Nat.lt_succ_of_lt (h1.lt p hp), h1.mem⟩
        · subst h4
          refine ⟨by simp; omega, ?_, ?_, ?_⟩
          · rw [List.pairwise_append]
            exact ⟨h1.inc, List.pairwise_singleton _ _, fun a ha b hb => by rw [List.mem_singleton.1 hb]; exact h1.lt a ha⟩
          · intro p hp
            rcases List.mem_append.1 hp with hp | hp
            · exact Nat.lt_succ_of_lt (h1.lt p hp)
            · rw [List.mem_singleton.1 hp]; exact Nat.lt_succ_self _
          · intro p hp
            rcases List.mem_append.1 hp with hp | hp
            · exact h1.mem p hp
            · rw [List.mem_singleton.1 hp]; exact ⟨j, h7, h8⟩
      obtain ⟨rs, e2, h9⟩ := par_u_ok (ps8 := ps8) hi hn hc hd n (u + 1) qs hq hu (by omega)
      refine ⟨rs, ?_, h9⟩
      rw [lt_nat, decide_eq_true hu, cond_true, Int.toNat_natCast, e, Option.bind_some, w64_succ (by omega), e2]
    · have : u = c := by omega
      subst this
      exact ⟨ps, by rw [lt_nat, decide_eq_false hu, cond_false], h1⟩
theorem nodes_get {ns : List NN} {v : Nat} (h : v < ns.length) : getI (ns.map nd) (v : Int) = some (nd ns[v]) := by
  rw [getI_some (by simpa using h)]; simp
theorem nodes_set {ns : List NN} {v : Nat} {x : NN} (h : v < ns.length) : setI (ns.map nd) (v : Int) (nd x) = some ((ns.set v x).map nd) := by
  rw [setI_nat (by simpa using h)]; simp
theorem parN_ok {num : List Nat} {ps8 : Int} {i : Nat} {ns : List NN} {v : Nat} (hi : i ≤ num.length) (hn : num.length ≤ 5) (hl : ns.length ≤ 5) (hd : num.Nodup) (hv : v < ns.length) (hp : ns[v].ps = []) :
    ∃ qs : List Nat, par_s (iL num) (i : Int) (v : Int) (ns.length : Int) ps8 (ns.map nd) = some ((ns.set v ⟨ns[v].c, qs, ns[v].rows⟩).map nd) ∧ ParOk num i ns.length qs := by
  obtain ⟨qs, e, h⟩ := par_u_ok (ps8 := ps8) hi hn hl hd (ns.length + 2) 0 [] ⟨by simp, by simp, by simp, by simp⟩ (Nat.zero_le _) (by omega)
  refine ⟨qs, ?_, h⟩
  unfold par_s
  rw [show ((0 : Nat) : Int) = 0 from rfl, show iL [] = [] from rfl] at e
  rw [nodes_get hv, Option.bind_some, show (nd ns[v]).parents.isEmpty = true by simp [nd, hp, iL], cond_true, Int.toNat_natCast, e, Option.bind_some]
  exact nodes_set (x := ⟨ns[v].c, qs, ns[v].rows⟩) hv
/-- Rows that stand for a node. -/
structure RowsOk (g c m : Nat) (rows : List (List Nat)) : Prop where
  len : rows.length = m
  row : ∀ r ∈ rows, r.length = c ∧ r.sum = g
theorem cards_set {ns : List NN} {v : Nat} {x : NN} (hv : v < ns.length) (hx : x.c = ns[v].c) : (ns.set v x).map (·.c) = ns.map (·.c) := by
  rw [List.map_set, hx]
  apply List.ext_getElem (by simp)
  intro i h1 h2
  rw [List.getElem_set]
  split
  · subst_vars; simp
  · rfl
def cardsOf (ns : List NN) (ps : List Nat) : List Nat := ps.map fun p => (ns.map (·.c)).getD p 0
theorem iL_getD {xs : List Nat} {p : Nat} : (iL xs).getD p 0 = ((xs.getD p 0 : Nat) : Int) := by
  simp only [iL, List.getD_eq_getElem?_getD, List.getElem?_map]
  cases xs[p]? <;> rfl
theorem pc_ok {g : Int} {ns : List NN} {v : Nat} (hl : ns.length ≤ 8) (hv : v < ns.length) (hp : Pl ns.length ns[v].ps) (h8 : ns[v].ps.length ≤ 8) :
    r05_ParentCards_s ⟨g, ns.map nd⟩ (v : Int) = some (iL (cardsOf ns ns[v].ps)) := by
  unfold r05_ParentCards_s
  rw [nodes_get hv, Option.bind_some, cards_ok (by simpa using hl), Option.bind_some]
  have hc : (ns.map nd).map (·.card) = iL (ns.map (·.c)) := by simp [iL, nd, Function.comp_def]
  simp only []
  rw [hc, show (nd ns[v]).parents = iL ns[v].ps from rfl, at_ok (by rw [iL_len, List.length_map]; exact hp) h8, Option.bind_some]
  congr 1
  simp only [iL_getD]
  simp only [cardsOf, iL, List.map_map, Function.comp_def]
theorem row_l_ok {g : Nat} {W : List Nat} {ns : List NN} {v m : Nat} (hg : g ≤ 60) (hl : ns.length ≤ 8) (hv : v < ns.length) (hp : Pl ns.length ns[v].ps) (h8 : ns[v].ps.length ≤ 8) (hc1 : 1 ≤ ns[v].c) (hc4 : ns[v].c ≤ 4)
    (hs : ∀ x ∈ cardsOf ns ns[v].ps, 1 ≤ x) (hm : prodI (cardsOf ns ns[v].ps) = m) (hm2 : m ≤ 1024) : ∀ (n r : Nat) (rows : List (List Nat)), RowsOk g ns[v].c r rows → r ≤ m → m - r < n →
    ∃ rows', RowsOk g ns[v].c m rows' ∧ row_l (g : Int) (v : Int) (iL W) (ns.map nd) (nd ns[v]) n (r : Int) (rows.map iL) = some (rows'.map iL)
  | 0, _, _, _, _, h => absurd h (Nat.not_lt_zero _)
  | n + 1, r, rows, h1, h2, h3 => by
    unfold row_l
    have hx : (⟨(nd ns[v]).card, (nd ns[v]).parents, rows.map iL⟩ : S_api_Node) = nd ⟨ns[v].c, ns[v].ps, rows⟩ := rfl
    have hpc : r05_ParentCards_s ⟨g, (ns.set v ⟨ns[v].c, ns[v].ps, rows⟩).map nd⟩ (v : Int) = some (iL (cardsOf ns ns[v].ps)) := by
      rw [pc_ok (by simpa using hl) (by simpa using hv) (by simpa using hp) (by simpa using h8)]
      unfold cardsOf
      rw [cards_set (x := ⟨ns[v].c, ns[v].ps, rows⟩) hv rfl]
      simp
    rw [hx, nodes_set hv, Option.bind_some, hpc, Option.bind_some, size_ok hs (by simpa [cardsOf] using h8) (by omega), Option.bind_some, hm]
    by_cases hr : r < m
    · have hmul : r * (ns[v].c + 1) ≤ 1024 * 5 := Nat.mul_le_mul (by omega) (by omega)
      obtain ⟨zs, e1, e2, e3⟩ := rowN_ok (ws := W) (g := g) (p := r * (ns[v].c + 1)) (c := ns[v].c) hg (by omega) hc1 (by omega)
      obtain ⟨rows', e4, e5⟩ := row_l_ok hg hl hv hp h8 hc1 hc4 hs hm hm2 (W := W) n (r + 1) (rows ++ [zs]) ⟨by simp [h1.len], by
        intro y hy
        rcases List.mem_append.1 hy with hy | hy
        · exact h1.row y hy
        · rw [List.mem_singleton.1 hy]; exact ⟨e1, e2⟩⟩ hr (by omega)
      refine ⟨rows', e4, ?_⟩
      have hcard : (nd ns[v]).card = ((ns[v].c : Nat) : Int) := rfl
      have hlen := h1.len
      rw [lt_nat, decide_eq_true hr, cond_true, hcard, w64_succ (by omega), ← Int.natCast_mul, w64_nat (by omega), e3, Option.bind_some, push_ok (by simp; omega), Option.bind_some, w64_succ (by omega), ← e5]
      simp
    · have : r = m := by omega
      subst this
      exact ⟨rows, h1, by rw [lt_nat, decide_eq_false hr, cond_false]⟩
theorem rowS_ok {g N : Nat} {W : List Nat} {ns : List NN} {v : Nat} (hg : g ≤ 60) (hl : ns.length ≤ 8) (hv : v < ns.length) (hp : Pl ns.length ns[v].ps) (h8 : ns[v].ps.length ≤ 8) (hc1 : 1 ≤ ns[v].c) (hc4 : ns[v].c ≤ 4)
    (hs : ∀ x ∈ cardsOf ns ns[v].ps, 1 ≤ x) (hm2 : prodI (cardsOf ns ns[v].ps) ≤ 1024) (hr : ns[v].rows = []) (hN : 1025 ≤ N) :
    ∃ rows, RowsOk g ns[v].c (prodI (cardsOf ns ns[v].ps)) rows ∧ row_s N (g : Int) (v : Int) (iL W) (ns.map nd) = some ((ns.set v ⟨ns[v].c, ns[v].ps, rows⟩).map nd) := by
  obtain ⟨rows, e1, e2⟩ := row_l_ok hg hl hv hp h8 hc1 hc4 hs rfl hm2 (W := W) N 0 [] ⟨rfl, by simp⟩ (Nat.zero_le _) (by omega)
  refine ⟨rows, e1, ?_⟩
  unfold row_s
  rw [show ((0 : Nat) : Int) = 0 from rfl, show ([] : List (List Nat)).map iL = [] from rfl] at e2
  rw [nodes_get hv, Option.bind_some, show (nd ns[v]).rows.isEmpty = true by simp [nd, hr], cond_true, e2, Option.bind_some]
  exact nodes_set (x := ⟨ns[v].c, ns[v].ps, rows⟩) hv
end Go.Dc
namespace Go.Dc
open Go Go.Mx Go.Lx
set_option linter.unusedSimpArgs false
set_option linter.unusedVariables false
/-- A node at place j of the order num, all nodes having the cards cs. -/
structure NodeOk (num : List Nat) (g : Nat) (cs : List Nat) (j : Nat) (x : NN) : Prop where
  par : ParOk num j cs.length x.ps
  rows : RowsOk g x.c (prodI (x.ps.map fun p => cs.getD p 0)) x.rows
/-- A net that stands well. -/
structure NetOk (num : List Nat) (g : Nat) (ns : List NN) : Prop where
  g1 : 1 ≤ g
  g2 : g ≤ 60
  n1 : 1 ≤ ns.length
  n2 : ns.length ≤ 8
  card : ∀ x ∈ ns, 1 ≤ x.c ∧ x.c ≤ 4
  prod : prodI (ns.map (·.c)) ≤ 1024
  perm : PermOk ns.length num
  node : ∀ (j v : Nat) (x : NN), num[j]? = some v → ns[v]? = some x → NodeOk num g (ns.map (·.c)) j x
structure PieceN where
  card : Nat
  parents : Nat
  w : List Nat
structure DraftN where
  grain : Nat
  nodes : List PieceN
  order : List Nat
def pieceD (x : PieceN) : S_haruspexref05_Piece := ⟨x.card, x.parents, iL x.w⟩
def draftD (d : DraftN) : S_haruspexref05_Draft := ⟨d.grain, d.nodes.map pieceD, iL d.order⟩
/-- Numbers of eight bits. -/
structure DraftOk (d : DraftN) : Prop where
  grain : d.grain ≤ 255
  card : ∀ x ∈ d.nodes, x.card ≤ 255
  order : ∀ x ∈ d.order, x ≤ 255
def cntN (d : DraftN) : Nat := min (max d.nodes.length 1) 5
theorem cntN_eq (d : DraftN) : minI (maxI ((draftD d).nodes.length : Int) 1) 5 = ((cntN d : Nat) : Int) := by
  simp only [minI, maxI, cntN, draftD, List.length_map]
  split <;> split <;> omega
/-- Cards where an open place stands for 1. -/
def prod1 (xs : List Nat) : Nat := xs.foldr (fun x a => max 1 x * a) 1
theorem prod1_set : ∀ {xs : List Nat} {i c : Nat}, xs[i]? = some 0 → 1 ≤ c → prod1 (xs.set i c) = prod1 xs * c
  | [], i, c, h, hc => by simp at h
  | x :: xs, 0, c, h, hc => by
    have : x = 0 := by simpa using h
    subst this
    simp only [List.set_cons_zero, prod1, List.foldr_cons]
    rw [Nat.max_eq_right hc, Nat.max_eq_left (Nat.zero_le _), Nat.one_mul, Nat.mul_comm]
  | x :: xs, i + 1, c, h, hc => by
    have ih := prod1_set (xs := xs) (i := i) (c := c) (by simpa using h) hc
    simp only [List.set_cons_succ, prod1, List.foldr_cons] at ih ⊢
    rw [ih, Nat.mul_assoc]
theorem prod1_eq : ∀ {xs : List Nat}, (∀ x ∈ xs, 1 ≤ x) → prod1 xs = prodI xs
  | [], _ => rfl
  | x :: xs, h => by
    have ih := prod1_eq (xs := xs) fun y hy => h y (List.mem_cons_of_mem _ hy)
    have hx := h x List.mem_cons_self
    simp only [prod1, prodI, List.foldr_cons] at ih ⊢
    rw [ih, Nat.max_eq_right hx]
theorem shlS {a v : Nat} (h : a * 2 ^ v < 9223372036854775808) (hv : v < 64) : shlI .i64 (a : Int) (v : Int) = some ((a * 2 ^ v : Nat) : Int) := by
  unfold shlI
  rw [if_pos (Int.natCast_nonneg v)]
  congr 1
  have h1 : min (v : Int).toNat IntKind.i64.bits = v := by
    rw [show IntKind.i64.bits = 64 from rfl, Int.toNat_natCast]; exact Nat.min_eq_left (by omega)
  rw [h1]
  have h2 : (a : Int) * ((2 : Int) ^ v) = ((a * 2 ^ v : Nat) : Int) := by simp
  rw [h2]
  exact w64_nat h
/-- The state of the first loop. -/
structure L1Ok (num : List Nat) (c j a : Nat) (ns : List NN) : Prop where
  len : ns.length = c
  bare : ∀ x ∈ ns, x.ps = [] ∧ x.rows = []
  prod : prod1 (ns.map (·.c)) = a
  low : a * 2 ^ (c - j) ≤ 100
  done : ∀ (k v : Nat), k < j → num[k]? = some v → ∃ x, ns[v]? = some x ∧ 2 ≤ x.c ∧ x.c ≤ 3
  left : ∀ (k v : Nat), j ≤ k → num[k]? = some v → ∃ x, ns[v]? = some x ∧ x.c = 0
theorem piece_get {d : DraftN} (hd : DraftOk d) {j : Nat} : ∃ (card parents : Nat) (w : List Nat), card ≤ 255 ∧
    ((bif (decide ((j : Int) < ((draftD d).nodes.length : Int))) then (
(getI (draftD d).nodes (j : Int)).bind fun x9 =>
some (x9.card, x9.parents, x9.w))
else (
some (0, 0, [])) : Option ((Int × Int × (List Int))))) = some ((card : Int), (parents : Int), iL w) := by
  have hl : (draftD d).nodes.length = d.nodes.length := by simp [draftD]
  by_cases hj : j < d.nodes.length
  · refine ⟨d.nodes[j].card, d.nodes[j].parents, d.nodes[j].w, hd.card _ (List.getElem_mem hj), ?_⟩
    rw [hl, lt_nat, decide_eq_true hj, cond_true, getI_some (by rw [hl]; exact hj), Option.bind_some]
    simp [draftD, pieceD]
  · refine ⟨0, 0, [], by omega, ?_⟩
    rw [hl, lt_nat, decide_eq_false hj, cond_false]
    rfl
theorem net_l1 {d : DraftN} (hd : DraftOk d) {num : List Nat} {c : Nat} (hc : cntN d = c) (hp : PermOk c num) : ∀ (n j a : Nat) (ns : List NN), L1Ok num c j a ns → j ≤ c → c - j < n →
    ∃ (ns' : List NN) (a' : Nat), L1Ok num c c a' ns' ∧ r05_Draft_Net_l1 (draftD d) (iL num) n (a : Int) (j : Int) (ns.map nd) = some (ns'.map nd)
  | 0, _, _, _, _, _, h => absurd h (Nat.not_lt_zero _)
  | n + 1, j, a, ns, h1, h2, h3 => by
    have hc5 : c ≤ 5 := by rw [← hc]; exact Nat.min_le_right _ _
    unfold r05_Draft_Net_l1
    rw [cntN_eq, hc]
    by_cases hj : j < c
    · rw [lt_nat, decide_eq_true hj, cond_true]
      obtain ⟨card, parents, w, hcard, e⟩ := piece_get hd (j := j)
      rw [e, Option.bind_some]
      simp only []
      have hjn : j < num.length := by rw [hp.len]; exact hj
      have hv : num[j] < ns.length := by rw [h1.len]; exact hp.lt _ (List.getElem_mem hjn)
      obtain ⟨x0, hx0, hx00⟩ := h1.left j num[j] (Nat.le_refl _) (List.getElem?_eq_getElem hjn)
      have hx1 : ns[num[j]] = x0 := by rw [List.getElem?_eq_getElem hv] at hx0; exact Option.some.inj hx0
      have hbare := h1.bare _ (List.getElem_mem hv)
      have hpow : 1 ≤ 2 ^ (c - 1 - j) := Nat.one_le_two_pow
      have hsplit : 2 ^ (c - j) = 2 * 2 ^ (c - 1 - j) := by rw [show c - j = (c - 1 - j) + 1 by omega, Nat.pow_succ, Nat.mul_comm]
      have hlow := h1.low
      have hle : a * 2 ^ (c - 1 - j) ≤ 100 := Nat.le_trans (Nat.mul_le_mul_left a (by omega)) hlow
      have ha : a ≤ 100 := Nat.le_trans (Nat.le_mul_of_pos_right a hpow) hle
      have step : ∀ b : Nat, 2 ≤ b → b ≤ 3 → a * b * 2 ^ (c - 1 - j) ≤ 100 → ∃ (ns' : List NN) (a' : Nat), L1Ok num c c a' ns' ∧
          ((getI (iL num) (j : Int)).bind fun x14 => (getI (ns.map nd) x14).bind fun x16 => (setI (ns.map nd) x14 (S_api_Node.mk (b : Int) x16.parents x16.rows)).bind fun y18 =>
            r05_Draft_Net_l1 (draftD d) (iL num) n (w64 ((a : Int) * (b : Int))) (w64 ((j : Int) + 1)) y18) = some (ns'.map nd) := by
        intro b hb1 hb2 hb3
        have hab : a * b ≤ 100 := Nat.le_trans (Nat.le_mul_of_pos_right _ hpow) hb3
        obtain ⟨ns', a', f1, f2⟩ := net_l1 hd hc hp n (j + 1) (a * b) (ns.set num[j] ⟨b, ns[num[j]].ps, ns[num[j]].rows⟩) {
          len := by simpa using h1.len
          bare := fun y hy => by
            rcases List.mem_or_eq_of_mem_set hy with hy | hy
            · exact h1.bare y hy
            · subst hy; exact hbare
          prod := by
            rw [List.map_set, prod1_set (c := b) (by rw [List.getElem?_map, List.getElem?_eq_getElem hv, hx1]; simp [hx00]) (by omega), h1.prod]
          low := by rw [show c - (j + 1) = c - 1 - j by omega]; exact hb3
          done := fun k v hk hkv => by
            by_cases hkj : k = j
            · subst hkj
              rw [List.getElem?_eq_getElem hjn] at hkv
              have := Option.some.inj hkv
              subst this
              exact ⟨_, List.getElem?_set_self hv, hb1, hb2⟩
            · obtain ⟨x, g1, g2⟩ := h1.done k v (by omega) hkv
              refine ⟨x, ?_, g2⟩
              rw [List.getElem?_set_ne, g1]
              intro hh
              have hk' := (List.getElem?_eq_some_iff.1 hkv)
              have hkl : k < num.length := hk'.1
              exact List.pairwise_iff_getElem.1 hp.nod k j hkl hjn (by omega) (by rw [hk'.2]; exact hh.symm)
          left := fun k v hk hkv => by
            obtain ⟨x, g1, g2⟩ := h1.left k v (by omega) hkv
            refine ⟨x, ?_, g2⟩
            rw [List.getElem?_set_ne, g1]
            intro hh
            have hk' := (List.getElem?_eq_some_iff.1 hkv)
            have hkl : k < num.length := hk'.1
            exact List.pairwise_iff_getElem.1 hp.nod j k hjn hkl (by omega) (by rw [hk'.2]; exact hh) } hj (by omega)
        refine ⟨ns', a', f1, ?_⟩
        rw [getI_iL hjn, Option.bind_some, nodes_get hv, Option.bind_some, show S_api_Node.mk (b : Int) (nd ns[num[j]]).parents (nd ns[num[j]]).rows = nd ⟨b, ns[num[j]].ps, ns[num[j]].rows⟩ from rfl,
          nodes_set hv, Option.bind_some, ← Int.natCast_mul, w64_nat (by omega), w64_succ (by omega), f2]
      have hw1 : w64 (2 + w64 ((card : Int).tmod 2)) = ((2 + card % 2 : Nat) : Int) := by
        rw [show ((card : Int).tmod 2) = ((card % 2 : Nat) : Int) from rfl, w64_nat (by omega), show (2 : Int) + ((card % 2 : Nat) : Int) = ((2 + card % 2 : Nat) : Int) by omega, w64_nat (by omega)]
      have hac : a * (2 + card % 2) ≤ 100 * 3 := Nat.mul_le_mul ha (by omega)
      have hbig : a * (2 + card % 2) * 2 ^ (c - 1 - j) ≤ 300 * 2 ^ 4 := Nat.mul_le_mul hac (Nat.pow_le_pow_right (by decide) (by omega))
      have hcc : w64 (((c : Nat) : Int) - 1) = ((c - 1 : Nat) : Int) := by rw [show ((c : Nat) : Int) - 1 = ((c - 1 : Nat) : Int) by omega, w64_nat (by omega)]
      have hcj : w64 (((c - 1 : Nat) : Int) - (j : Int)) = ((c - 1 - j : Nat) : Int) := by rw [show ((c - 1 : Nat) : Int) - (j : Int) = ((c - 1 - j : Nat) : Int) by omega, w64_nat (by omega)]
      rw [hw1, hcc, hcj, wrapU_lt (by omega), ← Int.natCast_mul, w64_nat (by omega), shlS (by omega) (by omega), Option.bind_some]
      by_cases hbg : 100 < a * (2 + card % 2) * 2 ^ (c - 1 - j)
      · obtain ⟨ns', a', f1, f2⟩ := step 2 (by omega) (by omega) (by rw [Nat.mul_assoc, ← hsplit]; exact hlow)
        refine ⟨ns', a', f1, ?_⟩
        rw [show decide ((100 : Int) < ((a * (2 + card % 2) * 2 ^ (c - 1 - j) : Nat) : Int)) = true from decide_eq_true (by omega), cond_true, Option.bind_some]
        exact f2
      · obtain ⟨ns', a', f1, f2⟩ := step (2 + card % 2) (by omega) (by omega) (by omega)
        refine ⟨ns', a', f1, ?_⟩
        rw [show decide ((100 : Int) < ((a * (2 + card % 2) * 2 ^ (c - 1 - j) : Nat) : Int)) = false from decide_eq_false (by omega), cond_false, Option.bind_some]
        exact f2
    · have : j = c := by omega
      subst this
      exact ⟨ns, a, h1, by rw [lt_nat, decide_eq_false hj, cond_false]⟩
end Go.Dc
namespace Go.Dc
open Go Go.Mx Go.Lx
set_option linter.unusedSimpArgs false
set_option linter.unusedVariables false
/-- The state of the second loop. -/
structure L2Ok (num : List Nat) (g c : Nat) (cs : List Nat) (i : Nat) (ns : List NN) : Prop where
  len : ns.length = c
  cards : ns.map (·.c) = cs
  done : ∀ (k v : Nat) (x : NN), k < i → num[k]? = some v → ns[v]? = some x → NodeOk num g cs k x
  left : ∀ (k v : Nat) (x : NN), i ≤ k → num[k]? = some v → ns[v]? = some x → x.ps = [] ∧ x.rows = []
theorem prodI_le {m : Nat} (hm : 1 ≤ m) : ∀ {xs : List Nat}, (∀ x ∈ xs, x ≤ m) → prodI xs ≤ m ^ xs.length
  | [], _ => Nat.le_refl 1
  | x :: xs, h => by
    have ih := prodI_le hm (xs := xs) fun y hy => h y (List.mem_cons_of_mem _ hy)
    rw [List.length_cons, Nat.pow_succ, Nat.mul_comm]
    exact Nat.mul_le_mul (h x List.mem_cons_self) ih
theorem nod_ne {xs : List Nat} (h : xs.Nodup) {i j v w : Nat} (hi : xs[i]? = some v) (hj : xs[j]? = some w) (hne : i ≠ j) : v ≠ w := by
  obtain ⟨h1, h2⟩ := List.getElem?_eq_some_iff.1 hi
  obtain ⟨h3, h4⟩ := List.getElem?_eq_some_iff.1 hj
  intro he
  rcases Nat.lt_or_gt_of_ne hne with hlt | hlt
  · exact List.pairwise_iff_getElem.1 h i j h1 h3 hlt (by rw [h2, h4, he])
  · exact List.pairwise_iff_getElem.1 h j i h3 h1 hlt (by rw [h2, h4, he])
theorem net_l2 {d : DraftN} (hd : DraftOk d) {num : List Nat} {c N : Nat} {cs : List Nat} (hc : cntN d = c) (hp : PermOk c num) (hs : ∀ x ∈ cs, 1 ≤ x ∧ x ≤ 3) (hN : 1025 ≤ N) : ∀ (n i : Nat) (ns : List NN), L2Ok num (1 + d.grain % 60) c cs i ns → i ≤ c → c - i < n →
    ∃ ns' : List NN, L2Ok num (1 + d.grain % 60) c cs c ns' ∧ r05_Draft_Net_l2 N (draftD d) (iL num) n (i : Int) (ns.map nd) = some (ns'.map nd)
  | 0, _, _, _, _, h => absurd h (Nat.not_lt_zero _)
  | n + 1, i, ns, h1, h2, h3 => by
    have hc5 : c ≤ 5 := by rw [← hc]; exact Nat.min_le_right _ _
    unfold r05_Draft_Net_l2
    rw [cntN_eq, hc]
    by_cases hi : i < c
    · rw [lt_nat, decide_eq_true hi, cond_true]
      obtain ⟨card, parents, w, hcard, e⟩ := piece_get hd (j := i)
      rw [e, Option.bind_some]
      simp only []
      have hin : i < num.length := by rw [hp.len]; exact hi
      have hget : num[i]? = some num[i] := List.getElem?_eq_getElem hin
      have hlen := h1.len
      have hcl : cs.length = c := by rw [← h1.cards, List.length_map, h1.len]
      have hv : num[i] < ns.length := by rw [h1.len]; exact hp.lt _ (List.getElem_mem hin)
      obtain ⟨b1, b2⟩ := h1.left i num[i] ns[num[i]] (Nat.le_refl _) hget (List.getElem?_eq_getElem hv)
      obtain ⟨qs, e2, hq⟩ := parN_ok (num := num) (ps8 := (parents : Int)) (i := i) (ns := ns) (v := num[i]) (by omega) (by rw [hp.len]; omega) (by omega) hp.nod hv b1
      rw [h1.len] at e2 hq
      have hg : w64 (1 + w64 ((draftD d).grain.tmod 60)) = ((1 + d.grain % 60 : Nat) : Int) := by
        rw [show ((draftD d).grain.tmod 60) = ((d.grain % 60 : Nat) : Int) from rfl, w64_nat (by omega), show (1 : Int) + ((d.grain % 60 : Nat) : Int) = ((1 + d.grain % 60 : Nat) : Int) by omega, w64_nat (by omega)]
      have hset : (ns.set num[i] ⟨ns[num[i]].c, qs, ns[num[i]].rows⟩)[num[i]]'(by simpa using hv) = ⟨ns[num[i]].c, qs, ns[num[i]].rows⟩ := by simp
      have hcs1 : (ns.set num[i] ⟨ns[num[i]].c, qs, ns[num[i]].rows⟩).map (·.c) = cs := by rw [cards_set (x := ⟨ns[num[i]].c, qs, ns[num[i]].rows⟩) hv rfl, h1.cards]
      have hcv : 1 ≤ ns[num[i]].c ∧ ns[num[i]].c ≤ 3 := hs _ (by rw [← h1.cards]; exact List.mem_map.2 ⟨_, List.getElem_mem hv, rfl⟩)
      have hco : cardsOf (ns.set num[i] ⟨ns[num[i]].c, qs, ns[num[i]].rows⟩) qs = qs.map fun p => cs.getD p 0 := by unfold cardsOf; rw [hcs1]
      have hqs : ∀ x ∈ (qs.map fun p => cs.getD p 0), 1 ≤ x ∧ x ≤ 3 := by
        intro x hx
        obtain ⟨p, hpq, rfl⟩ := List.mem_map.1 hx
        have hpl : p < cs.length := by rw [hcl]; exact hq.lt p hpq
        refine hs _ ?_
        simp [hpl]
      have hprod : prodI (qs.map fun p => cs.getD p 0) ≤ 3 ^ 3 := by
        refine Nat.le_trans (prodI_le (m := 3) (by omega) fun x hx => (hqs x hx).2) ?_
        rw [List.length_map]
        exact Nat.pow_le_pow_right (by decide) hq.len
      obtain ⟨rows, r1, r2⟩ := rowS_ok (g := 1 + d.grain % 60) (N := N) (W := w) (ns := ns.set num[i] ⟨ns[num[i]].c, qs, ns[num[i]].rows⟩) (v := num[i]) (by omega) (by simp; omega) (by simpa using hv)
        (by rw [hset]; intro p hpq; rw [List.length_set, h1.len]; exact hq.lt p hpq) (by rw [hset]; have := hq.len; simp; omega) (by rw [hset]; exact hcv.1) (by rw [hset]; have := hcv.2; simp; omega)
        (by rw [hset, hco]; exact fun x hx => (hqs x hx).1) (by rw [hset, hco]; exact Nat.le_trans hprod (by decide)) (by rw [hset]; exact b2) hN
      simp only [hset, hco, List.set_set] at r1 r2
      obtain ⟨ns', f1, f2⟩ := net_l2 hd hc hp hs hN n (i + 1) (ns.set num[i] ⟨ns[num[i]].c, qs, rows⟩) {
        len := by simpa using h1.len
        cards := by rw [cards_set (x := ⟨ns[num[i]].c, qs, rows⟩) hv rfl, h1.cards]
        done := fun k v x hk hkv hx => by
          by_cases hki : k = i
          · subst hki
            rw [hget] at hkv
            have := Option.some.inj hkv
            subst this
            rw [List.getElem?_set_self hv] at hx
            have := Option.some.inj hx
            subst this
            exact ⟨by rw [hcl]; exact hq, r1⟩
          · rw [List.getElem?_set_ne (nod_ne hp.nod hget hkv (by omega))] at hx
            exact h1.done k v x (by omega) hkv hx
        left := fun k v x hk hkv hx => by
          rw [List.getElem?_set_ne (nod_ne hp.nod hget hkv (by omega))] at hx
          exact h1.left k v x (by omega) hkv hx } hi (by omega)
      refine ⟨ns', f1, ?_⟩
      rw [getI_iL hin, Option.bind_some, e2, Option.bind_some, hg, r2, Option.bind_some, w64_succ (by omega), f2]
    · have : i = c := by omega
      subst this
      exact ⟨ns, h1, by rw [lt_nat, decide_eq_false hi, cond_false]⟩
theorem draft_ok {d : DraftN} (hd : DraftOk d) {N : Nat} (hN : 1025 ≤ N) :
    ∃ (num : List Nat) (ns : List NN), NetOk num (1 + d.grain % 60) ns ∧ ns.length ≤ 5 ∧ r05_Draft_Net_s N (draftD d) = some ⟨((1 + d.grain % 60 : Nat) : Int), ns.map nd⟩ := by
  have hc5 : cntN d ≤ 5 := Nat.min_le_right _ _
  have hc1 : 1 ≤ cntN d := by unfold cntN; omega
  obtain ⟨num, hp, e1⟩ := perm_ok (c := cntN d) (N := N) (os := d.order) (wh := 0) hc5 (by omega) hd.order
  have hpl := hp.len
  have h0 : ∀ v, v < cntN d → (List.replicate (cntN d) (⟨0, [], []⟩ : NN))[v]? = some ⟨0, [], []⟩ := fun v hv => by simp [hv]
  obtain ⟨ns1, a, h1, e2⟩ := net_l1 hd rfl hp (cntN d + 2) 0 1 (List.replicate (cntN d) ⟨0, [], []⟩) {
    len := by simp
    bare := fun x hx => by rw [(List.mem_replicate.1 hx).2]; exact ⟨rfl, rfl⟩
    prod := by
      rw [List.map_replicate]
      generalize cntN d = c
      induction c with
      | zero => rfl
      | succ c ih => rw [List.replicate_succ]; simp only [prod1, List.foldr_cons] at ih ⊢; rw [ih]; rfl
    low := by
      have : 2 ^ (cntN d - 0) ≤ 2 ^ 5 := Nat.pow_le_pow_right (by decide) (by omega)
      omega
    done := fun k v hk hkv => absurd hk (Nat.not_lt_zero _)
    left := fun k v hk hkv => ⟨_, h0 v (hp.lt v (List.mem_of_getElem? hkv)), rfl⟩ } (Nat.zero_le _) (by omega)
  have hcards : ∀ x ∈ ns1, 2 ≤ x.c ∧ x.c ≤ 3 := by
    intro x hx
    obtain ⟨v, hv⟩ := List.getElem?_of_mem hx
    have hvl : v < cntN d := by rw [← h1.len]; exact (List.getElem?_eq_some_iff.1 hv).1
    obtain ⟨k, hk⟩ := List.getElem?_of_mem (hp.all v hvl)
    obtain ⟨y, g1, g2⟩ := h1.done k v (by rw [← hpl]; exact (List.getElem?_eq_some_iff.1 hk).1) hk
    rw [hv] at g1
    have := Option.some.inj g1
    subst this
    exact g2
  have hcs : ∀ x ∈ ns1.map (·.c), 1 ≤ x ∧ x ≤ 3 := by
    intro x hx
    obtain ⟨y, hy, rfl⟩ := List.mem_map.1 hx
    have := hcards y hy
    exact ⟨by omega, this.2⟩
  obtain ⟨ns2, h2, e3⟩ := net_l2 hd rfl hp hcs hN (cntN d + 2) 0 ns1 ⟨h1.len, rfl, fun k v x hk => absurd hk (Nat.not_lt_zero _), fun k v x hk hkv hx => h1.bare x (List.mem_of_getElem? hx)⟩ (Nat.zero_le _) (by omega)
  have hl2 := h2.len
  have hlow := h1.low
  refine ⟨num, ns2, ⟨by omega, by omega, by omega, by omega, ?_, ?_, by rw [h2.len]; exact hp, ?_⟩, by omega, ?_⟩
  · intro x hx
    have := hcs x.c (by rw [← h2.cards]; exact List.mem_map.2 ⟨x, hx, rfl⟩)
    omega
  · rw [h2.cards, ← prod1_eq fun x hx => (hcs x hx).1, h1.prod]
    rw [Nat.sub_self, Nat.pow_zero] at hlow
    omega
  · intro j v x hj hx
    rw [h2.cards]
    exact h2.done j v x (by rw [← hpl]; exact (List.getElem?_eq_some_iff.1 hj).1) hj hx
  · have hg : w64 (1 + w64 ((draftD d).grain.tmod 60)) = ((1 + d.grain % 60 : Nat) : Int) := by
      rw [show ((draftD d).grain.tmod 60) = ((d.grain % 60 : Nat) : Int) from rfl, w64_nat (by omega), show (1 : Int) + ((d.grain % 60 : Nat) : Int) = ((1 + d.grain % 60 : Nat) : Int) by omega, w64_nat (by omega)]
    have hz : List.replicate (cntN d) (S_api_Node.mk 0 [] []) = (List.replicate (cntN d) (⟨0, [], []⟩ : NN)).map nd := by rw [List.map_replicate]; rfl
    have e2' := e2
    have e3' := e3
    rw [show ((0 : Nat) : Int) = 0 from rfl] at e2' e3'
    rw [show ((1 : Nat) : Int) = 1 from rfl] at e2'
    unfold r05_Draft_Net_s
    rw [cntN_eq, make_ok (by omega), Option.bind_some, make_ok (by omega), Option.bind_some, show (draftD d).order = iL d.order from rfl, e1, Option.bind_some, fuel_nat, hz, e2', Option.bind_some, e3', Option.bind_some, hg]
end Go.Dc
