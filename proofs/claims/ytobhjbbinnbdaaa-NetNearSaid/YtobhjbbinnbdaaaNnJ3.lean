/-
  Plain laws: numbers and sets of bits. Conditions: none.
-/
import Derived.Test.YtobhjbbinnbdaaaNnDc3
import Derived.Test.YtobhjbbinnbdaaaNnJ1
import Derived.Test.YtobhjbbinnbdaaaNnJ2
import Derived.Test.YtobhjbbinnbdaaaNnDm
namespace Go.Dc
open Go Go.Mx Go.Lx
theorem zaY {n : Nat} (h : n < 9223372036854775808) : w64 (n : Int) = (n : Int) := wrap64 (by omega) (by omega)
theorem zs3 {n : Int} (h1 : -9223372036854775808 ≤ n) (h2 : n < 9223372036854775808) : w64 n = n := wrap64 h1 h2
theorem zao {n : Nat} (h : n + 1 < 9223372036854775808) : w64 ((n : Int) + 1) = ((n + 1 : Nat) : Int) := by
  rw [zs3 (by omega) (by omega)]; omega
theorem ztm (n : Nat) : IntKind.u64.wrap (n : Int) = ((n % 18446744073709551616 : Nat) : Int) := by
  simp only [IntKind.wrap, IntKind.bits, IntKind.signed]; simp
theorem zfm {n : Nat} (h : n < 18446744073709551616) : IntKind.u64.wrap (n : Int) = (n : Int) := by
  rw [ztm, Nat.mod_eq_of_lt h]
theorem zwd {a b : Nat} (ha : a < 18446744073709551616) (hb : b < 18446744073709551616) : zbM .u64 (a : Int) (b : Int) = ((a &&& b : Nat) : Int) := by
  have h : (BitVec.ofInt 64 (a : Int) &&& BitVec.ofInt 64 (b : Int)).toNat = a &&& b := by
    simp only [BitVec.ofInt_natCast, BitVec.toNat_and, BitVec.toNat_ofNat]
    rw [Nat.mod_eq_of_lt ha, Nat.mod_eq_of_lt hb]
  show IntKind.u64.wrap ((BitVec.ofInt 64 (a : Int) &&& BitVec.ofInt 64 (b : Int)).toNat : Int) = _
  rw [h]
  exact zfm (Nat.lt_of_le_of_lt Nat.and_le_left ha)
theorem orU {a b : Nat} (ha : a < 18446744073709551616) (hb : b < 18446744073709551616) : orI .u64 (a : Int) (b : Int) = ((a ||| b : Nat) : Int) := by
  have h : (BitVec.ofInt 64 (a : Int) ||| BitVec.ofInt 64 (b : Int)).toNat = a ||| b := by
    simp only [BitVec.ofInt_natCast, BitVec.toNat_or, BitVec.toNat_ofNat]
    rw [Nat.mod_eq_of_lt ha, Nat.mod_eq_of_lt hb]
  show IntKind.u64.wrap ((BitVec.ofInt 64 (a : Int) ||| BitVec.ofInt 64 (b : Int)).toNat : Int) = _
  rw [h]
  exact zfm (Nat.or_lt_two_pow (n := 64) ha hb)
def diff (a b : Nat) : Nat := (BitVec.ofNat 64 a &&& ~~~ BitVec.ofNat 64 b).toNat
theorem zit (a b : Nat) : diff a b < 18446744073709551616 := (BitVec.ofNat 64 a &&& ~~~ BitVec.ofNat 64 b).isLt
theorem zuY (a b : Nat) : zsr .u64 (a : Int) (b : Int) = ((diff a b : Nat) : Int) := by
  show IntKind.u64.wrap ((BitVec.ofInt 64 (a : Int) &&& ~~~ BitVec.ofInt 64 (b : Int)).toNat : Int) = _
  rw [BitVec.ofInt_natCast, BitVec.ofInt_natCast]
  exact zfm (zit a b)
theorem zfU {a b i : Nat} (ha : a < 18446744073709551616) (hb : b < 18446744073709551616) : (diff a b).testBit i = (a.testBit i && !b.testBit i) := by
  unfold diff
  rw [BitVec.testBit_toNat, BitVec.getLsbD_and, BitVec.getLsbD_not, BitVec.getLsbD_ofNat, BitVec.getLsbD_ofNat]
  by_cases hi : i < 64
  · simp [hi]
  · have : a.testBit i = false := Nat.testBit_lt_two_pow (Nat.lt_of_lt_of_le ha (Nat.pow_le_pow_right (n := 2) (by decide) (show 64 ≤ i by omega)))
    simp [hi, this]
theorem zqX {v : Nat} (hv : v < 64) : zjj .u64 1 (v : Int) = some ((2 ^ v : Nat) : Int) := by
  unfold zjj
  rw [if_pos (by omega)]
  congr 1
  have h1 : min (v : Int).toNat IntKind.u64.bits = v := by
    rw [show IntKind.u64.bits = 64 from rfl, Int.toNat_natCast]; exact Nat.min_eq_left (by omega)
  rw [h1, Int.one_mul]
  have h2 : ((2 : Int) ^ v) = ((2 ^ v : Nat) : Int) := by simp
  rw [h2]
  exact zfm (Nat.pow_lt_pow_right (by decide) hv)
theorem zuM {a v : Nat} (hv : v < 64) : zc7 .u64 (a : Int) (v : Int) = some ((a >>> v : Nat) : Int) := by
  unfold zc7
  rw [if_pos (by omega)]
  congr 1
  have h1 : min (v : Int).toNat IntKind.u64.bits = v := by
    rw [show IntKind.u64.bits = 64 from rfl, Int.toNat_natCast]; exact Nat.min_eq_left (by omega)
  rw [h1, Nat.shiftRight_eq_div_pow]
  have h2 : ((2 : Int) ^ v) = ((2 ^ v : Nat) : Int) := by simp
  rw [h2, Int.fdiv_eq_ediv_of_nonneg _ (Int.natCast_nonneg _)]
  rfl
theorem zwf (a v : Nat) : ((a >>> v) &&& 1) = (a.testBit v).toNat := by
  rw [Nat.and_one_is_mod, Nat.testBit_eq_decide_div_mod_eq, Nat.shiftRight_eq_div_pow]
  have h := Nat.mod_two_eq_zero_or_one (a / 2 ^ v)
  rcases h with h | h <;> simp [h]
theorem znG {a v : Nat} (ha : a < 18446744073709551616) (hv : v < 64) : ∃ q : Int, zc7 .u64 (a : Int) (v : Int) = some q ∧ zbM .u64 q 1 = ((a.testBit v).toNat : Int) := by
  refine ⟨_, zuM hv, ?_⟩
  rw [show (1 : Int) = ((1 : Nat) : Int) from rfl, zwd (Nat.lt_of_le_of_lt (by rw [Nat.shiftRight_eq_div_pow]; exact Nat.div_le_self _ _) ha) (by decide), zwf]
end Go.Dc
namespace Go.Dc
open Go Go.Mx Go.Lx
variable {α : Type}
theorem zpR {xs : List α} {i : Nat} : zbn xs (i : Int) = xs[i]? := by
  unfold zbn
  rw [if_pos (Int.natCast_nonneg i), Int.toNat_natCast]
theorem zdw {xs : List α} {i : Nat} (h : i < xs.length) : zbn xs (i : Int) = some (xs[i]'h) := by
  rw [zpR, List.getElem?_eq_getElem h]
theorem zlF {xs : List α} {i : Nat} {v : α} (h : i < xs.length) : zgD xs (i : Int) v = some (xs.set i v) := by
  unfold zgD
  rw [if_pos (by omega), Int.toNat_natCast]
theorem zeB {b : Nat} {xs ys : List α} (h : (xs.length + ys.length) * b ≤ 70368744177664) : zes b xs ys = some (xs ++ ys) := by
  unfold zes
  rw [if_pos (by simp only [zal]; omega)]
theorem zfD {b n : Nat} {z : α} (h : n * b ≤ 70368744177664) : zfF b (n : Int) z = some (List.replicate n z) := by
  have h2 : (n : Int) * (b : Int) ≤ zal := by
    rw [← Int.natCast_mul]; simp only [zal]; omega
  unfold zfF
  rw [if_pos ⟨Int.natCast_nonneg n, h2⟩, Int.toNat_natCast]
theorem zqB {b : Nat} {xs : List α} (h : xs.length * b ≤ 70368744177664) : zhk b xs = some xs := by
  unfold zhk
  rw [if_pos (by simp only [zal]; omega)]
theorem zay {i n : Nat} : decide ((i : Int) < (n : Int)) = decide (i < n) := by simp
theorem zba (n : Nat) : ((n : Int) - 0 + 2).toNat = n + 2 := by omega
theorem zoF {p0 : S_api_Net} (hl : p0.nodes.length ≤ 8) : ∀ (n i : Nat) (acc : List Int), i ≤ p0.nodes.length → acc.length ≤ i → p0.nodes.length - i < n →
    zb2 p0 n (i : Int) acc = some (acc ++ (p0.nodes.drop i).map (·.card))
  | 0, _, _, _, _, h => absurd h (Nat.not_lt_zero _)
  | n + 1, i, acc, h1, h2, h3 => by
    unfold zb2
    by_cases hi : i < p0.nodes.length
    · rw [zay, decide_eq_true hi, cond_true, zdw hi, Option.bind_some, zeB (by simp; omega), Option.bind_some, zao (by omega),
        zoF hl n (i + 1) _ hi (by simp; omega) (by omega), List.drop_eq_getElem_cons hi]
      rw [List.append_assoc]; rfl
    · rw [zay, decide_eq_false hi, cond_false, List.drop_eq_nil_of_le (by omega)]
      simp
theorem zpd {p0 : S_api_Net} (hl : p0.nodes.length ≤ 8) : zcT p0 = some (p0.nodes.map (·.card)) := by
  unfold zcT
  rw [zba]
  have h := zoF hl (p0.nodes.length + 2) 0 [] (Nat.zero_le _) (Nat.le_refl _) (by omega)
  rw [show ((0 : Nat) : Int) = 0 from rfl] at h
  rw [h]
  simp
def Pl (n : Nat) (xs : List Nat) : Prop := ∀ x ∈ xs, x < n
def iL (xs : List Nat) : List Int := xs.map (fun x : Nat => (x : Int))
theorem zaL (xs : List Nat) : (iL xs).length = xs.length := by simp [iL]
theorem zup {xs : List Nat} {i : Nat} (h : i < xs.length) : (iL xs)[i]'(by rw [zaL]; exact h) = ((xs[i] : Nat) : Int) := by simp [iL]
theorem zby {xs : List Nat} {i : Nat} (h : i < xs.length) : zbn (iL xs) (i : Int) = some ((xs[i] : Nat) : Int) := by
  rw [zdw (by rw [zaL]; exact h), zup h]
theorem zvp {cs : List Int} {ps : List Nat} (hp : Pl cs.length ps) (hl : ps.length ≤ 8) : ∀ (n i : Nat) (acc : List Int), i ≤ ps.length → acc.length ≤ i → ps.length - i < n →
    zdt (iL ps) cs n (i : Int) acc = some (acc ++ (ps.drop i).map fun p => cs.getD p 0)
  | 0, _, _, _, _, h => absurd h (Nat.not_lt_zero _)
  | n + 1, i, acc, h1, h2, h3 => by
    unfold zdt
    rw [zaL]
    by_cases hi : i < ps.length
    · have hb : ps[i] < cs.length := hp _ (List.getElem_mem hi)
      rw [zay, decide_eq_true hi, cond_true, zby hi, Option.bind_some, zdw hb, Option.bind_some, zeB (by simp; omega), Option.bind_some, zao (by omega),
        zvp hp hl n (i + 1) _ hi (by simp; omega) (by omega), List.drop_eq_getElem_cons hi]
      rw [List.append_assoc, List.map_cons, show cs.getD ps[i] 0 = cs[ps[i]] by simp [hb]]; rfl
    · rw [zay, decide_eq_false hi, cond_false, List.drop_eq_nil_of_le (by omega)]
      simp
theorem zu1 {cs : List Int} {ps : List Nat} (hp : Pl cs.length ps) (hl : ps.length ≤ 8) : zeT cs (iL ps) = some (ps.map fun p => cs.getD p 0) := by
  unfold zeT
  rw [zaL, zba]
  have h := zvp hp hl (ps.length + 2) 0 [] (Nat.zero_le _) (Nat.le_refl _) (by omega)
  rw [show ((0 : Nat) : Int) = 0 from rfl] at h
  rw [h]
  simp
def zbB (xs : List Nat) : Nat := xs.foldr (· * ·) 1
theorem zgE {xs : List Nat} (h : ∀ x ∈ xs, 1 ≤ x) : 1 ≤ zbB xs := by
  induction xs with
  | nil => exact Nat.le_refl 1
  | cons x xs ih => exact Nat.mul_le_mul (h x List.mem_cons_self) (ih fun y hy => h y (List.mem_cons_of_mem _ hy))
theorem zq9 {cs : List Nat} (hc : ∀ x ∈ cs, 1 ≤ x) (hl : cs.length ≤ 8) : ∀ (n i a : Nat), i ≤ cs.length → a * zbB (cs.drop i) ≤ 65536 → cs.length - i < n →
    zcn (iL cs) n (a : Int) (i : Int) = some ((a * zbB (cs.drop i) : Nat) : Int)
  | 0, _, _, _, _, h => absurd h (Nat.not_lt_zero _)
  | n + 1, i, a, h1, h2, h3 => by
    unfold zcn
    rw [zaL]
    by_cases hi : i < cs.length
    · have e : cs.drop i = cs[i] :: cs.drop (i + 1) := List.drop_eq_getElem_cons hi
      have e2 : a * zbB (cs.drop i) = a * cs[i] * zbB (cs.drop (i + 1)) := by rw [e]; exact (Nat.mul_assoc _ _ _).symm
      rw [e2] at h2
      have hq : 1 ≤ zbB (cs.drop (i + 1)) := zgE fun x hx => hc x (List.mem_of_mem_drop hx)
      have hle : a * cs[i] ≤ 65536 := Nat.le_trans (Nat.le_mul_of_pos_right _ hq) h2
      rw [zay, decide_eq_true hi, cond_true, zby hi, Option.bind_some, zao (by omega), show ((a : Int) * ((cs[i] : Nat) : Int)) = ((a * cs[i] : Nat) : Int) by simp,
        zaY (by omega), zq9 hc hl n (i + 1) _ hi h2 (by omega), e2]
    · rw [zay, decide_eq_false hi, cond_false, List.drop_eq_nil_of_le (by omega)]
      simp [zbB]
theorem zrY {cs : List Nat} (hc : ∀ x ∈ cs, 1 ≤ x) (hl : cs.length ≤ 8) (hp : zbB cs ≤ 65536) : zdr (iL cs) = some ((zbB cs : Nat) : Int) := by
  unfold zdr
  rw [zaL, zba]
  have h := zq9 hc hl (cs.length + 2) 0 1 (Nat.zero_le _) (by simpa using hp) (by omega)
  rw [show ((0 : Nat) : Int) = 0 from rfl, show ((1 : Nat) : Int) = 1 from rfl] at h
  rw [h]
  simp
end Go.Dc
namespace Go.Dc
open Go Go.Mx Go.Lx
theorem zhN {xs : List Nat} {i v : Nat} (h : i < xs.length) : zgD (iL xs) (i : Int) (v : Int) = some (iL (xs.set i v)) := by
  rw [zlF (by rw [zaL]; exact h)]; simp [iL]
theorem znx : ∀ {xs : List Nat} {i k : Nat} (h : i < xs.length), (xs.set i (xs[i] + k)).sum = xs.sum + k
  | [], i, k, h => absurd h (Nat.not_lt_zero _)
  | x :: xs, 0, k, h => by simp; omega
  | x :: xs, i + 1, k, h => by
    have := znx (xs := xs) (i := i) (k := k) (by simpa using h)
    simp only [List.set_cons_succ, List.sum_cons, List.getElem_cons_succ, this]
    omega
theorem zhm : ∀ {xs : List Nat} {i : Nat} (h : i < xs.length), xs[i] ≤ xs.sum
  | [], i, h => absurd h (Nat.not_lt_zero _)
  | x :: xs, 0, h => by simp
  | x :: xs, i + 1, h => by
    have := zhm (xs := xs) (i := i) (by simpa using h)
    simp only [List.sum_cons, List.getElem_cons_succ]
    omega
theorem zdc {xs0 bs : List Nat} {x : Nat} : zbn (iL (xs0 ++ x :: bs)) ((xs0.length : Nat) : Int) = some (x : Int) := by
  rw [zby (by simp)]; simp
theorem zfX {xs0 bs : List Nat} {x y : Nat} : zgD (iL (xs0 ++ x :: bs)) ((xs0.length : Nat) : Int) (y : Int) = some (iL (xs0 ++ y :: bs)) := by
  rw [zhN (by simp)]; simp
theorem zol {a b : Nat} (hb : 0 < b) : zqU (a : Int) (b : Int) = some ((a % b : Nat) : Int) := by
  unfold zqU
  have : ((b : Int) == 0) = false := by simp; omega
  rw [this, cond_false]; rfl
theorem zvL {ws : List Nat} {g p c : Nat} (hp : p ≤ 65536) (hc : c ≤ 8) : ∀ (n : Nat) (xs0 : List Nat) (k : Nat), xs0.length + k = c → xs0.sum ≤ 7 * xs0.length → k < n →
    ∃ zs : List Nat, zs.length = c ∧ zs.sum ≤ 7 * c ∧ zbY (c : Int) (iL ws) (p : Int) n ((xs0.sum : Nat) : Int) (xs0.length : Int) (iL (xs0 ++ List.replicate k 0)) = some (((zs.sum : Nat) : Int), iL zs)
  | 0, _, _, _, _, h => absurd h (Nat.not_lt_zero _)
  | n + 1, xs0, 0, h1, h2, h3 => by
    refine ⟨xs0, by simpa using h1, by rw [← h1]; simpa using h2, ?_⟩
    unfold zbY
    rw [zay, decide_eq_false (by omega), cond_false]
    simp
  | n + 1, xs0, k + 1, h1, h2, h3 => by
    have step : ∀ a : Nat, a ≤ 7 → ∃ zs : List Nat, zs.length = c ∧ zs.sum ≤ 7 * c ∧ zbY (c : Int) (iL ws) (p : Int) n (w64 (((xs0.sum : Nat) : Int) + (a : Int))) (w64 ((xs0.length : Int) + 1)) (iL (xs0 ++ a :: List.replicate k 0)) = some (((zs.sum : Nat) : Int), iL zs) := by
      intro a ha
      obtain ⟨zs, e1, e2, e3⟩ := zvL (ws := ws) (g := g) hp hc n (xs0 ++ [a]) k (by simp; omega) (by simp; omega) (by omega)
      refine ⟨zs, e1, e2, ?_⟩
      rw [zao (by omega), ← Int.natCast_add, zaY (by omega), ← e3]
      simp
    unfold zbY
    rw [zay, decide_eq_true (by omega), cond_true, zaL, List.replicate_succ]
    by_cases h0 : 0 < ws.length
    · have hq : (p + xs0.length) % ws.length < ws.length := Nat.mod_lt _ h0
      obtain ⟨zs, e1, e2, e3⟩ := step (ws[(p + xs0.length) % ws.length] % 8) (by omega)
      refine ⟨zs, e1, e2, ?_⟩
      rw [show decide ((0 : Int) < (ws.length : Int)) = true by simpa using h0, cond_true, ← Int.natCast_add, zaY (by omega), zol h0, Option.bind_some, zby hq, Option.bind_some, zdc,
        Option.bind_some, show (((ws[(p + xs0.length) % ws.length] : Nat) : Int).tmod 8) = ((ws[(p + xs0.length) % ws.length] % 8 : Nat) : Int) from rfl, zaY (by omega), zfX,
        Option.bind_some, Option.bind_some, zdc, Option.bind_some, e3]
    · obtain ⟨zs, e1, e2, e3⟩ := step 0 (by omega)
      refine ⟨zs, e1, e2, ?_⟩
      rw [show decide ((0 : Int) < (ws.length : Int)) = false by simpa using h0, cond_false, Option.bind_some, zdc, Option.bind_some, e3]
theorem zu8 {g t c : Nat} (hg : g ≤ 60) (hc : c ≤ 8) (ht : t ≤ 65536) : ∀ (n : Nat) (xs0 bs : List Nat) (m : Nat) (v : Nat), xs0.length + bs.length = c → xs0.sum * t + g * bs.sum ≤ g * t → bs.sum ≤ t → xs0.sum ≤ g → v < c → bs.length < n →
    ∃ (zs : List Nat) (v' : Nat), zs.length = c ∧ zs.sum ≤ g ∧ v' < c ∧ zco (c : Int) (g : Int) (t : Int) n ((g - xs0.sum : Nat) : Int) (v : Int) (xs0.length : Int) (iL (xs0 ++ bs)) = some (((g - zs.sum : Nat) : Int), (v' : Int), iL zs)
  | 0, _, _, _, _, _, _, _, _, _, h => absurd h (Nat.not_lt_zero _)
  | n + 1, xs0, [], m, v, h1, h2, h2b, h3, h4, h5 => by
    refine ⟨xs0, v, by simpa using h1, h3, h4, ?_⟩
    unfold zco
    rw [zay, decide_eq_false (by simp at h1; omega), cond_false]
    simp
  | n + 1, xs0, b :: bs, m, v, h1, h2, h2b, h3, h4, h5 => by
    simp only [List.length_cons, List.sum_cons] at h1 h2 h2b h5
    unfold zco
    rw [zay, decide_eq_true (by omega), cond_true, zdc, Option.bind_some]
    by_cases h0 : 0 < b
    · have hb : b ≤ t := by omega
      have hgb : g * b ≤ 60 * 65536 := Nat.mul_le_mul hg (by omega)
      have hd : g * b / t * t ≤ g * b := Nat.div_mul_le_self _ _
      have hs : xs0.sum + g * b / t ≤ g := by
        have h6 : (xs0.sum + g * b / t) * t ≤ g * t := by
          rw [Nat.add_mul]
          have : g * (b + bs.sum) = g * b + g * bs.sum := Nat.mul_add _ _ _
          omega
        exact Nat.le_of_mul_le_mul_right h6 (by omega)
      obtain ⟨zs, v', e1, e2, e3, e4⟩ := zu8 hg hc ht n (xs0 ++ [g * b / t]) bs m xs0.length (by simp; omega) (by
        have : g * (b + bs.sum) = g * b + g * bs.sum := Nat.mul_add _ _ _
        simp only [List.sum_append, List.sum_cons, List.sum_nil, Nat.add_zero, Nat.add_mul]; omega) (by omega) (by simpa using hs) (by omega) (by omega)
      refine ⟨zs, v', e1, e2, e3, ?_⟩
      have hq : zrs .i64 (w64 ((g : Int) * (b : Int))) (t : Int) = some ((g * b / t : Nat) : Int) := by
        unfold zrs
        have : ((t : Int) == 0) = false := by simp; omega
        rw [this, cond_false, ← Int.natCast_mul, zaY (by omega)]
        have hle : g * b / t ≤ g * b := Nat.div_le_self _ _
        exact congrArg some (zaY (n := g * b / t) (by omega))
      rw [show decide ((0 : Int) < (b : Int)) = true by simpa using h0, cond_true, hq, Option.bind_some, zfX, Option.bind_some, Option.bind_some]
      simp only []
      rw [zdc, Option.bind_some, zao (by omega), show (((g - xs0.sum : Nat) : Int) - ((g * b / t : Nat) : Int)) = ((g - (xs0.sum + g * b / t) : Nat) : Int) by omega, zaY (Nat.lt_of_le_of_lt (Nat.sub_le _ _) (by omega)), ← e4]
      simp
    · have hb : b = 0 := by omega
      subst hb
      obtain ⟨zs, v', e1, e2, e3, e4⟩ := zu8 hg hc ht n (xs0 ++ [0]) bs m v (by simp; omega) (by simp at h2 ⊢; omega) (by omega) (by simpa using h3) h4 (by omega)
      refine ⟨zs, v', e1, e2, e3, ?_⟩
      rw [show decide ((0 : Int) < ((0 : Nat) : Int)) = false from rfl, cond_false, Option.bind_some]
      simp only []
      rw [zdc, Option.bind_some, zao (by omega), ← Int.ofNat_sub (by omega), zaY (by omega), ← e4]
      simp
theorem zrx {ws : List Nat} {g p c : Nat} (hg : g ≤ 60) (hp : p ≤ 65536) (h1 : 1 ≤ c) (hc : c ≤ 8) :
    ∃ zs : List Nat, zs.length = c ∧ zs.sum = g ∧ zea (g : Int) (c : Int) (iL ws) (p : Int) = some (iL zs) := by
  obtain ⟨zs, e1, e2, e3⟩ := zvL (ws := ws) (g := g) hp hc (c + 2) [] c (by simp) (by simp) (by omega)
  obtain ⟨ys, v, f1, f2, f3, f4⟩ := zu8 (g := g) (t := zs.sum) (c := c) hg hc (by omega) (c + 2) [] zs 0 0 (by simp [e1]) (by simp) (Nat.le_refl _) (by simp) (by omega) (by omega)
  have hv : v < ys.length := by omega
  refine ⟨ys.set v (ys[v] + (g - ys.sum)), by simp [f1], by rw [znx]; omega, ?_⟩
  unfold zea
  have hz : List.replicate c (0 : Int) = iL (List.replicate c 0) := by simp [iL]
  simp only [List.nil_append, List.sum_nil, List.length_nil, Nat.sub_zero] at e3 f4
  rw [zfD (by omega), Option.bind_some, hz, zba]
  rw [show ((0 : Nat) : Int) = 0 from rfl] at e3 f4
  rw [e3, Option.bind_some]
  simp only []
  rw [f4, Option.bind_some]
  simp only []
  rw [zby hv, Option.bind_some, ← Int.natCast_add, zaY, zhN hv, Option.bind_some]
  have : ys[v] ≤ ys.sum := zhm hv
  omega
end Go.Dc
namespace Go.Dc
open Go Go.Mx Go.Lx
theorem zmT {c w : Nat} {os : List Int} {wh : Int} (hc : c ≤ 5) : ∀ (n i : Nat) (acc : List Int), acc.length = i → i ≤ c → c - i < n →
    ∃ zs : List Int, zs.length = c ∧ zaX ⟨List.replicate c 0, wh, os⟩ n (i : Int) acc = some zs
  | 0, _, _, _, _, h => absurd h (Nat.not_lt_zero _)
  | n + 1, i, acc, h1, h2, h3 => by
    unfold zaX
    simp only [List.length_replicate]
    by_cases hi : i < c
    · obtain ⟨zs, e1, e2⟩ := zmT (w := w) (os := os) (wh := wh) hc n (i + 1) (acc ++ [1]) (by simp [h1]) hi (by omega)
      refine ⟨zs, e1, ?_⟩
      rw [zay, decide_eq_true hi, cond_true, Option.bind_some, show decide ((i : Int) < 5) = true by simp; omega, cond_true, zdw (by simpa using hi), Option.bind_some,
        List.getElem_replicate, show w64 (1 + w64 ((0 : Int).tmod 4)) = 1 from rfl, zeB (by simp; omega), Option.bind_some, zao (by omega), e2]
    · exact ⟨acc, by omega, by rw [zay, decide_eq_false hi, cond_false, Option.bind_some, cond_false]⟩
theorem zqp {c N : Nat} {os : List Int} {wh : Int} (hc : c ≤ 5) (hN : 6 ≤ N) : ∃ zs : List Int, zs.length = c ∧ zbe N ⟨List.replicate c 0, wh, os⟩ = some zs := by
  obtain ⟨zs, e1, e2⟩ := zmT (w := 0) (os := os) (wh := wh) hc N 0 [] rfl (Nat.zero_le _) (by omega)
  refine ⟨zs, e1, ?_⟩
  unfold zbe
  rw [show ((0 : Nat) : Int) = 0 from rfl] at e2
  rw [e2, Option.bind_some]
structure PermOk (c : Nat) (xs : List Nat) : Prop where
  len : xs.length = c
  nod : xs.Nodup
  lt : ∀ x ∈ xs, x < c
  all : ∀ x, x < c → x ∈ xs
theorem ziT {α : Type} {xs : List α} {a b : Nat} (h1 : a ≤ b) (h2 : b ≤ xs.length) : zd4 xs (a : Int) (b : Int) = some ((xs.drop a).take (b - a)) := by
  unfold zd4
  rw [if_pos (by omega)]
  simp
theorem zqR {c N : Nat} {os : List Nat} {wh : Int} (hc : c ≤ 5) (hN : 6 ≤ N) (ho : ∀ o ∈ os, o ≤ 255) : ∀ (n i : Nat) (xs : List Nat), PermOk i xs → i ≤ c → c - i < n →
    ∃ zs : List Nat, PermOk c zs ∧ zap N ⟨List.replicate c 0, wh, iL os⟩ n (i : Int) (iL xs) = some (iL zs)
  | 0, _, _, _, _, h => absurd h (Nat.not_lt_zero _)
  | n + 1, i, xs, h1, h2, h3 => by
    unfold zap
    obtain ⟨z0, z1, z2⟩ := zqp (os := iL os) (wh := wh) hc hN
    rw [z2, Option.bind_some, z1]
    by_cases hi : i < c
    · have step : ∀ q : Nat, q ≤ i → ∃ zs : List Nat, PermOk c zs ∧ ((zd4 (iL xs) 0 (q : Int)).bind fun y9 =>
          (zhk 8 y9).bind fun y11 => (zes 8 y9 [(i : Int)]).bind fun y13 => (zd4 (iL xs) (q : Int) (iL xs).length).bind fun y15 => (zes 8 y13 y15).bind fun y17 =>
          zap N ⟨List.replicate c 0, wh, iL os⟩ n (w64 ((i : Int) + 1)) y17) = some (iL zs) := by
        intro q hq
        have hl := h1.len
        have hp : List.Perm (xs.take q ++ i :: xs.drop q) (i :: xs) := by
          refine List.perm_middle.trans ?_
          rw [List.take_append_drop]
        obtain ⟨zs, e1, e2⟩ := zqR (wh := wh) hc hN ho n (i + 1) (xs.take q ++ i :: xs.drop q) ⟨by rw [hp.length_eq]; simp [hl], hp.nodup_iff.2 (List.nodup_cons.2 ⟨fun hx => Nat.lt_irrefl _ (h1.lt _ hx), h1.nod⟩),
          fun x hx => by
            rcases List.mem_cons.1 (hp.mem_iff.1 hx) with h | h
            · omega
            · have := h1.lt _ h; omega,
          fun x hx => hp.mem_iff.2 (by
            by_cases hxi : x = i
            · exact List.mem_cons.2 (.inl hxi)
            · exact List.mem_cons_of_mem _ (h1.all _ (by omega)))⟩ hi (by omega)
        refine ⟨zs, e1, ?_⟩
        rw [show (0 : Int) = ((0 : Nat) : Int) from rfl, ziT (Nat.zero_le _) (by rw [zaL]; omega), Option.bind_some, zqB (by simp [zaL]; omega), Option.bind_some,
          zeB (by simp [zaL]; omega), Option.bind_some, ziT (by rw [zaL]; omega) (Nat.le_refl _), Option.bind_some, zeB (by simp [zaL]; omega), Option.bind_some, zao (by omega), ← e2]
        congr 1
        simp [iL, List.take_of_length_le]
      rw [zay, decide_eq_true hi, cond_true]
      simp only [zaL (os)]
      by_cases hio : i < os.length
      · have hq : os[i] % (i + 1) ≤ i := Nat.lt_succ_iff.1 (Nat.mod_lt _ (Nat.succ_pos _))
        have hb := ho _ (List.getElem_mem hio)
        obtain ⟨zs, e1, e2⟩ := step _ hq
        refine ⟨zs, e1, ?_⟩
        rw [zay, decide_eq_true hio, cond_true, zby hio, Option.bind_some, zaY (by omega), zao (by omega), zol (by omega), Option.bind_some, Option.bind_some, ← zao (by omega)]
        exact e2
      · obtain ⟨zs, e1, e2⟩ := step 0 (Nat.zero_le _)
        refine ⟨zs, e1, ?_⟩
        rw [zay, decide_eq_false hio, cond_false, Option.bind_some]
        exact e2
    · have : i = c := by omega
      subst this
      exact ⟨xs, h1, by rw [zay, decide_eq_false hi, cond_false]⟩
theorem zrP {c N : Nat} {os : List Nat} {wh : Int} (hc : c ≤ 5) (hN : 6 ≤ N) (ho : ∀ o ∈ os, o ≤ 255) :
    ∃ zs : List Nat, PermOk c zs ∧ zaM N ⟨List.replicate c 0, wh, iL os⟩ = some (iL zs) := by
  obtain ⟨zs, e1, e2⟩ := zqR (wh := wh) hc hN ho N 0 [] ⟨rfl, List.nodup_nil, by simp, by simp⟩ (Nat.zero_le _) (by omega)
  refine ⟨zs, e1, ?_⟩
  unfold zaM
  rw [show ((0 : Nat) : Int) = 0 from rfl, show iL [] = [] from rfl] at e2
  rw [e2, Option.bind_some]
end Go.Dc
namespace Go.Dc
open Go Go.Mx Go.Lx
structure NN where
  c : Nat
  ps : List Nat
  rows : List (List Nat)
def nd (x : NN) : S_api_Node := ⟨x.c, iL x.ps, x.rows.map iL⟩
theorem zqj (k : IntKind) (a : Int) {v : Nat} : ∃ q, zc7 k a (v : Int) = some q := by
  unfold zc7
  rw [if_pos (Int.natCast_nonneg v)]
  exact ⟨_, rfl⟩
theorem zqr {num ps : List Nat} {ps8 : Int} {u k : Nat} (hk : k < num.length) : ∃ b, zpz (iL num) ps8 (u : Int) (k : Int) (iL ps) = some b ∧ (b = true → num[k] = u ∧ ps.length < 3) := by
  unfold zpz
  rw [zby hk, Option.bind_some]
  by_cases h : num[k] = u
  · obtain ⟨q, e⟩ := zqj .u8 ps8 (v := k % 18446744073709551616)
    rw [show (((num[k] : Nat) : Int) == (u : Int)) = true by simp [h], cond_true, ztm, e, Option.bind_some]
    cases zbM .u8 q 1 == 1 with
    | true => exact ⟨_, rfl, fun h2 => ⟨h, by rw [zaL] at h2; have := of_decide_eq_true h2; omega⟩⟩
    | false => exact ⟨_, rfl, fun h2 => by cases h2⟩
  · rw [show (((num[k] : Nat) : Int) == (u : Int)) = false by simp; omega, cond_false]
    exact ⟨_, rfl, fun h2 => by cases h2⟩
theorem zix {num : List Nat} {ps8 : Int} {u i : Nat} (hi : i ≤ num.length) (hn : num.length ≤ 5) (hd : num.Nodup) : ∀ (n k : Nat) (ps : List Nat), ps.length ≤ 3 → k ≤ i → i - k < n →
    ∃ qs : List Nat, zkP (iL num) (i : Int) ps8 (u : Int) n (k : Int) (iL ps) = some (iL qs) ∧ (qs = ps ∨ (qs = ps ++ [u] ∧ ps.length < 3 ∧ ∃ j, k ≤ j ∧ j < i ∧ num[j]? = some u))
  | 0, _, _, _, _, h => absurd h (Nat.not_lt_zero _)
  | n + 1, k, ps, h1, h2, h3 => by
    unfold zkP
    by_cases hk : k < i
    · obtain ⟨b, e, hb⟩ := zqr (num := num) (ps := ps) (ps8 := ps8) (u := u) (k := k) (by omega)
      rw [zay, decide_eq_true hk, cond_true, e, Option.bind_some]
      cases b with
      | false =>
        obtain ⟨qs, e2, h4⟩ := zix (ps8 := ps8) (u := u) hi hn hd n (k + 1) ps h1 hk (by omega)
        refine ⟨qs, by rw [cond_false, zao (by omega), e2], ?_⟩
        rcases h4 with h4 | ⟨h4, h5, j, h6, h7, h8⟩
        · exact .inl h4
        · exact .inr ⟨h4, h5, j, by omega, h7, h8⟩
      | true =>
        obtain ⟨h5, h6⟩ := hb rfl
        obtain ⟨qs, e2, h4⟩ := zix (ps8 := ps8) (u := u) hi hn hd n (k + 1) (ps ++ [u]) (by simp; omega) hk (by omega)
        refine ⟨qs, ?_, .inr ⟨?_, h6, k, Nat.le_refl _, hk, by rw [List.getElem?_eq_getElem (by omega), h5]⟩⟩
        · rw [cond_true, zeB (by simp [zaL]; omega), Option.bind_some, zao (by omega), ← e2]
          simp [iL]
        · rcases h4 with h4 | ⟨h4, h7, j, h8, h9, h10⟩
          · exact h4
          · exfalso
            have hj : j < num.length := by omega
            rw [List.getElem?_eq_getElem hj] at h10
            have h12 : num[j] = num[k]'(by omega) := by rw [h5]; exact Option.some.inj h10
            exact List.pairwise_iff_getElem.1 hd k j (by omega) hj (by omega) h12.symm
    · exact ⟨ps, by rw [zay, decide_eq_false hk, cond_false], .inl rfl⟩
structure ParOk (num : List Nat) (i : Nat) (b : Nat) (ps : List Nat) : Prop where
  len : ps.length ≤ 3
  inc : ps.Pairwise (· < ·)
  lt : ∀ p ∈ ps, p < b
  mem : ∀ p ∈ ps, ∃ j, j < i ∧ num[j]? = some p
theorem zlw {num : List Nat} {ps8 : Int} {i c : Nat} (hi : i ≤ num.length) (hn : num.length ≤ 5) (hc : c ≤ 5) (hd : num.Nodup) : ∀ (n u : Nat) (ps : List Nat), ParOk num i u ps → u ≤ c → c - u < n →
    ∃ qs : List Nat, zmb (iL num) (i : Int) ps8 (c : Int) n (u : Int) (iL ps) = some (iL qs) ∧ ParOk num i c qs
  | 0, _, _, _, _, h => absurd h (Nat.not_lt_zero _)
  | n + 1, u, ps, h1, h2, h3 => by
    unfold zmb
    by_cases hu : u < c
    · obtain ⟨qs, e, h4⟩ := zix (ps8 := ps8) (u := u) hi hn hd (i + 2) 0 ps h1.len (Nat.zero_le _) (by omega)
      rw [show ((0 : Nat) : Int) = 0 from rfl] at e
      have hq : ParOk num i (u + 1) qs := by
        rcases h4 with h4 | ⟨h4, h5, j, h6, h7, h8⟩
        · subst h4
          exact ⟨h1.len, h1.inc, fun p hp => Nat.lt_succ_of_lt (h1.lt p hp), h1.mem⟩
        · subst h4
          refine ⟨by simp; omega, ?_, ?_, ?_⟩
          · rw [List.pairwise_append]
            exact ⟨h1.inc, List.pairwise_singleton _ _, fun a ha b hb => by rw [List.mem_singleton.1 hb]; exact h1.lt a ha⟩
          · intro p hp
            rcases List.mem_append.1 hp with hp | hp
            · exact Nat.lt_succ_of_lt (h1.lt p hp)
            · rw [List.mem_singleton.1 hp]; exact Nat.lt_succ_self _
          · intro p hp
            rcases List.mem_append.1 hp with hp | hp
            · exact h1.mem p hp
            · rw [List.mem_singleton.1 hp]; exact ⟨j, h7, h8⟩
      obtain ⟨rs, e2, h9⟩ := zlw (ps8 := ps8) hi hn hc hd n (u + 1) qs hq hu (by omega)
      refine ⟨rs, ?_, h9⟩
      rw [zay, decide_eq_true hu, cond_true, Int.toNat_natCast, e, Option.bind_some, zao (by omega), e2]
    · have : u = c := by omega
      subst this
      exact ⟨ps, by rw [zay, decide_eq_false hu, cond_false], h1⟩
theorem zcV {ns : List NN} {v : Nat} (h : v < ns.length) : zbn (ns.map nd) (v : Int) = some (nd ns[v]) := by
  rw [zdw (by simpa using h)]; simp
theorem zfp {ns : List NN} {v : Nat} {x : NN} (h : v < ns.length) : zgD (ns.map nd) (v : Int) (nd x) = some ((ns.set v x).map nd) := by
  rw [zlF (by simpa using h)]; simp
theorem zrz {num : List Nat} {ps8 : Int} {i : Nat} {ns : List NN} {v : Nat} (hi : i ≤ num.length) (hn : num.length ≤ 5) (hl : ns.length ≤ 5) (hd : num.Nodup) (hv : v < ns.length) (hp : ns[v].ps = []) :
    ∃ qs : List Nat, zkN (iL num) (i : Int) (v : Int) (ns.length : Int) ps8 (ns.map nd) = some ((ns.set v ⟨ns[v].c, qs, ns[v].rows⟩).map nd) ∧ ParOk num i ns.length qs := by
  obtain ⟨qs, e, h⟩ := zlw (ps8 := ps8) hi hn hl hd (ns.length + 2) 0 [] ⟨by simp, by simp, by simp, by simp⟩ (Nat.zero_le _) (by omega)
  refine ⟨qs, ?_, h⟩
  unfold zkN
  rw [show ((0 : Nat) : Int) = 0 from rfl, show iL [] = [] from rfl] at e
  rw [zcV hv, Option.bind_some, show (nd ns[v]).parents.isEmpty = true by simp [nd, hp, iL], cond_true, Int.toNat_natCast, e, Option.bind_some]
  exact zfp (x := ⟨ns[v].c, qs, ns[v].rows⟩) hv
structure RowsOk (g c m : Nat) (rows : List (List Nat)) : Prop where
  len : rows.length = m
  row : ∀ r ∈ rows, r.length = c ∧ r.sum = g
theorem zgM {ns : List NN} {v : Nat} {x : NN} (hv : v < ns.length) (hx : x.c = ns[v].c) : (ns.set v x).map (·.c) = ns.map (·.c) := by
  rw [List.map_set, hx]
  apply List.ext_getElem (by simp)
  intro i h1 h2
  rw [List.getElem_set]
  split
  · subst_vars; simp
  · rfl
def zcD (ns : List NN) (ps : List Nat) : List Nat := ps.map fun p => (ns.map (·.c)).getD p 0
theorem zrT {xs : List Nat} {p : Nat} : (iL xs).getD p 0 = ((xs.getD p 0 : Nat) : Int) := by
  simp only [iL, List.getD_eq_getElem?_getD, List.getElem?_map]
  cases xs[p]? <;> rfl
theorem zvj {g : Int} {ns : List NN} {v : Nat} (hl : ns.length ≤ 8) (hv : v < ns.length) (hp : Pl ns.length ns[v].ps) (h8 : ns[v].ps.length ≤ 8) :
    za2 ⟨g, ns.map nd⟩ (v : Int) = some (iL (zcD ns ns[v].ps)) := by
  unfold za2
  rw [zcV hv, Option.bind_some, zpd (by simpa using hl), Option.bind_some]
  have hc : (ns.map nd).map (·.card) = iL (ns.map (·.c)) := by simp [iL, nd, Function.comp_def]
  simp only []
  rw [hc, show (nd ns[v]).parents = iL ns[v].ps from rfl, zu1 (by rw [zaL, List.length_map]; exact hp) h8, Option.bind_some]
  congr 1
  simp only [zrT]
  simp only [zcD, iL, List.map_map, Function.comp_def]
theorem zlT {g : Nat} {W : List Nat} {ns : List NN} {v m : Nat} (hg : g ≤ 60) (hl : ns.length ≤ 8) (hv : v < ns.length) (hp : Pl ns.length ns[v].ps) (h8 : ns[v].ps.length ≤ 8) (hc1 : 1 ≤ ns[v].c) (hc4 : ns[v].c ≤ 4)
    (hs : ∀ x ∈ zcD ns ns[v].ps, 1 ≤ x) (hm : zbB (zcD ns ns[v].ps) = m) (hm2 : m ≤ 1024) : ∀ (n r : Nat) (rows : List (List Nat)), RowsOk g ns[v].c r rows → r ≤ m → m - r < n →
    ∃ rows', RowsOk g ns[v].c m rows' ∧ zms (g : Int) (v : Int) (iL W) (ns.map nd) (nd ns[v]) n (r : Int) (rows.map iL) = some (rows'.map iL)
  | 0, _, _, _, _, h => absurd h (Nat.not_lt_zero _)
  | n + 1, r, rows, h1, h2, h3 => by
    unfold zms
    have hx : (⟨(nd ns[v]).card, (nd ns[v]).parents, rows.map iL⟩ : S_api_Node) = nd ⟨ns[v].c, ns[v].ps, rows⟩ := rfl
    have hpc : za2 ⟨g, (ns.set v ⟨ns[v].c, ns[v].ps, rows⟩).map nd⟩ (v : Int) = some (iL (zcD ns ns[v].ps)) := by
      rw [zvj (by simpa using hl) (by simpa using hv) (by simpa using hp) (by simpa using h8)]
      unfold zcD
      rw [zgM (x := ⟨ns[v].c, ns[v].ps, rows⟩) hv rfl]
      simp
    rw [hx, zfp hv, Option.bind_some, hpc, Option.bind_some, zrY hs (by simpa [zcD] using h8) (by omega), Option.bind_some, hm]
    by_cases hr : r < m
    · have hmul : r * (ns[v].c + 1) ≤ 1024 * 5 := Nat.mul_le_mul (by omega) (by omega)
      obtain ⟨zs, e1, e2, e3⟩ := zrx (ws := W) (g := g) (p := r * (ns[v].c + 1)) (c := ns[v].c) hg (by omega) hc1 (by omega)
      obtain ⟨rows', e4, e5⟩ := zlT hg hl hv hp h8 hc1 hc4 hs hm hm2 (W := W) n (r + 1) (rows ++ [zs]) ⟨by simp [h1.len], by
        intro y hy
        rcases List.mem_append.1 hy with hy | hy
        · exact h1.row y hy
        · rw [List.mem_singleton.1 hy]; exact ⟨e1, e2⟩⟩ hr (by omega)
      refine ⟨rows', e4, ?_⟩
      have hcard : (nd ns[v]).card = ((ns[v].c : Nat) : Int) := rfl
      have hlen := h1.len
      rw [zay, decide_eq_true hr, cond_true, hcard, zao (by omega), ← Int.natCast_mul, zaY (by omega), e3, Option.bind_some, zeB (by simp; omega), Option.bind_some, zao (by omega), ← e5]
      simp
    · have : r = m := by omega
      subst this
      exact ⟨rows, h1, by rw [zay, decide_eq_false hr, cond_false]⟩
theorem zrE {g N : Nat} {W : List Nat} {ns : List NN} {v : Nat} (hg : g ≤ 60) (hl : ns.length ≤ 8) (hv : v < ns.length) (hp : Pl ns.length ns[v].ps) (h8 : ns[v].ps.length ≤ 8) (hc1 : 1 ≤ ns[v].c) (hc4 : ns[v].c ≤ 4)
    (hs : ∀ x ∈ zcD ns ns[v].ps, 1 ≤ x) (hm2 : zbB (zcD ns ns[v].ps) ≤ 1024) (hr : ns[v].rows = []) (hN : 1025 ≤ N) :
    ∃ rows, RowsOk g ns[v].c (zbB (zcD ns ns[v].ps)) rows ∧ zkQ N (g : Int) (v : Int) (iL W) (ns.map nd) = some ((ns.set v ⟨ns[v].c, ns[v].ps, rows⟩).map nd) := by
  obtain ⟨rows, e1, e2⟩ := zlT hg hl hv hp h8 hc1 hc4 hs rfl hm2 (W := W) N 0 [] ⟨rfl, by simp⟩ (Nat.zero_le _) (by omega)
  refine ⟨rows, e1, ?_⟩
  unfold zkQ
  rw [show ((0 : Nat) : Int) = 0 from rfl, show ([] : List (List Nat)).map iL = [] from rfl] at e2
  rw [zcV hv, Option.bind_some, show (nd ns[v]).rows.isEmpty = true by simp [nd, hr], cond_true, e2, Option.bind_some]
  exact zfp (x := ⟨ns[v].c, ns[v].ps, rows⟩) hv
end Go.Dc
namespace Go.Dc
open Go Go.Mx Go.Lx
structure NodeOk (num : List Nat) (g : Nat) (cs : List Nat) (j : Nat) (x : NN) : Prop where
  par : ParOk num j cs.length x.ps
  rows : RowsOk g x.c (zbB (x.ps.map fun p => cs.getD p 0)) x.rows
structure NetOk (num : List Nat) (g : Nat) (ns : List NN) : Prop where
  g1 : 1 ≤ g
  g2 : g ≤ 60
  n1 : 1 ≤ ns.length
  n2 : ns.length ≤ 8
  card : ∀ x ∈ ns, 1 ≤ x.c ∧ x.c ≤ 4
  prod : zbB (ns.map (·.c)) ≤ 1024
  perm : PermOk ns.length num
  node : ∀ (j v : Nat) (x : NN), num[j]? = some v → ns[v]? = some x → NodeOk num g (ns.map (·.c)) j x
structure PieceN where
  card : Nat
  parents : Nat
  w : List Nat
structure DraftN where
  grain : Nat
  nodes : List PieceN
  order : List Nat
def zlP (x : PieceN) : S_haruspexref05_Piece := ⟨x.card, x.parents, iL x.w⟩
def zbZ (d : DraftN) : S_haruspexref05_Draft := ⟨d.grain, d.nodes.map zlP, iL d.order⟩
structure DraftOk (d : DraftN) : Prop where
  grain : d.grain ≤ 255
  card : ∀ x ∈ d.nodes, x.card ≤ 255
  order : ∀ x ∈ d.order, x ≤ 255
def ziG (d : DraftN) : Nat := min (max d.nodes.length 1) 5
theorem zkC (d : DraftN) : zcg (zce ((zbZ d).nodes.length : Int) 1) 5 = ((ziG d : Nat) : Int) := by
  simp only [zcg, zce, ziG, zbZ, List.length_map]
  split <;> split <;> omega
def zi7 (xs : List Nat) : Nat := xs.foldr (fun x a => max 1 x * a) 1
theorem zjd : ∀ {xs : List Nat} {i c : Nat}, xs[i]? = some 0 → 1 ≤ c → zi7 (xs.set i c) = zi7 xs * c
  | [], i, c, h, hc => by simp at h
  | x :: xs, 0, c, h, hc => by
    have : x = 0 := by simpa using h
    subst this
    simp only [List.set_cons_zero, zi7, List.foldr_cons]
    rw [Nat.max_eq_right hc, Nat.max_eq_left (Nat.zero_le _), Nat.one_mul, Nat.mul_comm]
  | x :: xs, i + 1, c, h, hc => by
    have ih := zjd (xs := xs) (i := i) (c := c) (by simpa using h) hc
    simp only [List.set_cons_succ, zi7, List.foldr_cons] at ih ⊢
    rw [ih, Nat.mul_assoc]
theorem zlt : ∀ {xs : List Nat}, (∀ x ∈ xs, 1 ≤ x) → zi7 xs = zbB xs
  | [], _ => rfl
  | x :: xs, h => by
    have ih := zlt (xs := xs) fun y hy => h y (List.mem_cons_of_mem _ hy)
    have hx := h x List.mem_cons_self
    simp only [zi7, zbB, List.foldr_cons] at ih ⊢
    rw [ih, Nat.max_eq_right hx]
theorem zv2 {a v : Nat} (h : a * 2 ^ v < 9223372036854775808) (hv : v < 64) : zjj .i64 (a : Int) (v : Int) = some ((a * 2 ^ v : Nat) : Int) := by
  unfold zjj
  rw [if_pos (Int.natCast_nonneg v)]
  congr 1
  have h1 : min (v : Int).toNat IntKind.i64.bits = v := by
    rw [show IntKind.i64.bits = 64 from rfl, Int.toNat_natCast]; exact Nat.min_eq_left (by omega)
  rw [h1]
  have h2 : (a : Int) * ((2 : Int) ^ v) = ((a * 2 ^ v : Nat) : Int) := by simp
  rw [h2]
  exact zaY h
structure L1Ok (num : List Nat) (c j a : Nat) (ns : List NN) : Prop where
  len : ns.length = c
  bare : ∀ x ∈ ns, x.ps = [] ∧ x.rows = []
  prod : zi7 (ns.map (·.c)) = a
  low : a * 2 ^ (c - j) ≤ 100
  done : ∀ (k v : Nat), k < j → num[k]? = some v → ∃ x, ns[v]? = some x ∧ 2 ≤ x.c ∧ x.c ≤ 3
  left : ∀ (k v : Nat), j ≤ k → num[k]? = some v → ∃ x, ns[v]? = some x ∧ x.c = 0
theorem ziR {d : DraftN} (hd : DraftOk d) {j : Nat} : ∃ (card parents : Nat) (w : List Nat), card ≤ 255 ∧
    ((bif (decide ((j : Int) < ((zbZ d).nodes.length : Int))) then (
(zbn (zbZ d).nodes (j : Int)).bind fun x9 =>
some (x9.card, x9.parents, x9.w))
else (
some (0, 0, [])) : Option ((Int × Int × (List Int))))) = some ((card : Int), (parents : Int), iL w) := by
  have hl : (zbZ d).nodes.length = d.nodes.length := by simp [zbZ]
  by_cases hj : j < d.nodes.length
  · refine ⟨d.nodes[j].card, d.nodes[j].parents, d.nodes[j].w, hd.card _ (List.getElem_mem hj), ?_⟩
    rw [hl, zay, decide_eq_true hj, cond_true, zdw (by rw [hl]; exact hj), Option.bind_some]
    simp [zbZ, zlP]
  · refine ⟨0, 0, [], by omega, ?_⟩
    rw [hl, zay, decide_eq_false hj, cond_false]
    rfl
theorem zqO {d : DraftN} (hd : DraftOk d) {num : List Nat} {c : Nat} (hc : ziG d = c) (hp : PermOk c num) : ∀ (n j a : Nat) (ns : List NN), L1Ok num c j a ns → j ≤ c → c - j < n →
    ∃ (ns' : List NN) (a' : Nat), L1Ok num c c a' ns' ∧ zaZ (zbZ d) (iL num) n (a : Int) (j : Int) (ns.map nd) = some (ns'.map nd)
  | 0, _, _, _, _, _, h => absurd h (Nat.not_lt_zero _)
  | n + 1, j, a, ns, h1, h2, h3 => by
    have hc5 : c ≤ 5 := by rw [← hc]; exact Nat.min_le_right _ _
    unfold zaZ
    rw [zkC, hc]
    by_cases hj : j < c
    · rw [zay, decide_eq_true hj, cond_true]
      obtain ⟨card, parents, w, hcard, e⟩ := ziR hd (j := j)
      rw [e, Option.bind_some]
      simp only []
      have hjn : j < num.length := by rw [hp.len]; exact hj
      have hv : num[j] < ns.length := by rw [h1.len]; exact hp.lt _ (List.getElem_mem hjn)
      obtain ⟨x0, hx0, hx00⟩ := h1.left j num[j] (Nat.le_refl _) (List.getElem?_eq_getElem hjn)
      have hx1 : ns[num[j]] = x0 := by rw [List.getElem?_eq_getElem hv] at hx0; exact Option.some.inj hx0
      have hbare := h1.bare _ (List.getElem_mem hv)
      have hpow : 1 ≤ 2 ^ (c - 1 - j) := Nat.one_le_two_pow
      have hsplit : 2 ^ (c - j) = 2 * 2 ^ (c - 1 - j) := by rw [show c - j = (c - 1 - j) + 1 by omega, Nat.pow_succ, Nat.mul_comm]
      have hlow := h1.low
      have hle : a * 2 ^ (c - 1 - j) ≤ 100 := Nat.le_trans (Nat.mul_le_mul_left a (by omega)) hlow
      have ha : a ≤ 100 := Nat.le_trans (Nat.le_mul_of_pos_right a hpow) hle
      have step : ∀ b : Nat, 2 ≤ b → b ≤ 3 → a * b * 2 ^ (c - 1 - j) ≤ 100 → ∃ (ns' : List NN) (a' : Nat), L1Ok num c c a' ns' ∧
          ((zbn (iL num) (j : Int)).bind fun x14 => (zbn (ns.map nd) x14).bind fun x16 => (zgD (ns.map nd) x14 (S_api_Node.mk (b : Int) x16.parents x16.rows)).bind fun y18 =>
            zaZ (zbZ d) (iL num) n (w64 ((a : Int) * (b : Int))) (w64 ((j : Int) + 1)) y18) = some (ns'.map nd) := by
        intro b hb1 hb2 hb3
        have hab : a * b ≤ 100 := Nat.le_trans (Nat.le_mul_of_pos_right _ hpow) hb3
        obtain ⟨ns', a', f1, f2⟩ := zqO hd hc hp n (j + 1) (a * b) (ns.set num[j] ⟨b, ns[num[j]].ps, ns[num[j]].rows⟩) {
          len := by simpa using h1.len
          bare := fun y hy => by
            rcases List.mem_or_eq_of_mem_set hy with hy | hy
            · exact h1.bare y hy
            · subst hy; exact hbare
          prod := by
            rw [List.map_set, zjd (c := b) (by rw [List.getElem?_map, List.getElem?_eq_getElem hv, hx1]; simp [hx00]) (by omega), h1.prod]
          low := by rw [show c - (j + 1) = c - 1 - j by omega]; exact hb3
          done := fun k v hk hkv => by
            by_cases hkj : k = j
            · subst hkj
              rw [List.getElem?_eq_getElem hjn] at hkv
              have := Option.some.inj hkv
              subst this
              exact ⟨_, List.getElem?_set_self hv, hb1, hb2⟩
            · obtain ⟨x, g1, g2⟩ := h1.done k v (by omega) hkv
              refine ⟨x, ?_, g2⟩
              rw [List.getElem?_set_ne, g1]
              intro hh
              have hk' := (List.getElem?_eq_some_iff.1 hkv)
              have hkl : k < num.length := hk'.1
              exact List.pairwise_iff_getElem.1 hp.nod k j hkl hjn (by omega) (by rw [hk'.2]; exact hh.symm)
          left := fun k v hk hkv => by
            obtain ⟨x, g1, g2⟩ := h1.left k v (by omega) hkv
            refine ⟨x, ?_, g2⟩
            rw [List.getElem?_set_ne, g1]
            intro hh
            have hk' := (List.getElem?_eq_some_iff.1 hkv)
            have hkl : k < num.length := hk'.1
            exact List.pairwise_iff_getElem.1 hp.nod j k hjn hkl (by omega) (by rw [hk'.2]; exact hh) } hj (by omega)
        refine ⟨ns', a', f1, ?_⟩
        rw [zby hjn, Option.bind_some, zcV hv, Option.bind_some, show S_api_Node.mk (b : Int) (nd ns[num[j]]).parents (nd ns[num[j]]).rows = nd ⟨b, ns[num[j]].ps, ns[num[j]].rows⟩ from rfl,
          zfp hv, Option.bind_some, ← Int.natCast_mul, zaY (by omega), zao (by omega), f2]
      have hw1 : w64 (2 + w64 ((card : Int).tmod 2)) = ((2 + card % 2 : Nat) : Int) := by
        rw [show ((card : Int).tmod 2) = ((card % 2 : Nat) : Int) from rfl, zaY (by omega), show (2 : Int) + ((card % 2 : Nat) : Int) = ((2 + card % 2 : Nat) : Int) by omega, zaY (by omega)]
      have hac : a * (2 + card % 2) ≤ 100 * 3 := Nat.mul_le_mul ha (by omega)
      have hbig : a * (2 + card % 2) * 2 ^ (c - 1 - j) ≤ 300 * 2 ^ 4 := Nat.mul_le_mul hac (Nat.pow_le_pow_right (by decide) (by omega))
      have hcc : w64 (((c : Nat) : Int) - 1) = ((c - 1 : Nat) : Int) := by rw [show ((c : Nat) : Int) - 1 = ((c - 1 : Nat) : Int) by omega, zaY (by omega)]
      have hcj : w64 (((c - 1 : Nat) : Int) - (j : Int)) = ((c - 1 - j : Nat) : Int) := by rw [show ((c - 1 : Nat) : Int) - (j : Int) = ((c - 1 - j : Nat) : Int) by omega, zaY (by omega)]
      rw [hw1, hcc, hcj, zfm (by omega), ← Int.natCast_mul, zaY (by omega), zv2 (by omega) (by omega), Option.bind_some]
      by_cases hbg : 100 < a * (2 + card % 2) * 2 ^ (c - 1 - j)
      · obtain ⟨ns', a', f1, f2⟩ := step 2 (by omega) (by omega) (by rw [Nat.mul_assoc, ← hsplit]; exact hlow)
        refine ⟨ns', a', f1, ?_⟩
        rw [show decide ((100 : Int) < ((a * (2 + card % 2) * 2 ^ (c - 1 - j) : Nat) : Int)) = true from decide_eq_true (by omega), cond_true, Option.bind_some]
        exact f2
      · obtain ⟨ns', a', f1, f2⟩ := step (2 + card % 2) (by omega) (by omega) (by omega)
        refine ⟨ns', a', f1, ?_⟩
        rw [show decide ((100 : Int) < ((a * (2 + card % 2) * 2 ^ (c - 1 - j) : Nat) : Int)) = false from decide_eq_false (by omega), cond_false, Option.bind_some]
        exact f2
    · have : j = c := by omega
      subst this
      exact ⟨ns, a, h1, by rw [zay, decide_eq_false hj, cond_false]⟩
end Go.Dc
namespace Go.Dc
open Go Go.Mx Go.Lx
structure L2Ok (num : List Nat) (g c : Nat) (cs : List Nat) (i : Nat) (ns : List NN) : Prop where
  len : ns.length = c
  cards : ns.map (·.c) = cs
  done : ∀ (k v : Nat) (x : NN), k < i → num[k]? = some v → ns[v]? = some x → NodeOk num g cs k x
  left : ∀ (k v : Nat) (x : NN), i ≤ k → num[k]? = some v → ns[v]? = some x → x.ps = [] ∧ x.rows = []
theorem zil {m : Nat} (hm : 1 ≤ m) : ∀ {xs : List Nat}, (∀ x ∈ xs, x ≤ m) → zbB xs ≤ m ^ xs.length
  | [], _ => Nat.le_refl 1
  | x :: xs, h => by
    have ih := zil hm (xs := xs) fun y hy => h y (List.mem_cons_of_mem _ hy)
    rw [List.length_cons, Nat.pow_succ, Nat.mul_comm]
    exact Nat.mul_le_mul (h x List.mem_cons_self) ih
theorem zk2 {xs : List Nat} (h : xs.Nodup) {i j v w : Nat} (hi : xs[i]? = some v) (hj : xs[j]? = some w) (hne : i ≠ j) : v ≠ w := by
  obtain ⟨h1, h2⟩ := List.getElem?_eq_some_iff.1 hi
  obtain ⟨h3, h4⟩ := List.getElem?_eq_some_iff.1 hj
  intro he
  rcases Nat.lt_or_gt_of_ne hne with hlt | hlt
  · exact List.pairwise_iff_getElem.1 h i j h1 h3 hlt (by rw [h2, h4, he])
  · exact List.pairwise_iff_getElem.1 h j i h3 h1 hlt (by rw [h2, h4, he])
theorem zrc {d : DraftN} (hd : DraftOk d) {num : List Nat} {c N : Nat} {cs : List Nat} (hc : ziG d = c) (hp : PermOk c num) (hs : ∀ x ∈ cs, 1 ≤ x ∧ x ≤ 3) (hN : 1025 ≤ N) : ∀ (n i : Nat) (ns : List NN), L2Ok num (1 + d.grain % 60) c cs i ns → i ≤ c → c - i < n →
    ∃ ns' : List NN, L2Ok num (1 + d.grain % 60) c cs c ns' ∧ za8 N (zbZ d) (iL num) n (i : Int) (ns.map nd) = some (ns'.map nd)
  | 0, _, _, _, _, h => absurd h (Nat.not_lt_zero _)
  | n + 1, i, ns, h1, h2, h3 => by
    have hc5 : c ≤ 5 := by rw [← hc]; exact Nat.min_le_right _ _
    unfold za8
    rw [zkC, hc]
    by_cases hi : i < c
    · rw [zay, decide_eq_true hi, cond_true]
      obtain ⟨card, parents, w, hcard, e⟩ := ziR hd (j := i)
      rw [e, Option.bind_some]
      simp only []
      have hin : i < num.length := by rw [hp.len]; exact hi
      have hget : num[i]? = some num[i] := List.getElem?_eq_getElem hin
      have hlen := h1.len
      have hcl : cs.length = c := by rw [← h1.cards, List.length_map, h1.len]
      have hv : num[i] < ns.length := by rw [h1.len]; exact hp.lt _ (List.getElem_mem hin)
      obtain ⟨b1, b2⟩ := h1.left i num[i] ns[num[i]] (Nat.le_refl _) hget (List.getElem?_eq_getElem hv)
      obtain ⟨qs, e2, hq⟩ := zrz (num := num) (ps8 := (parents : Int)) (i := i) (ns := ns) (v := num[i]) (by omega) (by rw [hp.len]; omega) (by omega) hp.nod hv b1
      rw [h1.len] at e2 hq
      have hg : w64 (1 + w64 ((zbZ d).grain.tmod 60)) = ((1 + d.grain % 60 : Nat) : Int) := by
        rw [show ((zbZ d).grain.tmod 60) = ((d.grain % 60 : Nat) : Int) from rfl, zaY (by omega), show (1 : Int) + ((d.grain % 60 : Nat) : Int) = ((1 + d.grain % 60 : Nat) : Int) by omega, zaY (by omega)]
      have hset : (ns.set num[i] ⟨ns[num[i]].c, qs, ns[num[i]].rows⟩)[num[i]]'(by simpa using hv) = ⟨ns[num[i]].c, qs, ns[num[i]].rows⟩ := by simp
      have hcs1 : (ns.set num[i] ⟨ns[num[i]].c, qs, ns[num[i]].rows⟩).map (·.c) = cs := by rw [zgM (x := ⟨ns[num[i]].c, qs, ns[num[i]].rows⟩) hv rfl, h1.cards]
      have hcv : 1 ≤ ns[num[i]].c ∧ ns[num[i]].c ≤ 3 := hs _ (by rw [← h1.cards]; exact List.mem_map.2 ⟨_, List.getElem_mem hv, rfl⟩)
      have hco : zcD (ns.set num[i] ⟨ns[num[i]].c, qs, ns[num[i]].rows⟩) qs = qs.map fun p => cs.getD p 0 := by unfold zcD; rw [hcs1]
      have hqs : ∀ x ∈ (qs.map fun p => cs.getD p 0), 1 ≤ x ∧ x ≤ 3 := by
        intro x hx
        obtain ⟨p, hpq, rfl⟩ := List.mem_map.1 hx
        have hpl : p < cs.length := by rw [hcl]; exact hq.lt p hpq
        refine hs _ ?_
        simp [hpl]
      have hprod : zbB (qs.map fun p => cs.getD p 0) ≤ 3 ^ 3 := by
        refine Nat.le_trans (zil (m := 3) (by omega) fun x hx => (hqs x hx).2) ?_
        rw [List.length_map]
        exact Nat.pow_le_pow_right (by decide) hq.len
      obtain ⟨rows, r1, r2⟩ := zrE (g := 1 + d.grain % 60) (N := N) (W := w) (ns := ns.set num[i] ⟨ns[num[i]].c, qs, ns[num[i]].rows⟩) (v := num[i]) (by omega) (by simp; omega) (by simpa using hv)
        (by rw [hset]; intro p hpq; rw [List.length_set, h1.len]; exact hq.lt p hpq) (by rw [hset]; have := hq.len; simp; omega) (by rw [hset]; exact hcv.1) (by rw [hset]; have := hcv.2; simp; omega)
        (by rw [hset, hco]; exact fun x hx => (hqs x hx).1) (by rw [hset, hco]; exact Nat.le_trans hprod (by decide)) (by rw [hset]; exact b2) hN
      simp only [hset, hco, List.set_set] at r1 r2
      obtain ⟨ns', f1, f2⟩ := zrc hd hc hp hs hN n (i + 1) (ns.set num[i] ⟨ns[num[i]].c, qs, rows⟩) {
        len := by simpa using h1.len
        cards := by rw [zgM (x := ⟨ns[num[i]].c, qs, rows⟩) hv rfl, h1.cards]
        done := fun k v x hk hkv hx => by
          by_cases hki : k = i
          · subst hki
            rw [hget] at hkv
            have := Option.some.inj hkv
            subst this
            rw [List.getElem?_set_self hv] at hx
            have := Option.some.inj hx
            subst this
            exact ⟨by rw [hcl]; exact hq, r1⟩
          · rw [List.getElem?_set_ne (zk2 hp.nod hget hkv (by omega))] at hx
            exact h1.done k v x (by omega) hkv hx
        left := fun k v x hk hkv hx => by
          rw [List.getElem?_set_ne (zk2 hp.nod hget hkv (by omega))] at hx
          exact h1.left k v x (by omega) hkv hx } hi (by omega)
      refine ⟨ns', f1, ?_⟩
      rw [zby hin, Option.bind_some, e2, Option.bind_some, hg, r2, Option.bind_some, zao (by omega), f2]
    · have : i = c := by omega
      subst this
      exact ⟨ns, h1, by rw [zay, decide_eq_false hi, cond_false]⟩
theorem zpo {d : DraftN} (hd : DraftOk d) {N : Nat} (hN : 1025 ≤ N) :
    ∃ (num : List Nat) (ns : List NN), NetOk num (1 + d.grain % 60) ns ∧ ns.length ≤ 5 ∧ zbz N (zbZ d) = some ⟨((1 + d.grain % 60 : Nat) : Int), ns.map nd⟩ := by
  have hc5 : ziG d ≤ 5 := Nat.min_le_right _ _
  have hc1 : 1 ≤ ziG d := by unfold ziG; omega
  obtain ⟨num, hp, e1⟩ := zrP (c := ziG d) (N := N) (os := d.order) (wh := 0) hc5 (by omega) hd.order
  have hpl := hp.len
  have h0 : ∀ v, v < ziG d → (List.replicate (ziG d) (⟨0, [], []⟩ : NN))[v]? = some ⟨0, [], []⟩ := fun v hv => by simp [hv]
  obtain ⟨ns1, a, h1, e2⟩ := zqO hd rfl hp (ziG d + 2) 0 1 (List.replicate (ziG d) ⟨0, [], []⟩) {
    len := by simp
    bare := fun x hx => by rw [(List.mem_replicate.1 hx).2]; exact ⟨rfl, rfl⟩
    prod := by
      rw [List.map_replicate]
      generalize ziG d = c
      induction c with
      | zero => rfl
      | succ c ih => rw [List.replicate_succ]; simp only [zi7, List.foldr_cons] at ih ⊢; rw [ih]; rfl
    low := by
      have : 2 ^ (ziG d - 0) ≤ 2 ^ 5 := Nat.pow_le_pow_right (by decide) (by omega)
      omega
    done := fun k v hk hkv => absurd hk (Nat.not_lt_zero _)
    left := fun k v hk hkv => ⟨_, h0 v (hp.lt v (List.mem_of_getElem? hkv)), rfl⟩ } (Nat.zero_le _) (by omega)
  have hcards : ∀ x ∈ ns1, 2 ≤ x.c ∧ x.c ≤ 3 := by
    intro x hx
    obtain ⟨v, hv⟩ := List.getElem?_of_mem hx
    have hvl : v < ziG d := by rw [← h1.len]; exact (List.getElem?_eq_some_iff.1 hv).1
    obtain ⟨k, hk⟩ := List.getElem?_of_mem (hp.all v hvl)
    obtain ⟨y, g1, g2⟩ := h1.done k v (by rw [← hpl]; exact (List.getElem?_eq_some_iff.1 hk).1) hk
    rw [hv] at g1
    have := Option.some.inj g1
    subst this
    exact g2
  have hcs : ∀ x ∈ ns1.map (·.c), 1 ≤ x ∧ x ≤ 3 := by
    intro x hx
    obtain ⟨y, hy, rfl⟩ := List.mem_map.1 hx
    have := hcards y hy
    exact ⟨by omega, this.2⟩
  obtain ⟨ns2, h2, e3⟩ := zrc hd rfl hp hcs hN (ziG d + 2) 0 ns1 ⟨h1.len, rfl, fun k v x hk => absurd hk (Nat.not_lt_zero _), fun k v x hk hkv hx => h1.bare x (List.mem_of_getElem? hx)⟩ (Nat.zero_le _) (by omega)
  have hl2 := h2.len
  have hlow := h1.low
  refine ⟨num, ns2, ⟨by omega, by omega, by omega, by omega, ?_, ?_, by rw [h2.len]; exact hp, ?_⟩, by omega, ?_⟩
  · intro x hx
    have := hcs x.c (by rw [← h2.cards]; exact List.mem_map.2 ⟨x, hx, rfl⟩)
    omega
  · rw [h2.cards, ← zlt fun x hx => (hcs x hx).1, h1.prod]
    rw [Nat.sub_self, Nat.pow_zero] at hlow
    omega
  · intro j v x hj hx
    rw [h2.cards]
    exact h2.done j v x (by rw [← hpl]; exact (List.getElem?_eq_some_iff.1 hj).1) hj hx
  · have hg : w64 (1 + w64 ((zbZ d).grain.tmod 60)) = ((1 + d.grain % 60 : Nat) : Int) := by
      rw [show ((zbZ d).grain.tmod 60) = ((d.grain % 60 : Nat) : Int) from rfl, zaY (by omega), show (1 : Int) + ((d.grain % 60 : Nat) : Int) = ((1 + d.grain % 60 : Nat) : Int) by omega, zaY (by omega)]
    have hz : List.replicate (ziG d) (S_api_Node.mk 0 [] []) = (List.replicate (ziG d) (⟨0, [], []⟩ : NN)).map nd := by rw [List.map_replicate]; rfl
    have e2' := e2
    have e3' := e3
    rw [show ((0 : Nat) : Int) = 0 from rfl] at e2' e3'
    rw [show ((1 : Nat) : Int) = 1 from rfl] at e2'
    unfold zbz
    rw [zkC, zfD (by omega), Option.bind_some, zfD (by omega), Option.bind_some, show (zbZ d).order = iL d.order from rfl, e1, Option.bind_some, zba, hz, e2', Option.bind_some, e3', Option.bind_some, hg]
end Go.Dc
namespace Go.Dc
open Go Go.Mx Go.Lx
def zcw (xs : List Nat) : Nat := xs.foldl (fun m p => m ||| 2 ^ p) 0
theorem zpD (xs : List Nat) (p : Nat) : zcw (xs ++ [p]) = zcw xs ||| 2 ^ p := by simp [zcw]
theorem zjF : ∀ (xs : List Nat) (m i : Nat), (xs.foldl (fun m p => m ||| 2 ^ p) m).testBit i = (m.testBit i || decide (i ∈ xs))
  | [], m, i => by simp
  | x :: xs, m, i => by
    rw [List.foldl_cons, zjF xs, Nat.testBit_or, Nat.testBit_two_pow, Bool.or_assoc]
    congr 1
    by_cases h : x = i
    · simp [h]
    · simp [h, show ¬ i = x from fun q => h q.symm]
theorem zda (xs : List Nat) (i : Nat) : (zcw xs).testBit i = decide (i ∈ xs) := by
  unfold zcw; rw [zjF]; simp
theorem zlG : ∀ (xs : List Nat) (m : Nat), m < 18446744073709551616 → (∀ x ∈ xs, x < 64) → xs.foldl (fun m p => m ||| 2 ^ p) m < 18446744073709551616
  | [], m, h, _ => h
  | x :: xs, m, h, hx => zlG xs _ (Nat.or_lt_two_pow (n := 64) h (Nat.pow_lt_pow_right (by decide) (hx x List.mem_cons_self))) fun y hy => hx y (List.mem_cons_of_mem _ hy)
theorem zee {xs : List Nat} (h : ∀ x ∈ xs, x < 64) : zcw xs < 18446744073709551616 := zlG xs 0 (by decide) h
def Sub (a b : Nat) : Prop := ∀ i, a.testBit i = true → b.testBit i = true
theorem znj {a b : Nat} (ha : a < 18446744073709551616) (hb : b < 18446744073709551616) : diff a b = 0 ↔ Sub a b := by
  constructor
  · intro h i hi
    have := zfU (i := i) ha hb
    rw [h, hi] at this
    simpa using this
  · intro h
    apply Nat.eq_of_testBit_eq
    intro i
    rw [zfU ha hb, Nat.zero_testBit]
    cases hi : a.testBit i with
    | false => rfl
    | true => rw [h i hi]; rfl
theorem zjt {cs ps : List Nat} {nodes : S_api_Net} {sets order : List Int} {x : S_api_Node} (hx : x.parents = iL ps) (hp : Pl cs.length ps) (hl : ps.length ≤ 8) (hc : ∀ p ∈ ps, 1 ≤ cs.getD p 0) : ∀ (n i a : Nat), i ≤ ps.length →
    a * zbB ((ps.drop i).map fun p => cs.getD p 0) ≤ 65536 → ps.length - i < n →
    zaH x ⟨nodes, iL cs, sets, order⟩ n (a : Int) (i : Int) = some ((a * zbB ((ps.drop i).map fun p => cs.getD p 0) : Nat) : Int)
  | 0, _, _, _, _, h => absurd h (Nat.not_lt_zero _)
  | n + 1, i, a, h1, h2, h3 => by
    unfold zaH
    rw [hx, zaL]
    by_cases hi : i < ps.length
    · have e2 : a * zbB ((ps.drop i).map fun p => cs.getD p 0) = a * cs.getD ps[i] 0 * zbB ((ps.drop (i + 1)).map fun p => cs.getD p 0) := by
        rw [List.drop_eq_getElem_cons hi]; exact (Nat.mul_assoc _ _ _).symm
      rw [e2] at h2
      have hb : ps[i] < cs.length := hp _ (List.getElem_mem hi)
      have hq : 1 ≤ zbB ((ps.drop (i + 1)).map fun p => cs.getD p 0) := zgE fun x hx => by
        obtain ⟨p, hp1, rfl⟩ := List.mem_map.1 hx
        exact hc p (List.mem_of_mem_drop hp1)
      have hle : a * cs.getD ps[i] 0 ≤ 65536 := Nat.le_trans (Nat.le_mul_of_pos_right _ hq) h2
      have he : cs[ps[i]] = cs.getD ps[i] 0 := by simp [hb]
      rw [zay, decide_eq_true hi, cond_true, zby hi, Option.bind_some, zby hb, Option.bind_some, he, ← Int.natCast_mul, zaY (by omega), zao (by omega),
        zjt hx hp hl hc n (i + 1) _ hi h2 (by omega), e2]
    · rw [zay, decide_eq_false hi, cond_false, List.drop_eq_nil_of_le (by omega)]
      simp [zbB]
theorem ziI {y : Int × List Int} {zs : List Nat} (hy : y.2 = iL zs) (hl : zs.length ≤ 8) : ∀ (n i r : Nat), i ≤ zs.length → (zs.drop i).sum ≤ r → r ≤ 65536 → zs.length - i < n →
    zaG y n (r : Int) (i : Int) = some (.go ((r - (zs.drop i).sum : Nat) : Int))
  | 0, _, _, _, _, _, h => absurd h (Nat.not_lt_zero _)
  | n + 1, i, r, h1, h2, hr, h3 => by
    unfold zaG
    rw [hy, zaL]
    by_cases hi : i < zs.length
    · have e : (zs.drop i).sum = zs[i] + (zs.drop (i + 1)).sum := by rw [List.drop_eq_getElem_cons hi, List.sum_cons]
      rw [e] at h2
      rw [zay, decide_eq_true hi, cond_true, zby hi, Option.bind_some, show decide (((zs[i] : Nat) : Int) < 0) = false from decide_eq_false (by omega), cond_false, Option.bind_some,
        show decide ((r : Int) < ((zs[i] : Nat) : Int)) = false from decide_eq_false (by omega), cond_false, show ((r : Int) - ((zs[i] : Nat) : Int)) = ((r - zs[i] : Nat) : Int) by omega, zaY (by omega), zao (by omega),
        ziI hy hl n (i + 1) _ hi (by omega) (by omega) (by omega), e, Nat.sub_sub]
    · rw [zay, decide_eq_false hi, cond_false, List.drop_eq_nil_of_le (by omega)]
      simp
theorem zjs {g c : Nat} {nw : S_net_network} {x : S_api_Node} (hg : nw.net.grain = (g : Int)) (hg2 : g ≤ 60) (hc : x.card = (c : Int)) (hc8 : c ≤ 8) : ∀ (L : List (Int × List Int)), (∀ y ∈ L, ∃ zs : List Nat, y.2 = iL zs ∧ zs.length = c ∧ zs.sum = g) →
    zaz nw x L = some (.go ())
  | [], _ => rfl
  | y :: L, h => by
    obtain ⟨zs, h1, h2, h3⟩ := h y List.mem_cons_self
    unfold zaz
    have e := ziI h1 (by omega) (zs.length + 2) 0 g (Nat.zero_le _) (by rw [List.drop_zero]; omega) (by omega) (by omega)
    rw [List.drop_zero, h3, Nat.sub_self, show ((0 : Nat) : Int) = 0 from rfl] at e
    rw [hg, h1, zaL, zba, e, Option.bind_some]
    simp only []
    rw [hc, h2, show ((c : Int) == (c : Int)) = true by simp, cond_true, Option.bind_some, show (!((0 : Int) == 0)) = false from rfl, cond_false]
    exact zjs hg hg2 hc hc8 L fun y hy => h y (List.mem_cons_of_mem _ hy)
theorem znJ {g : Nat} {cs : List Nat} {nodes : List S_api_Node} {sets order : List Int} {x : NN} (hg2 : g ≤ 60) (hp : Pl cs.length x.ps) (hl : x.ps.length ≤ 8) (hc : ∀ p ∈ x.ps, 1 ≤ cs.getD p 0) (hc8 : x.c ≤ 8)
    (hm : zbB (x.ps.map fun p => cs.getD p 0) ≤ 65536) (hr : RowsOk g x.c (zbB (x.ps.map fun p => cs.getD p 0)) x.rows) : za0 ⟨⟨(g : Int), nodes⟩, iL cs, sets, order⟩ (nd x) = some true := by
  unfold za0
  have e := zjt (x := nd x) (nodes := ⟨(g : Int), nodes⟩) (sets := sets) (order := order) rfl hp hl hc (x.ps.length + 2) 0 1 (Nat.zero_le _) (by simpa using hm) (by omega)
  rw [show ((0 : Nat) : Int) = 0 from rfl, show ((1 : Nat) : Int) = 1 from rfl, List.drop_zero, Nat.one_mul] at e
  have hrl : (nd x).rows.length = x.rows.length := by simp [nd]
  rw [show (nd x).parents = iL x.ps from rfl, zaL, zba, e, Option.bind_some, hrl, hr.len, show (((zbB (x.ps.map fun p => cs.getD p 0) : Nat) : Int) == ((zbB (x.ps.map fun p => cs.getD p 0) : Nat) : Int)) = true by simp, cond_true]
  unfold zfG
  rw [Option.bind_some]
  have hs : zhB (nd x).rows = some () := by
    unfold zhB
    rw [if_pos (by rw [hrl, hr.len]; omega)]
  rw [hs, Option.bind_some, zjs (g := g) (c := x.c) rfl hg2 rfl hc8, Option.bind_some]
  intro y hy
  unfold zrk at hy
  obtain ⟨q, hq, rfl⟩ := List.mem_map.1 hy
  have hq1 : q.1 ∈ (nd x).rows := by
    have := List.mem_zipIdx' hq
    rw [this.2]; exact List.getElem_mem _
  obtain ⟨zs, hz, hz2⟩ := List.mem_map.1 hq1
  exact ⟨zs, hz2.symm, hr.row zs hz⟩
end Go.Dc
namespace Go.Dc
open Go Go.Mx Go.Lx
def zdD (g : Nat) (ns : List NN) : S_api_Net := ⟨(g : Int), ns.map nd⟩
theorem zoU {g P : Nat} {ns : List NN} (hn : ns.length ≤ 8) (hc : ∀ x ∈ ns, 1 ≤ x.c ∧ x.c ≤ 4) (hP : P ≤ 65536) : ∀ (n : Nat) (xs ys : List NN) (a : Nat), xs ++ ys = ns → a * zbB (ys.map (·.c)) = P → ys.length < n →
    zbV (zdD g ns) n (a : Int) (xs.length : Int) (iL (xs.map (·.c) ++ List.replicate ys.length 0)) = some (.go ((P : Int), iL (ns.map (·.c))))
  | 0, _, _, _, _, _, h => absurd h (Nat.not_lt_zero _)
  | n + 1, xs, [], a, h1, h2, h3 => by
    unfold zbV
    rw [List.append_nil] at h1
    subst h1
    have : a = P := by rw [← h2]; simp [zbB]
    subst this
    rw [show (zdD g xs).nodes.length = xs.length by simp [zdD], zay, decide_eq_false (by omega), cond_false]
    simp
  | n + 1, xs, y :: ys, a, h1, h2, h3 => by
    unfold zbV
    have hl : (zdD g ns).nodes.length = ns.length := by simp [zdD]
    have hxn : xs.length < ns.length := by rw [← h1]; simp
    have hy : ns[xs.length] = y := by subst h1; simp
    have hyc := hc y (by rw [← h1]; simp)
    have e2 : a * y.c * zbB (ys.map (·.c)) = P := by rw [← h2]; exact Nat.mul_assoc _ _ _
    have hq : 1 ≤ zbB (ys.map (·.c)) := zgE fun c hcm => by
      obtain ⟨z, hz, rfl⟩ := List.mem_map.1 hcm
      exact (hc z (by rw [← h1]; simp [hz])).1
    have hle : a * y.c ≤ P := by rw [← e2]; exact Nat.le_mul_of_pos_right _ hq
    have ih := zoU hn hc hP (g := g) n (xs ++ [y]) ys (a * y.c) (by rw [← h1]; simp) e2 (by simp at h3; omega)
    rw [hl, zay, decide_eq_true hxn, cond_true, show zbn (zdD g ns).nodes (xs.length : Int) = some (nd y) by rw [← hy]; exact zcV hxn, Option.bind_some,
      show (nd y).card = (y.c : Int) from rfl, show decide ((y.c : Int) < 1) = false from decide_eq_false (by omega), cond_false, Option.bind_some, show decide ((4 : Int) < (y.c : Int)) = false from decide_eq_false (by omega), cond_false]
    have hxl : ((xs.length : Nat) : Int) = (((xs.map (·.c)).length : Nat) : Int) := by simp
    rw [List.length_cons, List.replicate_succ, hxl, zdc, Option.bind_some, zfX, Option.bind_some, ← Int.natCast_mul, zaY (by omega), zao (by simp; omega), ← ih]
    simp
theorem zmO {g v : Nat} {ns : List NN} {x : S_api_Node} {ps xs ys : List Nat} (hx : x.parents = iL ps) (hn : ns.length ≤ 8) (hv : xs.length = v) (hp : ∀ p ∈ ps, p < ns.length ∧ p ≠ v) (hinc : ps.Pairwise (· < ·)) : ∀ (n i : Nat) (m : Nat) (lo : Int), i ≤ ps.length → m < 18446744073709551616 →
    (∀ p ∈ ps.drop i, lo < (p : Int)) → ps.length - i < n →
    zck x (zdD g ns) (v : Int) n lo (i : Int) (iL (xs ++ m :: ys)) = some (.go (iL (xs ++ ((ps.drop i).foldl (fun m p => m ||| 2 ^ p) m) :: ys)))
  | 0, _, _, _, _, _, _, h => absurd h (Nat.not_lt_zero _)
  | n + 1, i, m, lo, h1, h2, h4, h3 => by
    have hps : ps.length ≤ 9223372036854775806 ∨ True := .inr trivial
    unfold zck
    have hl : (zdD g ns).nodes.length = ns.length := by simp [zdD]
    rw [hx, zaL, hl]
    by_cases hi : i < ps.length
    · have hd : ps.drop i = ps[i] :: ps.drop (i + 1) := List.drop_eq_getElem_cons hi
      obtain ⟨hp1, hp2⟩ := hp _ (List.getElem_mem hi)
      have hlo := h4 ps[i] (by rw [hd]; exact List.mem_cons_self)
      have hsm : i ≤ ps[i] := by
        have : ∀ (j : Nat) (hj : j < ps.length), j ≤ ps[j] := by
          intro j
          induction j with
          | zero => intro hj; exact Nat.zero_le _
          | succ j ih =>
            intro hj
            have h6 := ih (by omega)
            have h7 := List.pairwise_iff_getElem.1 hinc j (j + 1) (by omega) hj (by omega)
            omega
        exact this i hi
      have hgt : ∀ p ∈ ps.drop (i + 1), ((ps[i] : Nat) : Int) < (p : Int) := by
        intro p hp
        obtain ⟨k, hk, rfl⟩ := List.mem_iff_getElem.1 hp
        rw [List.getElem_drop]
        have := List.pairwise_iff_getElem.1 hinc i (i + 1 + k) hi (by simp at hk; omega) (by omega)
        omega
      have hpw : 2 ^ ps[i] < 18446744073709551616 := Nat.pow_lt_pow_right (n := 64) (by decide) (by omega)
      have hm : m ||| 2 ^ ps[i] < 18446744073709551616 := Nat.or_lt_two_pow (n := 64) h2 hpw
      have ih := zmO (g := g) (ys := ys) hx hn hv hp hinc n (i + 1) (m ||| 2 ^ ps[i]) (ps[i] : Int) hi hm hgt (by omega)
      rw [zay, decide_eq_true hi, cond_true, zby hi, Option.bind_some, show decide (((ps[i] : Nat) : Int) ≤ lo) = false from decide_eq_false (by omega), cond_false,
        show decide (((ns.length : Nat) : Int) ≤ ((ps[i] : Nat) : Int)) = false from decide_eq_false (by omega), cond_false, Option.bind_some, show (((ps[i] : Nat) : Int) == (v : Int)) = false by simp; omega, cond_false,
        ← hv, zdc, Option.bind_some, zqX (by omega), Option.bind_some, orU h2 hpw, zfX, Option.bind_some, zao (by omega), hv, ih, hd, List.foldl_cons]
    · rw [zay, decide_eq_false hi, cond_false, List.drop_eq_nil_of_le (by omega)]
      rfl
theorem znv {num : List Nat} {g : Nat} {ns : List NN} (h : NetOk num g ns) : ∀ (n : Nat) (xs ys : List NN), xs ++ ys = ns → ys.length < n →
    zbW (zdD g ns) (iL (ns.map (·.c))) n (xs.length : Int) (iL (xs.map (fun x => zcw x.ps) ++ List.replicate ys.length 0)) = some (.go (iL (ns.map fun x => zcw x.ps)))
  | 0, _, _, _, h => absurd h (Nat.not_lt_zero _)
  | n + 1, xs, [], h1, h3 => by
    unfold zbW
    rw [List.append_nil] at h1
    subst h1
    rw [show (zdD g xs).nodes.length = xs.length by simp [zdD], zay, decide_eq_false (by omega), cond_false]
    simp
  | n + 1, xs, y :: ys, h1, h3 => by
    unfold zbW
    have hl : (zdD g ns).nodes.length = ns.length := by simp [zdD]
    have hxn : xs.length < ns.length := by rw [← h1]; simp
    have hn := h.n2
    have hy : ns[xs.length] = y := by subst h1; simp
    have hyg : ns[xs.length]? = some y := by rw [List.getElem?_eq_getElem hxn, hy]
    obtain ⟨j, hj⟩ := List.getElem?_of_mem (h.perm.all _ hxn)
    have hnode := h.node j _ y hj hyg
    have hcl : (ns.map (·.c)).length = ns.length := by simp
    have hlt : ∀ p ∈ y.ps, p < ns.length ∧ p ≠ xs.length := fun p hp => ⟨by rw [← hcl]; exact hnode.par.lt p hp, by
      obtain ⟨k, hk, hkp⟩ := hnode.par.mem p hp
      exact zk2 h.perm.nod hkp hj (by omega)⟩
    have hcs : ∀ p ∈ y.ps, 1 ≤ (ns.map (·.c)).getD p 0 ∧ (ns.map (·.c)).getD p 0 ≤ 4 := by
      intro p hp
      have hp1 := (hlt p hp).1
      have := h.card ns[p] (List.getElem_mem hp1)
      simpa [hp1] using this
    have hpl := hnode.par.len
    have hprod : zbB (y.ps.map fun p => (ns.map (·.c)).getD p 0) ≤ 4 ^ 3 := by
      refine Nat.le_trans (zil (m := 4) (by omega) fun x hx => ?_) ?_
      · obtain ⟨p, hp, rfl⟩ := List.mem_map.1 hx
        exact (hcs p hp).2
      · rw [List.length_map]
        exact Nat.pow_le_pow_right (by decide) hpl
    have hyc := h.card y (by rw [← h1]; simp)
    have ih := znv h n (xs ++ [y]) ys (by rw [← h1]; simp) (by simp at h3; omega)
    have e3 := zmO (g := g) (ns := ns) (x := nd y) (xs := xs.map fun x => zcw x.ps) (ys := List.replicate ys.length 0) (v := xs.length) rfl hn (by simp) hlt hnode.par.inc (y.ps.length + 2) 0 0 (-1) (Nat.zero_le _) (by decide) (fun p hp => by omega) (by omega)
    rw [show ((0 : Nat) : Int) = 0 from rfl, List.drop_zero] at e3
    have e4 := znJ (g := g) (cs := ns.map (·.c)) (nodes := ns.map nd) (sets := iL (xs.map (fun x => zcw x.ps) ++ zcw y.ps :: List.replicate ys.length 0)) (order := []) (x := y) h.g2 (by rw [hcl]; exact fun p hp => (hlt p hp).1) (by omega) (fun p hp => (hcs p hp).1) (by omega) (Nat.le_trans hprod (by decide)) hnode.rows
    rw [hl, zay, decide_eq_true hxn, cond_true, show zbn (zdD g ns).nodes (xs.length : Int) = some (nd y) by rw [← hy]; exact zcV hxn, Option.bind_some, List.length_cons, List.replicate_succ,
      show (nd y).parents.length = y.ps.length by simp [nd, zaL], zba, e3, Option.bind_some]
    simp only []
    rw [show (y.ps.foldl (fun m p => m ||| 2 ^ p) 0) = zcw y.ps from rfl]
    rw [show zdD g ns = ⟨(g : Int), ns.map nd⟩ from rfl] at ih ⊢
    rw [e4, Option.bind_some, cond_true, zao (by omega), ← ih]
    simp
end Go.Dc
namespace Go.Dc
open Go Go.Mx Go.Lx
def ziU (ms : List Nat) (mask v : Nat) : Prop := mask.testBit v = false ∧ Sub (ms.getD v 0) mask
structure First (ms : List Nat) (mask v : Nat) : Prop where
  lt : v < ms.length
  ready : ziU ms mask v
  least : ∀ u, u < v → ¬ ziU ms mask u
def zdo (ms os : List Nat) : Prop := ∀ k v, os[k]? = some v → First ms (zcw (os.take k)) v
theorem zdo.app {ms os : List Nat} {v : Nat} (h : zdo ms os) (hv : First ms (zcw os) v) : zdo ms (os ++ [v]) := by
  intro k u hk
  by_cases hl : k < os.length
  · rw [List.getElem?_append_left hl] at hk
    rw [List.take_append_of_le_length (by omega)]
    exact h k u hk
  · have hk2 : k = os.length := by
      have := (List.getElem?_eq_some_iff.1 hk).1
      simp at this
      omega
    subst hk2
    have hu : u = v := by simpa using hk.symm
    subst hu
    simpa using hv
theorem zdo.nod {ms os : List Nat} (h : zdo ms os) : os.Nodup := by
  rw [List.Nodup, List.pairwise_iff_getElem]
  intro i j hi hj hij he
  have h1 := (h j os[j] (List.getElem?_eq_getElem hj)).ready.1
  rw [zda] at h1
  have : os[j] ∈ os.take j := by
    rw [← he]
    exact List.mem_take_iff_getElem.2 ⟨i, by omega, rfl⟩
  simp [this] at h1
theorem zdo.lt {ms os : List Nat} (h : zdo ms os) : ∀ x ∈ os, x < ms.length := by
  intro x hx
  obtain ⟨k, hk⟩ := List.getElem?_of_mem hx
  exact (h k x hk).lt
theorem zq4 : ∀ {xs ys : List Nat}, xs.Nodup → (∀ x ∈ xs, x ∈ ys) → xs.length ≤ ys.length
  | [], _, _, _ => Nat.zero_le _
  | x :: xs, ys, h, hs => by
    obtain ⟨h1, h2⟩ := List.nodup_cons.1 h
    have hx := hs x List.mem_cons_self
    have ih := zq4 (xs := xs) (ys := ys.erase x) h2 fun y hy => (List.mem_erase_of_ne (fun q : y = x => h1 (by rw [← q]; exact hy))).2 (hs y (List.mem_cons_of_mem _ hy))
    rw [List.length_erase_of_mem hx] at ih
    have := List.length_pos_of_mem hx
    simp only [List.length_cons]
    omega
theorem zpt {ms : List Nat} {mask : Nat} : ∀ v, v < ms.length → ziU ms mask v → ∃ u, First ms mask u := by
  intro v
  induction v using Nat.strongRecOn with
  | ind v ih =>
    intro hv hr
    by_cases h : ∃ u, u < v ∧ ziU ms mask u
    · obtain ⟨u, hu, hur⟩ := h
      exact ih u hu (by omega) hur
    · exact ⟨v, hv, hr, fun u hu hur => h ⟨u, hu, hur⟩⟩
def zai (ns : List NN) : List Nat := ns.map fun x => zcw x.ps
theorem NetOk.zrn {num : List Nat} {g : Nat} {ns : List NN} (h : NetOk num g ns) {x : NN} (hx : x ∈ ns) : ∀ p ∈ x.ps, p < ns.length := by
  intro p hp
  obtain ⟨v, hv⟩ := List.getElem?_of_mem hx
  obtain ⟨j, hj⟩ := List.getElem?_of_mem (h.perm.all v (List.getElem?_eq_some_iff.1 hv).1)
  have := (h.node j v x hj hv).par.lt p hp
  simpa using this
theorem NetOk.zee {num : List Nat} {g : Nat} {ns : List NN} (h : NetOk num g ns) : ∀ m ∈ zai ns, m < 18446744073709551616 := by
  intro m hm
  obtain ⟨x, hx, rfl⟩ := List.mem_map.1 hm
  refine Go.Dc.zee fun p hp => ?_
  have := h.zrn hx p hp
  have := h.n2
  omega
theorem NetOk.ready {num : List Nat} {g : Nat} {ns : List NN} (h : NetOk num g ns) (os : List Nat) : ∀ (j v : Nat), num[j]? = some v → v ∉ os → ∃ u, u < ns.length ∧ ziU (zai ns) (zcw os) u := by
  intro j
  induction j using Nat.strongRecOn with
  | ind j ih =>
    intro v hj hv
    have hvl : v < ns.length := h.perm.lt v (List.mem_of_getElem? hj)
    have hnode := h.node j v ns[v] hj (List.getElem?_eq_getElem hvl)
    by_cases hp : ∃ p, p ∈ ns[v].ps ∧ p ∉ os
    · obtain ⟨p, hp1, hp2⟩ := hp
      obtain ⟨k, hk, hkp⟩ := hnode.par.mem p hp1
      exact ih k hk p hkp hp2
    · refine ⟨v, hvl, by rw [zda]; simp [hv], fun i hi => ?_⟩
      rw [show (zai ns).getD v 0 = zcw ns[v].ps by simp [zai, hvl], zda] at hi
      rw [zda]
      have hi2 := of_decide_eq_true hi
      refine decide_eq_true ?_
      exact Classical.byContradiction fun hno => hp ⟨i, hi2, hno⟩
theorem NetOk.next {num : List Nat} {g : Nat} {ns : List NN} (h : NetOk num g ns) {os : List Nat} (hl : os.length < ns.length) : ∃ v, First (zai ns) (zcw os) v := by
  by_cases hs : ∀ x ∈ num, x ∈ os
  · have := zq4 h.perm.nod hs
    rw [h.perm.len] at this
    omega
  · have : ∃ x, x ∈ num ∧ x ∉ os := Classical.byContradiction fun hno => hs fun x hx => Classical.byContradiction fun hx2 => hno ⟨x, hx, hx2⟩
    obtain ⟨x, hx, hxo⟩ := this
    obtain ⟨j, hj⟩ := List.getElem?_of_mem hx
    obtain ⟨u, hu, hr⟩ := h.ready os j x hj hxo
    exact zpt u (by simpa [zai] using hu) hr
theorem znq {ms : List Nat} {mask i : Nat} {β : Type} (hm : ∀ m ∈ ms, m < 18446744073709551616) (hk : mask < 18446744073709551616) (hi : i < ms.length) (h64 : i < 64) (l : β) :
    ∃ b : Bool, (b = true ↔ ziU ms mask i) ∧ ((zc7 .u64 (mask : Int) (i : Int)).bind fun q7 => bif ((zbM .u64 q7 1) == 0) then some (((zsr .u64 ((ms[i] : Nat) : Int) (mask : Int)) == 0), l) else some (false, l)) = some (b, l) ∧
      ((zc7 .u64 (mask : Int) (i : Int)).bind fun q7 => bif ((zbM .u64 q7 1) == 0) then some ((zsr .u64 ((ms[i] : Nat) : Int) (mask : Int)) == 0) else some false) = some b := by
  obtain ⟨q, h1, h2⟩ := znG (a := mask) (v := i) hk h64
  have hmi := hm _ (List.getElem_mem hi)
  have hg : ms.getD i 0 = ms[i] := by simp [hi]
  simp only [h1, Option.bind_some, h2, zuY]
  cases hb : mask.testBit i with
  | true => exact ⟨false, by simp [ziU, hb], rfl, rfl⟩
  | false =>
    refine ⟨(((diff ms[i] mask : Nat) : Int) == 0), ?_, rfl, rfl⟩
    rw [ziU, hb, hg, ← znj hmi hk]
    simp
theorem zjo {ms os : List Nat} {mask C v : Nat} (hn : ms.length ≤ 8) (hm : ∀ m ∈ ms, m < 18446744073709551616) (hk : mask < 18446744073709551616) (hC : os.length + 1 ≤ C) (hv : First ms mask v) : ∀ (n i : Nat), i ≤ v → v - i < n →
    zbG (iL ms) (mask : Int) C n (i : Int) (iL os) = some (.brk (((mask ||| 2 ^ v : Nat) : Int), iL (os ++ [v])))
  | 0, _, _, h => absurd h (Nat.not_lt_zero _)
  | n + 1, i, h1, h3 => by
    unfold zbG
    have hvl := hv.lt
    have hi : i < ms.length := by omega
    obtain ⟨b, hb, e, _⟩ := znq hm hk hi (by omega) (iL os)
    rw [zaL, zay, decide_eq_true hi, cond_true, zby hi, Option.bind_some, e, Option.bind_some]
    simp only []
    by_cases hiv : i = v
    · subst hiv
      have hpw : 2 ^ i < 18446744073709551616 := Nat.pow_lt_pow_right (n := 64) (by decide) (by omega)
      rw [hb.2 hv.ready, cond_true]
      unfold zkh
      rw [if_pos (by simp [zaL]; omega), Option.bind_some, zqX (by omega), Option.bind_some, orU hk hpw]
      simp [iL]
    · have : b = false := by
        cases b with
        | false => rfl
        | true => exact absurd (hb.1 rfl) (hv.least i (by omega))
      rw [this, cond_false, zao (by omega), zjo hn hm hk hC hv n (i + 1) (by omega) (by omega)]
theorem ziH {num : List Nat} {g : Nat} {ns : List NN} (h : NetOk num g ns) : ∀ (n : Nat) (os : List Nat), zdo (zai ns) os → os.length ≤ ns.length → ns.length - os.length < n →
    ∃ os', zdo (zai ns) os' ∧ os'.length = ns.length ∧ zbC (iL (zai ns)) ns.length n ((zcw os : Nat) : Int) (iL os) = some (.go (iL os'))
  | 0, _, _, _, h => absurd h (Nat.not_lt_zero _)
  | n + 1, os, h1, h2, h3 => by
    unfold zbC
    have hml : (zai ns).length = ns.length := by simp [zai]
    have hn := h.n2
    rw [zaL, zaL, hml, zay]
    by_cases hl : os.length < ns.length
    · obtain ⟨v, hv⟩ := h.next hl
      have hvl := hv.lt
      have hk : zcw os < 18446744073709551616 := Go.Dc.zee fun x hx => by
        have := h1.lt x hx
        omega
      have e := zjo (os := os) (C := ns.length) (by omega) h.zee hk (by omega) hv (ns.length + 2) 0 (Nat.zero_le _) (by omega)
      rw [show ((0 : Nat) : Int) = 0 from rfl] at e
      obtain ⟨os', g1, g2, g3⟩ := ziH h n (os ++ [v]) (h1.app hv) (by simp; omega) (by simp; omega)
      refine ⟨os', g1, g2, ?_⟩
      rw [decide_eq_true hl, cond_true, zba, e, Option.bind_some]
      simp only []
      rw [← zpD, g3]
    · exact ⟨os, h1, by omega, by rw [decide_eq_false hl, cond_false]⟩
theorem znW {num : List Nat} {g : Nat} {ns : List NN} (h : NetOk num g ns) :
    ∃ os, zdo (zai ns) os ∧ os.length = ns.length ∧ zcv (iL (zai ns)) = some (iL os, true) := by
  have hml : (zai ns).length = ns.length := by simp [zai]
  have hn := h.n2
  obtain ⟨os, g1, g2, g3⟩ := ziH h (ns.length + 2) [] (fun k v hk => by simp at hk) (Nat.zero_le _) (by simp)
  refine ⟨os, g1, g2, ?_⟩
  unfold zcv
  rw [zaL, hml]
  have hcap : zsC 8 ((ns.length : Nat) : Int) = some ns.length := by
    unfold zsC
    rw [if_pos ⟨Int.natCast_nonneg _, by simp only [zal]; omega⟩, Int.toNat_natCast]
  rw [hcap, Option.bind_some, show (((ns.length : Nat) : Int) - ((([] : List Int).length : Nat) : Int) + 2).toNat = ns.length + 2 by simp; omega]
  rw [show ((zcw [] : Nat) : Int) = 0 from rfl, show iL [] = [] from rfl] at g3
  rw [g3, Option.bind_some]
theorem ziu {num : List Nat} {g : Nat} {ns : List NN} (h : NetOk num g ns) :
    ∃ os, zdo (zai ns) os ∧ os.length = ns.length ∧ zbE (zdD g ns) = some (⟨zdD g ns, iL (ns.map (·.c)), iL (zai ns), iL os⟩, 0) := by
  obtain ⟨os, g1, g2, g3⟩ := znW h
  refine ⟨os, g1, g2, ?_⟩
  have h1 := h.g1
  have h2 := h.g2
  have h3 := h.n1
  have h4 := h.n2
  have hl : (zdD g ns).nodes.length = ns.length := by simp [zdD]
  have hp := h.prod
  have e1 := zoU (g := g) (P := zbB (ns.map (·.c))) h.n2 h.card (by omega) (ns.length + 2) [] ns 1 rfl (Nat.one_mul _) (by omega)
  have e2 := znv h (ns.length + 2) [] ns rfl (by omega)
  simp only [List.map_nil, List.nil_append, List.length_nil] at e1 e2
  rw [show ((0 : Nat) : Int) = 0 from rfl] at e1 e2
  rw [show ((1 : Nat) : Int) = 1 from rfl] at e1
  have hz : List.replicate ns.length (0 : Int) = iL (List.replicate ns.length 0) := by simp [iL]
  unfold zbE
  rw [hl, show (zdD g ns).grain = (g : Int) from rfl, show decide ((g : Int) < 1) = false from decide_eq_false (by omega), cond_false, show decide ((60 : Int) < (g : Int)) = false from decide_eq_false (by omega), cond_false,
    show decide (((ns.length : Nat) : Int) < 1) = false from decide_eq_false (by omega), cond_false, Option.bind_some, show decide ((8 : Int) < ((ns.length : Nat) : Int)) = false from decide_eq_false (by omega), cond_false,
    zfD (by omega), Option.bind_some, Option.bind_some, zba, hz, e1, Option.bind_some]
  simp only []
  rw [show decide ((1024 : Int) < ((zbB (ns.map (·.c)) : Nat) : Int)) = false from decide_eq_false (by omega), cond_false, e2, Option.bind_some]
  simp only []
  rw [show (ns.map fun x => zcw x.ps) = zai ns from rfl, g3, Option.bind_some]
  simp only []
  rw [cond_true]
end Go.Dc
namespace Go.Dc
open Go Go.Mx Go.Lx
inductive Reach (ms : List Nat) : Nat → Nat → Prop
  | refl (i : Nat) : Reach ms i i
  | step {s p i : Nat} : (ms.getD s 0).testBit p = true → Reach ms p i → Reach ms s i
structure GOk (ms : List Nat) (rk : Nat → Nat) : Prop where
  len : ms.length ≤ 8
  lt : ∀ m ∈ ms, m < 18446744073709551616
  down : ∀ v p, (ms.getD v 0).testBit p = true → p < ms.length ∧ rk p < rk v
structure VOk (ms : List Nat) (set r0 r : Nat) : Prop where
  lt : r < 18446744073709551616
  zdx : Sub r0 r
  has : Sub set r
  clo : ∀ i, r.testBit i = true → r0.testBit i = false → Sub (ms.getD i 0) r
  reach : ∀ i, r.testBit i = true → r0.testBit i = true ∨ ∃ s, set.testBit s = true ∧ Reach ms s i
theorem zhH {a v i : Nat} : (a ||| 2 ^ v).testBit i = (a.testBit i || decide (v = i)) := by
  rw [Nat.testBit_or, Nat.testBit_two_pow]
theorem zfC {ms : List Nat} {rk : Nat → Nat} (hg : GOk ms rk) {again : Int → Int → Option Int} {set r0 : Nat} (hset : set < 18446744073709551616) (hin : ∀ s, set.testBit s = true → s < ms.length)
    (ha : ∀ (v : Nat) (r : Nat), set.testBit v = true → r < 18446744073709551616 → ∃ r2 : Nat, again ((ms.getD v 0 : Nat) : Int) (r : Int) = some (r2 : Int) ∧ VOk ms (ms.getD v 0) r r2) : ∀ (n v r : Nat), r < 18446744073709551616 → Sub r0 r →
    (∀ s, s < v → set.testBit s = true → r.testBit s = true) → (∀ i, r.testBit i = true → r0.testBit i = false → Sub (ms.getD i 0) r) →
    (∀ i, r.testBit i = true → r0.testBit i = true ∨ ∃ s, set.testBit s = true ∧ Reach ms s i) → ms.length - v < n → v ≤ ms.length →
    ∃ r' : Nat, zeN (iL ms) again (set : Int) n (v : Int) (r : Int) = some (r' : Int) ∧ VOk ms set r0 r'
  | 0, _, _, _, _, _, _, _, h, _ => absurd h (Nat.not_lt_zero _)
  | n + 1, v, r, h1, h2, h3, h4, h5, h6, h7 => by
    have hlen := hg.len
    unfold zeN
    rw [zaL, zay]
    by_cases hv : v < ms.length
    · obtain ⟨q, q1, q2⟩ := znG (a := diff set r) (v := v) (zit _ _) (by omega)
      rw [decide_eq_true hv, cond_true, zuY, q1, Option.bind_some, q2, zfU hset h1]
      have hpw : 2 ^ v < 18446744073709551616 := Nat.pow_lt_pow_right (n := 64) (by decide) (by omega)
      by_cases hb : (set.testBit v && !r.testBit v) = true
      · have hb1 : set.testBit v = true ∧ r.testBit v = false := by simpa using hb
        obtain ⟨r2, e, hr2⟩ := ha v (r ||| 2 ^ v) hb1.1 (Nat.or_lt_two_pow (n := 64) h1 hpw)
        have hk : Sub r r2 := fun i hi => hr2.zdx i (by rw [zhH, hi]; rfl)
        have hvr : r2.testBit v = true := hr2.zdx v (by rw [zhH]; simp)
        obtain ⟨r', f1, f2⟩ := zfC hg hset hin ha (r0 := r0) n (v + 1) r2 hr2.lt (fun i hi => hk i (h2 i hi))
          (fun s hs hss => by
            by_cases hsv : s = v
            · subst hsv; exact hvr
            · exact hk s (h3 s (by omega) hss))
          (fun i hi hi0 => by
            by_cases hri : r.testBit i = true
            · exact fun p hp => hk p (h4 i hri hi0 p hp)
            · by_cases hiv : v = i
              · subst hiv; exact hr2.has
              · exact hr2.clo i hi (by rw [zhH]; simp [hri, hiv]))
          (fun i hi => by
            rcases hr2.reach i hi with h | ⟨s, hs, hr⟩
            · rw [zhH] at h
              rcases Bool.or_eq_true_iff.1 h with h | h
              · exact h5 i h
              · have := of_decide_eq_true h
                subst this
                exact .inr ⟨v, hb1.1, .refl v⟩
            · exact .inr ⟨v, hb1.1, .step hs hr⟩) (by omega) hv
        refine ⟨r', ?_, f2⟩
        rw [hb, show ((((true : Bool).toNat : Nat) : Int) == 1) = true from rfl, cond_true, zqX (by omega), Option.bind_some, zby hv, Option.bind_some, orU h1 hpw,
          show ms[v] = ms.getD v 0 by simp [hv], e, Option.bind_some, zao (by omega), f1]
      · have hb' : (set.testBit v && !r.testBit v) = false := by simpa using hb
        obtain ⟨r', f1, f2⟩ := zfC hg hset hin ha (r0 := r0) n (v + 1) r h1 h2
          (fun s hs hss => by
            by_cases hsv : s = v
            · subst hsv
              cases hr : r.testBit s with
              | true => rfl
              | false => rw [hss, hr] at hb'; cases hb'
            · exact h3 s (by omega) hss) h4 h5 (by omega) hv
        refine ⟨r', ?_, f2⟩
        rw [hb', show ((((false : Bool).toNat : Nat) : Int) == 1) = false from rfl, cond_false, zao (by omega), f1]
    · refine ⟨r, by rw [decide_eq_false hv, cond_false], h1, h2, fun s hs => h3 s (by have := hin s hs; omega) hs, h4, h5⟩
theorem zgp {ms : List Nat} {rk : Nat → Nat} (hg : GOk ms rk) : ∀ (N set r : Nat), set < 18446744073709551616 → r < 18446744073709551616 → 1 ≤ N → (∀ s, set.testBit s = true → s < ms.length ∧ rk s + 2 ≤ N) →
    ∃ r' : Nat, zeI (iL ms) N (set : Int) (r : Int) = some (r' : Int) ∧ VOk ms set r r'
  | 0, _, _, _, _, h, _ => absurd h (by omega)
  | N + 1, set, r, h1, h2, h3, h4 => by
    unfold zeI
    rw [zaL]
    have := zfC hg (again := zeI (iL ms) N) (set := set) (r0 := r) h1 (fun s hs => (h4 s hs).1) (fun v r1 hv hr1 => by
      have h5 := (h4 v hv)
      refine zgp hg N (ms.getD v 0) r1 ?_ hr1 (by omega) fun p hp => ?_
      · rw [show ms.getD v 0 = ms[v]'h5.1 by simp [h5.1]]
        exact hg.lt _ (List.getElem_mem _)
      · have := hg.down v p hp
        exact ⟨this.1, by omega⟩) (ms.length + 2) 0 r h2 (fun i hi => hi) (fun s hs => absurd hs (Nat.not_lt_zero _)) (fun i hi hi0 => by rw [hi] at hi0; cases hi0) (fun i hi => .inl hi) (by omega) (Nat.zero_le _)
    exact this
theorem zpH {ms : List Nat} {c s i : Nat} (h : Reach ms s i) (hs : c.testBit s = true) (hc : ∀ i, c.testBit i = true → Sub (ms.getD i 0) c) : c.testBit i = true := by
  induction h with
  | refl i => exact hs
  | step h1 h2 ih => exact ih (hc _ hs _ h1)
theorem zhE {ms : List Nat} {rk : Nat → Nat} (hg : GOk ms rk) (hrk : ∀ v, v < ms.length → rk v ≤ 8) {N set : Nat} (hN : 10 ≤ N) (h1 : set < 18446744073709551616) (h2 : ∀ s, set.testBit s = true → s < ms.length) :
    ∃ r' : Nat, zb7 N (iL ms) (set : Int) = some (r' : Int) ∧ r' < 18446744073709551616 ∧ ∀ i, r'.testBit i = true ↔ ∃ s, set.testBit s = true ∧ Reach ms s i := by
  obtain ⟨r', e, h⟩ := zgp hg N set 0 h1 (by decide) (by omega) fun s hs => ⟨h2 s hs, by have := hrk s (h2 s hs); omega⟩
  refine ⟨r', e, h.lt, fun i => ⟨fun hi => ?_, fun ⟨s, hs, hr⟩ => ?_⟩⟩
  · rcases h.reach i hi with h0 | h0
    · simp at h0
    · exact h0
  · exact zpH hr (h.has s hs) fun j hj => h.clo j hj (by simp)
theorem NetOk.gok {num : List Nat} {g : Nat} {ns : List NN} (h : NetOk num g ns) : GOk (zai ns) (fun v => num.idxOf v) ∧ ∀ v, v < (zai ns).length → num.idxOf v ≤ 8 := by
  have hml : (zai ns).length = ns.length := by simp [zai]
  have hn := h.n2
  have hidx : ∀ (j v : Nat), num[j]? = some v → num.idxOf v = j := by
    intro j v hj
    have hmem : v ∈ num := List.mem_of_getElem? hj
    have hlt := List.idxOf_lt_length_iff.2 hmem
    have hget : num[num.idxOf v]? = some v := by rw [List.getElem?_eq_getElem hlt]; simp
    refine Classical.byContradiction fun hne => ?_
    exact zk2 h.perm.nod hget hj hne rfl
  refine ⟨⟨by omega, h.zee, fun v p hp => ?_⟩, fun v hv => ?_⟩
  · by_cases hv : v < ns.length
    · rw [show (zai ns).getD v 0 = zcw ns[v].ps by simp [zai, hv], zda] at hp
      have hp := of_decide_eq_true hp
      obtain ⟨j, hj⟩ := List.getElem?_of_mem (h.perm.all v hv)
      have hnode := h.node j v ns[v] hj (List.getElem?_eq_getElem hv)
      obtain ⟨k, hk, hkp⟩ := hnode.par.mem p hp
      refine ⟨by rw [hml]; exact h.zrn (List.getElem_mem hv) p hp, ?_⟩
      show num.idxOf p < num.idxOf v
      rw [hidx j v hj, hidx k p hkp]
      exact hk
    · rw [show (zai ns).getD v 0 = 0 by simp [zai, hv]] at hp
      simp at hp
  · have hlt := List.idxOf_lt_length_iff.2 (h.perm.all v (by omega))
    rw [h.perm.len] at hlt
    omega
theorem zuv {num : List Nat} {g : Nat} {ns : List NN} (h : NetOk num g ns) {N set : Nat} (hN : 10 ≤ N) (h2 : ∀ s, set.testBit s = true → s < ns.length) (h1 : set < 2 ^ ns.length) :
    ∃ r : Nat, zbw N (zdD g ns) (set : Int) = some ((r : Int), 0) ∧ r < 18446744073709551616 ∧ zb7 N (iL (zai ns)) (set : Int) = some (r : Int) ∧ ∀ i, r.testBit i = true ↔ ∃ s, set.testBit s = true ∧ Reach (zai ns) s i := by
  have hml : (zai ns).length = ns.length := by simp [zai]
  have hn := h.n2
  obtain ⟨hg, hrk⟩ := h.gok
  have h64 : set < 18446744073709551616 := Nat.lt_of_lt_of_le h1 (Nat.pow_le_pow_right (n := 2) (by decide) (show ns.length ≤ 64 by omega))
  obtain ⟨r, e, hr, hi⟩ := zhE hg hrk hN h64 fun s hs => by rw [hml]; exact h2 s hs
  obtain ⟨os, _, _, e2⟩ := ziu h
  refine ⟨r, ?_, hr, e, hi⟩
  unfold zbw
  rw [e2, Option.bind_some]
  simp only []
  rw [show ((0 : Int) == 0) = true from rfl, cond_true, show (zdD g ns).nodes.length = ns.length by simp [zdD], zuM (by omega), Option.bind_some,
    show set >>> ns.length = 0 by rw [Nat.shiftRight_eq_div_pow]; exact Nat.div_eq_of_lt h1, show (((0 : Nat) : Int) == 0) = true from rfl, cond_true, e, Option.bind_some]
end Go.Dc
namespace Go.Dc
open Go Go.Mx Go.Lx Go.Proofs
set_option maxRecDepth 100000
set_option maxHeartbeats 4000000
end Go.Dc
namespace Go.Dc
open Go Go.Mx Go.Lx
theorem zdo.closed {ms os : List Nat} (h : zdo ms os) (k : Nat) : ∀ i, (zcw (os.take k)).testBit i = true → Sub (ms.getD i 0) (zcw (os.take k)) := by
  intro i hi p hp
  rw [zda] at hi
  have hi := of_decide_eq_true hi
  obtain ⟨j, hj, rfl⟩ := List.mem_take_iff_getElem.1 hi
  have hjl : j < os.length := by omega
  have := (h j os[j] (List.getElem?_eq_getElem hjl)).ready.2 p hp
  rw [zda] at this ⊢
  have h2 := of_decide_eq_true this
  refine decide_eq_true ?_
  obtain ⟨l, hl, rfl⟩ := List.mem_take_iff_getElem.1 h2
  exact List.mem_take_iff_getElem.2 ⟨l, by omega, rfl⟩
end Go.Dc
