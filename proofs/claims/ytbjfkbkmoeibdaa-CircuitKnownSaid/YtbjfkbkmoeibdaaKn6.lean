/-
  slices.Repeat of one gate, over the machine: the loop. Conditions: none.
-/
import Derived.Test.YtbjfkbkmoeibdaaKn5
namespace Go.Proofs.Ytbjfkbkmoeibdaa
open Go Go.Mx
set_option linter.unusedVariables false
set_option maxRecDepth 100000
set_option linter.unusedSimpArgs false
def repL : C := (.seq (.seq (.reg false false [ ⟨some 34, .mov (.s 8), none⟩, ⟨some 35, .mov (.s 7), none⟩, ⟨some 36, .len (.s 35), none⟩, ⟨some 37, .bin .lss (.s 34) (.s 36), none⟩]) (.cond (.s 37) (.skip) (.exit 0))) (.block 1 (.reg true false [ ⟨some 38, .mov (.s 8), none⟩, ⟨some 39, .mov (.s 7), none⟩, ⟨some 40, .mov (.s 8), none⟩, ⟨some 41, .slc 5 (.s 39) (some (.s 40)) none none, none⟩, ⟨some 42, .mov (.s 7), none⟩, ⟨some 43, .mov (.s 8), none⟩, ⟨some 44, .slc 5 (.s 42) none (some (.s 43)) none, none⟩, ⟨some 45, .copy 5 (.s 41) (.s 44), none⟩, ⟨some 46, .bin .add (.s 38) (.s 45), none⟩, ⟨some 8, .mov (.s 46), none⟩])))
def zG : List V := List.map V.lit [(.int .i64 0), (.int .i64 0), (.int .i64 0), (.int .i64 0), (.slice none 0 0)]
def GG (n : Nat) : List V := (List.replicate n (gOne [])).flatten
def ZZ (n : Nat) : List V := (List.replicate n zG).flatten
theorem GG_len : ∀ n, (GG n).length = n * 5
  | 0 => rfl
  | n + 1 => by
    have := GG_len n
    simp only [GG, List.replicate_succ, List.flatten_cons, List.length_append] at this ⊢
    rw [this]; simp only [gOne, List.length_cons, List.length_nil]; omega
theorem ZZ_len : ∀ n, (ZZ n).length = n * 5
  | 0 => rfl
  | n + 1 => by
    have := ZZ_len n
    simp only [ZZ, List.replicate_succ, List.flatten_cons, List.length_append] at this ⊢
    rw [this]; simp only [zG, List.length_map, List.length_cons, List.length_nil]; omega
theorem GG_add (a b : Nat) : GG (a + b) = GG a ++ GG b := by
  unfold GG; rw [← List.flatten_append, List.replicate_append_replicate]
theorem ZZ_add (a b : Nat) : ZZ (a + b) = ZZ a ++ ZZ b := by
  unfold ZZ; rw [← List.flatten_append, List.replicate_append_replicate]
theorem take_GG {n k : Nat} (h : k ≤ n) : (GG n).take (k * 5) = GG k := by
  obtain ⟨d, rfl⟩ : ∃ d, n = k + d := ⟨n - k, by omega⟩
  rw [GG_add, List.take_append_of_le_length (by rw [GG_len]; omega), List.take_of_length_le (by rw [GG_len]; omega)]
theorem drop_ZZ {n k : Nat} (h : k ≤ n) : (ZZ n).drop (k * 5) = ZZ (n - k) := by
  obtain ⟨d, rfl⟩ : ∃ d, n = k + d := ⟨n - k, by omega⟩
  rw [ZZ_add, List.drop_append, List.drop_of_length_le (by rw [ZZ_len]; omega), ZZ_len]
  simp
theorem put_GG {n r k : Nat} (h : k ≤ r) : putAt (GG n ++ ZZ r) (n * 5) (GG k) = GG (n + k) ++ ZZ (r - k) := by
  unfold putAt
  rw [List.take_append_of_le_length (by rw [GG_len]; omega), List.take_of_length_le (by rw [GG_len]; omega), List.drop_append, List.drop_of_length_le (by rw [GG_len, GG_len]; omega), GG_len, GG_len, show n * 5 + k * 5 - n * 5 = k * 5 by omega, drop_ZZ h, GG_add]
  simp
structure RepS (cnt : Nat) (h : Heap) (n : Nat) (S : St) : Prop where
  len : S.env.length = 48
  e7 : S.env[7]? = some (.sl h.length 0 5 cnt (some cnt))
  e8 : S.env[8]? = some (.lit (.int .i64 (n : Int)))
  dfs : S.dfs = []
  hp : S.heap = h ++ [.blk (GG n ++ ZZ (cnt - n))]
set_option maxHeartbeats 2000000 in
theorem rep_step {B cnt n : Nat} {h : Heap} {S : St} (hB : B ≤ h.length) (hn : 1 ≤ n) (hlt : n < cnt) (hc : cnt ≤ 100000) (hS : RepS cnt h n S) : EvC (lookT tab) B none repL S fun ex S' => ex = .normal ∧ RepS cnt h (n + min n (cnt - n)) S' := by
  obtain ⟨env, dfs, H⟩ := S
  obtain ⟨hlen, h7, h8, hd, hH⟩ := hS
  simp only at hlen h7 h8 hd hH
  subst hd
  subst hH
  have hl : decide ((n : Int) < (cnt : Int)) = true := by simp; omega
  have hs1 : slcV 5 (some (n : Int)) none none (.sl h.length 0 5 cnt (some cnt)) = some (.sl h.length (n * 5) 5 (cnt - n) (some (cnt - n))) := by
    have e0 : decide ((0 : Int) ≤ (n : Int)) = true := by simp
    have e1 : decide ((n : Int) ≤ (cnt : Int)) = true := by simp; omega
    have e2 : decide ((cnt : Int) ≤ topOf cnt (some cnt)) = true := by simp [topOf]
    simp only [slcV, bounds, Option.getD_some, Option.getD_none, e0, e1, e2, beq_self_eq_true, cond_true, Bool.and_true, Option.map_some, Int.toNat_natCast, Nat.zero_add]
  have hs2 : slcV 5 none (some (n : Int)) none (.sl h.length 0 5 cnt (some cnt)) = some (.sl h.length 0 5 n (some cnt)) := by
    have e0 : decide ((0 : Int) ≤ (0 : Int)) = true := by simp
    have e1 : decide ((0 : Int) ≤ (n : Int)) = true := by simp
    have e2 : decide ((n : Int) ≤ topOf cnt (some cnt)) = true := by simp [topOf]; omega
    simp only [slcV, bounds, Option.getD_some, Option.getD_none, e0, e1, e2, beq_self_eq_true, cond_true, Bool.and_true, Option.map_some, Int.toNat_natCast, Nat.zero_add, Int.toNat_zero, Nat.zero_mul, Nat.sub_zero]
  have hcl : (GG n ++ ZZ (cnt - n)).length = cnt * 5 := by rw [List.length_append, GG_len, ZZ_len]; omega
  have hsrc : srcOf (h ++ [.blk (GG n ++ ZZ (cnt - n))]) 5 (.sl h.length 0 5 n (some cnt)) = some (n, GG n) := by
    have h0 : (n == 0) = false := by simp; omega
    simp only [srcOf, beq_self_eq_true, cond_true, h0, cond_false, blkAt, bk0, Option.bind_some, slot, List.drop_zero, Nat.zero_add]
    rw [Nat.ble_eq_true_of_le (by rw [hcl]; omega), List.take_append_of_le_length (by rw [GG_len]; omega), List.take_of_length_le (by rw [GG_len]; omega)]
    rfl
  have hb1 : Nat.ble B h.length = true := Nat.ble_eq_true_of_le hB
  have hb2 : Nat.ble (n * 5 + min n (cnt - n) * 5) (GG n ++ ZZ (cnt - n)).length = true := Nat.ble_eq_true_of_le (by rw [hcl]; omega)
  have hpt : putAt (GG n ++ ZZ (cnt - n)) (n * 5) (List.take (min n (cnt - n) * 5) (GG n)) = GG (n + min n (cnt - n)) ++ ZZ (cnt - (n + min n (cnt - n))) := by
    rw [take_GG (by omega), put_GG (by omega), Nat.sub_add_eq]
  have hset : ∀ o, (h ++ [Ob.blk (GG n ++ ZZ (cnt - n))]).set h.length o = h ++ [o] := fun o => by simp
  have hw : IntKind.i64.wrap ((n : Int) + ((min n (cnt - n) : Nat) : Int)) = ((n + min n (cnt - n) : Nat) : Int) := by
    simp only [IntKind.wrap, IntKind.bits, IntKind.signed]; simp; omega
  unfold repL
  refine EvC.seq (EvC.seq (EvC.reg ?_))
  generalize hK : (fun (ex : Ex) (S' : St) => _) = K
  simp (maxSteps := 300000) only [evo_mov, evo_pick, evo_build, evo_load, evo_fld, evo_idxS, evo_idxA, evo_idxV, evo_part, evo_bin, evo_eqb, evo_eqn, evo_eqi, evo_eqp, evo_un, evo_conv, evo_len, evo_mm, evo_ext, evo_slc, evo_slcA, evo_nilck, evo_clo, evo_mkI, evo_alloc, evo_box, evo_bsl, evo_store, evo_mk, evo_app, evo_copy, evo_nil, wanted, q, eff, ev, evI, evB, St.put, List.length_set, List.getElem?_set, V.cells, blkAt, takeN, bk0, bk1, Option.bind_some, cond_true, cond_false, Nat.reduceEqDiff, if_false, if_true, ite_false, ite_true, reduceIte, List.append_assoc, List.cons_append, List.nil_append, Nat.reduceLT, List.length_append, List.length_cons, List.length_nil, Nat.reduceAdd, Nat.zero_add, List.getElem?_cons_zero, List.getElem?_cons_succ, binV, intBin, Option.map_some, beq_self_eq_true, Bool.and_true, lenV, Nat.reduceBEq, Bool.not_true, Bool.not_false, BEq.rfl, Int.reduceLE, Int.reduceLT, Int.reduceBEq, decide_true, decide_false, hlen, h7, h8, hl]
  subst hK
  refine EvC.cond (t := true) (by simp (maxSteps := 300000) only [evo_mov, evo_pick, evo_build, evo_load, evo_fld, evo_idxS, evo_idxA, evo_idxV, evo_part, evo_bin, evo_eqb, evo_eqn, evo_eqi, evo_eqp, evo_un, evo_conv, evo_len, evo_mm, evo_ext, evo_slc, evo_slcA, evo_nilck, evo_clo, evo_mkI, evo_alloc, evo_box, evo_bsl, evo_store, evo_mk, evo_app, evo_copy, evo_nil, wanted, q, eff, ev, evI, evB, St.put, List.length_set, List.getElem?_set, V.cells, blkAt, takeN, bk0, bk1, Option.bind_some, cond_true, cond_false, Nat.reduceEqDiff, if_false, if_true, ite_false, ite_true, reduceIte, List.append_assoc, List.cons_append, List.nil_append, Nat.reduceLT, List.length_append, List.length_cons, List.length_nil, Nat.reduceAdd, Nat.zero_add, List.getElem?_cons_zero, List.getElem?_cons_succ, binV, intBin, Option.map_some, beq_self_eq_true, Bool.and_true, lenV, Nat.reduceBEq, Bool.not_true, Bool.not_false, BEq.rfl, Int.reduceLE, Int.reduceLT, Int.reduceBEq, decide_true, decide_false, hlen, h7, h8, hl]) (EvC.skip ?_)
  show EvC _ _ _ (.block 1 _) _ _
  refine EvC.block (EvC.reg ?_)
  simp (maxSteps := 300000) only [evo_mov, evo_pick, evo_build, evo_load, evo_fld, evo_idxS, evo_idxA, evo_idxV, evo_part, evo_bin, evo_eqb, evo_eqn, evo_eqi, evo_eqp, evo_un, evo_conv, evo_len, evo_mm, evo_ext, evo_slc, evo_slcA, evo_nilck, evo_clo, evo_mkI, evo_alloc, evo_box, evo_bsl, evo_store, evo_mk, evo_app, evo_copy, evo_nil, wanted, q, eff, ev, evI, evB, St.put, List.length_set, List.getElem?_set, V.cells, blkAt, takeN, bk0, bk1, Option.bind_some, cond_true, cond_false, Nat.reduceEqDiff, if_false, if_true, ite_false, ite_true, reduceIte, List.nil_append, Nat.reduceLT, List.length_cons, List.length_nil, Nat.reduceAdd, Nat.zero_add, List.getElem?_cons_zero, List.getElem?_cons_succ, binV, intBin, Option.map_some, beq_self_eq_true, Bool.and_true, lenV, Nat.reduceBEq, Bool.not_true, Bool.not_false, BEq.rfl, Int.reduceLE, Int.reduceLT, Int.reduceBEq, decide_true, decide_false, hlen, h7, h8, hl, hs1, hs2, hsrc, hb1, hb2, hpt, hset, hw, evOI]
  exact ⟨trivial, ⟨by simp [hlen], by simp [List.getElem?_set, h7], by simp [hlen], rfl, rfl⟩⟩
end Go.Proofs.Ytbjfkbkmoeibdaa
