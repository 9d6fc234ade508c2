/-
  Check of 4000 gates, over the machine: the loop over the gates. Conditions: none.
-/
import Derived.Test.YtbjfkbkmoeibdaaKn2
namespace Go.Proofs.Ytbjfkbkmoeibdaa
open Go Go.Mx
set_option linter.unusedVariables false
set_option maxRecDepth 100000
set_option linter.unusedSimpArgs false
def chkL2 : C := (.seq (.reg false false [ ⟨some 53, .bin .lss (.s 52) (.s 51), none⟩]) (.seq (.cond (.s 53) (.skip) (.exit 2)) (.seq (.block 3 (.seq (.reg false false [ ⟨some 54, .mov (.s 52), none⟩, ⟨some 55, .idxS 5 (.s 50) (.s 52), none⟩, ⟨some 56, .load (some 5) (.s 55), none⟩, ⟨some 7, .alloc [(.int .i64 0), (.int .i64 0), (.int .i64 0), (.int .i64 0), (.slice none 0 0)], none⟩, ⟨some 6, .mov (.s 54), none⟩, ⟨none, .store 5 (.s 7) (.s 56), none⟩]) (.seq (.reg false false [ ⟨some 57, .load (some 2) (.s 1), none⟩, ⟨some 58, .mov (.s 6), none⟩, ⟨some 59, .load (some 5) (.s 7), none⟩, ⟨some 60, .call 42 [(.s 57), (.s 58), (.s 59)], none⟩, ⟨some 61, .un .not (.s 60), none⟩]) (.cond (.s 61) (.seq (.reg false false [ ⟨some 2, .mov (.c (.int .i64 150)), none⟩]) (.ret)) (.skip))))) (.reg false false [ ⟨some 62, .bin .add (.s 52) (.c (.int .i64 1)), none⟩, ⟨some 52, .mov (.s 62), none⟩]))))
theorem slot_rep (g : List V) (hg : g.length = 5) : ∀ (n i : Nat), i < n → slot (i * 5) 5 (List.replicate n g).flatten = some g
  | 0, i, h => by omega
  | n + 1, 0, h => by
    simp [slot, hg, List.replicate_succ, List.take_append_of_le_length, List.take_of_length_le]
    rw [Nat.ble_eq_true_of_le (by omega)]; rfl
  | n + 1, i + 1, h => by
    have := slot_rep g hg n i (by omega)
    simp only [slot, List.replicate_succ, List.flatten_cons, List.length_append, hg] at this ⊢
    rw [show (i + 1) * 5 = g.length + i * 5 by omega, List.drop_append, List.drop_of_length_le (by omega)]
    simp only [hg, List.nil_append]
    rw [show 5 + i * 5 - 5 = i * 5 by omega]
    rw [show Nat.ble (5 + i * 5 + 5) (5 + (List.replicate n g).flatten.length) = Nat.ble (i * 5 + 5) (List.replicate n g).flatten.length by
      cases hb : Nat.ble (i * 5 + 5) (List.replicate n g).flatten.length
      · have : ¬ i * 5 + 5 ≤ (List.replicate n g).flatten.length := fun h0 => by rw [Nat.ble_eq_true_of_le h0] at hb; cases hb
        cases hb2 : Nat.ble (5 + i * 5 + 5) (5 + (List.replicate n g).flatten.length)
        · rfl
        · have := Nat.le_of_ble_eq_true hb2; omega
      · exact Nat.ble_eq_true_of_le (by have := Nat.le_of_ble_eq_true hb; omega)]
    exact this
theorem gPow_eq : ∀ (d : Nat) (r : List V), gPow d r = (List.replicate (2 ^ d) (gOne [])).flatten ++ r
  | 0, r => by simp [gPow, gOne]
  | d + 1, r => by
    rw [gPow, gPow_eq d, gPow_eq d, ← List.append_assoc, ← List.flatten_append, List.replicate_append_replicate, show 2 ^ d + 2 ^ d = 2 ^ (d + 1) by rw [Nat.pow_succ]; omega]
theorem g4000_eq : g4000 = (List.replicate 4000 (gOne [])).flatten := by
  unfold g4000
  simp only [gPow_eq, List.append_nil]
  simp only [← List.flatten_append, List.replicate_append_replicate]
structure ChkS (b0 γ : Nat) (c2 : Option Nat) (A G : V) (i : Nat) (S : St) : Prop where
  len : S.env.length = 63
  e1 : S.env[1]? = some (.ptr b0 0)
  e50 : S.env[50]? = some (.sl γ 0 5 4000 c2)
  e51 : S.env[51]? = some (.lit (.int .i64 ((4000 : Nat) : Int)))
  e52 : S.env[52]? = some (.lit (.int .i64 (i : Int)))
  dfs : S.dfs = []
  b0 : S.heap[b0]? = some (.blk [A, G])
  g : S.heap[γ]? = some (.blk (List.replicate 4000 (gOne [])).flatten)
theorem blkAt_of {h : Heap} {β : Nat} {cs : List V} (hh : h[β]? = some (.blk cs)) : blkAt h β = some cs := by simp [blkAt, hh]
set_option maxHeartbeats 2000000 in
theorem chk_step {B b0 γ i : Nat} {c2 : Option Nat} {A G : V} {S : St} (hi : i < 4000) (hB : B ≤ b0) (h : ChkS b0 γ c2 A G i S) : EvC (lookT tab) B none chkL2 S fun ex S' => ex = .normal ∧ ChkS b0 γ c2 A G (i + 1) S' := by
  obtain ⟨env, dfs, H⟩ := S
  obtain ⟨hlen, h1, h50, h51, h52, hd, hb0, hg⟩ := h
  simp only at hlen h1 h50 h51 h52 hd hb0 hg
  subst hd
  have hlt : decide ((i : Int) < ((4000 : Nat) : Int)) = true := by simp; omega
  have hge : decide ((0 : Int) ≤ (i : Int)) = true := by simp
  have hw : IntKind.i64.wrap ((i : Int) + 1) = ((i + 1 : Nat) : Int) := by
    simp only [IntKind.wrap, IntKind.bits, IntKind.signed]; simp; omega
  have hb0lt : b0 < H.length := (List.getElem?_eq_some_iff.1 hb0).1
  have hγlt : γ < H.length := (List.getElem?_eq_some_iff.1 hg).1
  have hBH : Nat.ble B H.length = true := Nat.ble_eq_true_of_le (by omega)
  have hs := slot_rep (gOne []) rfl 4000 i hi
  unfold chkL2
  refine EvC.seq (EvC.reg ?_)
  generalize hK : (fun (ex : Ex) (S' : St) => _) = K
  simp (maxSteps := 300000) only [evo_mov, evo_pick, evo_build, evo_load, evo_fld, evo_idxS, evo_idxA, evo_idxV, evo_part, evo_bin, evo_eqb, evo_eqn, evo_eqi, evo_eqp, evo_un, evo_conv, evo_len, evo_mm, evo_ext, evo_slc, evo_slcA, evo_nilck, evo_clo, evo_mkI, evo_alloc, evo_box, evo_bsl, evo_store, evo_mk, evo_app, evo_copy, evo_nil, wanted, q, eff, ev, evI, evB, St.put, List.length_set, List.getElem?_set, V.cells, gOne, blkAt, takeN, bk0, bk1, Option.bind_some, cond_true, cond_false, Nat.reduceEqDiff, if_false, if_true, ite_false, ite_true, reduceIte, List.append_assoc, List.cons_append, List.nil_append, Nat.reduceLT, List.length_append, List.length_cons, List.length_nil, Nat.reduceAdd, Nat.zero_add, List.getElem?_cons_zero, List.getElem?_cons_succ, binV, intBin, Option.map_some, beq_self_eq_true, Bool.and_true, lenV, Nat.reduceBEq, Bool.not_true, Bool.not_false, BEq.rfl, Int.reduceLE, Int.reduceLT, Int.reduceBEq, decide_true, decide_false, hlen, h1, h50, h51, h52, hlt]
  subst hK
  refine EvC.seq (EvC.cond (t := true) (by simp (maxSteps := 300000) only [evo_mov, evo_pick, evo_build, evo_load, evo_fld, evo_idxS, evo_idxA, evo_idxV, evo_part, evo_bin, evo_eqb, evo_eqn, evo_eqi, evo_eqp, evo_un, evo_conv, evo_len, evo_mm, evo_ext, evo_slc, evo_slcA, evo_nilck, evo_clo, evo_mkI, evo_alloc, evo_box, evo_bsl, evo_store, evo_mk, evo_app, evo_copy, evo_nil, wanted, q, eff, ev, evI, evB, St.put, List.length_set, List.getElem?_set, V.cells, gOne, blkAt, takeN, bk0, bk1, Option.bind_some, cond_true, cond_false, Nat.reduceEqDiff, if_false, if_true, ite_false, ite_true, reduceIte, List.append_assoc, List.cons_append, List.nil_append, Nat.reduceLT, List.length_append, List.length_cons, List.length_nil, Nat.reduceAdd, Nat.zero_add, List.getElem?_cons_zero, List.getElem?_cons_succ, binV, intBin, Option.map_some, beq_self_eq_true, Bool.and_true, lenV, Nat.reduceBEq, Bool.not_true, Bool.not_false, BEq.rfl, Int.reduceLE, Int.reduceLT, Int.reduceBEq, decide_true, decide_false, hlen, h1, h50, h51, h52, hlt]) (EvC.skip ?_))
  show EvC _ _ _ (.seq (.block 3 _) _) _ _
  refine EvC.seq (EvC.block (EvC.seq (EvC.reg ?_)))
  have hput : putAt (List.map V.lit [.int .i64 0, .int .i64 0, .int .i64 0, .int .i64 0, .slice none 0 0]) 0 (gOne []) = gOne [] := rfl
  have hs0 : slot 0 5 (gOne []) = some (gOne []) := rfl
  have hl5 : (gOne []).length = 5 := rfl
  have hble : Nat.ble 5 5 = true := rfl
  generalize hK : (fun (ex : Ex) (S' : St) => _) = K
  simp (maxSteps := 300000) only [evo_mov, evo_pick, evo_build, evo_load, evo_fld, evo_idxS, evo_idxA, evo_idxV, evo_part, evo_bin, evo_eqb, evo_eqn, evo_eqi, evo_eqp, evo_un, evo_conv, evo_len, evo_mm, evo_ext, evo_slc, evo_slcA, evo_nilck, evo_clo, evo_mkI, evo_alloc, evo_box, evo_bsl, evo_store, evo_mk, evo_app, evo_copy, evo_nil, wanted, q, eff, ev, evI, evB, St.put, List.length_set, List.getElem?_set, V.cells, blkAt, takeN, bk0, bk1, Option.bind_some, cond_true, cond_false, Nat.reduceEqDiff, if_false, if_true, ite_false, ite_true, reduceIte, List.append_assoc, List.cons_append, List.nil_append, Nat.reduceLT, List.length_append, List.length_cons, List.length_nil, Nat.reduceAdd, Nat.zero_add, List.getElem?_cons_zero, List.getElem?_cons_succ, binV, intBin, Option.map_some, beq_self_eq_true, Bool.and_true, lenV, Nat.reduceBEq, Bool.not_true, Bool.not_false, BEq.rfl, Int.reduceLE, Int.reduceLT, Int.reduceBEq, decide_true, decide_false, hlen, h1, h50, h51, h52, hlt, hge, hs, hg, Int.toNat_natCast, hput, hs0, hl5, hble, hBH, List.length_map]
  subst hK
  generalize hH : (List.set (H ++ _) _ _ : List Ob) = H'
  have k0 : H'[b0]? = some (.blk [A, G]) := by
    rw [← hH, List.getElem?_set_ne (by omega), List.getElem?_append_left hb0lt, hb0]
  have k1 : H'[γ]? = some (.blk (List.replicate 4000 (gOne [])).flatten) := by
    rw [← hH, List.getElem?_set_ne (by omega), List.getElem?_append_left hγlt, hg]
  have k2 : H'[H.length]? = some (.blk (gOne [])) := by
    rw [← hH]; simp
  have k3 : B ≤ H'.length := by rw [← hH]; simp; omega
  clear hH
  show EvC _ _ _ (.seq (.reg false false _) _) _ _
  refine EvC.seq (EvC.reg ?_)
  have hs2 : slot 0 2 [A, G] = some [A, G] := rfl
  generalize hK : (fun (ex : Ex) (S' : St) => _) = K
  simp (maxSteps := 300000) only [evo_mov, evo_pick, evo_build, evo_load, evo_fld, evo_idxS, evo_idxA, evo_idxV, evo_part, evo_bin, evo_eqb, evo_eqn, evo_eqi, evo_eqp, evo_un, evo_conv, evo_len, evo_mm, evo_ext, evo_slc, evo_slcA, evo_nilck, evo_clo, evo_mkI, evo_alloc, evo_box, evo_bsl, evo_store, evo_mk, evo_app, evo_copy, evo_nil, wanted, q, eff, ev, evI, evB, St.put, List.length_set, List.getElem?_set, V.cells, blkAt, takeN, bk0, bk1, Option.bind_some, cond_true, cond_false, Nat.reduceEqDiff, if_false, if_true, ite_false, ite_true, reduceIte, List.append_assoc, List.cons_append, List.nil_append, Nat.reduceLT, List.length_append, List.length_cons, List.length_nil, Nat.reduceAdd, Nat.zero_add, List.getElem?_cons_zero, List.getElem?_cons_succ, binV, intBin, Option.map_some, beq_self_eq_true, Bool.and_true, lenV, Nat.reduceBEq, Bool.not_true, Bool.not_false, BEq.rfl, Int.reduceLE, Int.reduceLT, Int.reduceBEq, decide_true, decide_false, hlen, h1, h50, h51, h52, hlt, hge, hs, hs0, hs2, k0, k1, k2, hl5, hble, hw, unV, evs]
  refine EvO.call (vs := [.agg [A, G], .lit (.int .i64 (i : Int)), .agg (gOne [])]) rfl rfl (by simp (maxSteps := 300000) only [evo_mov, evo_pick, evo_build, evo_load, evo_fld, evo_idxS, evo_idxA, evo_idxV, evo_part, evo_bin, evo_eqb, evo_eqn, evo_eqi, evo_eqp, evo_un, evo_conv, evo_len, evo_mm, evo_ext, evo_slc, evo_slcA, evo_nilck, evo_clo, evo_mkI, evo_alloc, evo_box, evo_bsl, evo_store, evo_mk, evo_app, evo_copy, evo_nil, wanted, q, eff, ev, evI, evB, St.put, List.length_set, List.getElem?_set, V.cells, blkAt, takeN, bk0, bk1, Option.bind_some, cond_true, cond_false, Nat.reduceEqDiff, if_false, if_true, ite_false, ite_true, reduceIte, List.append_assoc, List.cons_append, List.nil_append, Nat.reduceLT, List.length_append, List.length_cons, List.length_nil, Nat.reduceAdd, Nat.zero_add, List.getElem?_cons_zero, List.getElem?_cons_succ, binV, intBin, Option.map_some, beq_self_eq_true, Bool.and_true, lenV, Nat.reduceBEq, Bool.not_true, Bool.not_false, BEq.rfl, Int.reduceLE, Int.reduceLT, Int.reduceBEq, decide_true, decide_false, hlen, h1, h50, h51, h52, hlt, hge, hs, hs0, hs2, k0, k1, k2, hl5, hble, hw, unV, evs]) ?_
  refine EvF.mono (vg B H' k3 A G _) ?_
  rintro cr h' ⟨rfl, rfl⟩
  simp (maxSteps := 300000) only [evo_mov, evo_pick, evo_build, evo_load, evo_fld, evo_idxS, evo_idxA, evo_idxV, evo_part, evo_bin, evo_eqb, evo_eqn, evo_eqi, evo_eqp, evo_un, evo_conv, evo_len, evo_mm, evo_ext, evo_slc, evo_slcA, evo_nilck, evo_clo, evo_mkI, evo_alloc, evo_box, evo_bsl, evo_store, evo_mk, evo_app, evo_copy, evo_nil, wanted, q, eff, ev, evI, evB, St.put, List.length_set, List.getElem?_set, V.cells, blkAt, takeN, bk0, bk1, Option.bind_some, cond_true, cond_false, Nat.reduceEqDiff, if_false, if_true, ite_false, ite_true, reduceIte, List.append_assoc, List.cons_append, List.nil_append, Nat.reduceLT, List.length_append, List.length_cons, List.length_nil, Nat.reduceAdd, Nat.zero_add, List.getElem?_cons_zero, List.getElem?_cons_succ, binV, intBin, Option.map_some, beq_self_eq_true, Bool.and_true, lenV, Nat.reduceBEq, Bool.not_true, Bool.not_false, BEq.rfl, Int.reduceLE, Int.reduceLT, Int.reduceBEq, decide_true, decide_false, hlen, h1, h50, h51, h52, hlt, hge, hs, hs0, hs2, k0, k1, k2, hl5, hble, hw, unV, evs]
  subst hK
  refine EvC.cond (t := false) (by simp (maxSteps := 300000) only [evo_mov, evo_pick, evo_build, evo_load, evo_fld, evo_idxS, evo_idxA, evo_idxV, evo_part, evo_bin, evo_eqb, evo_eqn, evo_eqi, evo_eqp, evo_un, evo_conv, evo_len, evo_mm, evo_ext, evo_slc, evo_slcA, evo_nilck, evo_clo, evo_mkI, evo_alloc, evo_box, evo_bsl, evo_store, evo_mk, evo_app, evo_copy, evo_nil, wanted, q, eff, ev, evI, evB, St.put, List.length_set, List.getElem?_set, V.cells, blkAt, takeN, bk0, bk1, Option.bind_some, cond_true, cond_false, Nat.reduceEqDiff, if_false, if_true, ite_false, ite_true, reduceIte, List.append_assoc, List.cons_append, List.nil_append, Nat.reduceLT, List.length_append, List.length_cons, List.length_nil, Nat.reduceAdd, Nat.zero_add, List.getElem?_cons_zero, List.getElem?_cons_succ, binV, intBin, Option.map_some, beq_self_eq_true, Bool.and_true, lenV, Nat.reduceBEq, Bool.not_true, Bool.not_false, BEq.rfl, Int.reduceLE, Int.reduceLT, Int.reduceBEq, decide_true, decide_false, hlen, h1, h50, h51, h52, hlt, hge, hs, hs0, hs2, k0, k1, k2, hl5, hble, hw, unV, evs]) (EvC.skip ?_)
  show EvC _ _ _ (.reg false false _) _ _
  refine EvC.reg ?_
  simp (maxSteps := 300000) only [evo_mov, evo_pick, evo_build, evo_load, evo_fld, evo_idxS, evo_idxA, evo_idxV, evo_part, evo_bin, evo_eqb, evo_eqn, evo_eqi, evo_eqp, evo_un, evo_conv, evo_len, evo_mm, evo_ext, evo_slc, evo_slcA, evo_nilck, evo_clo, evo_mkI, evo_alloc, evo_box, evo_bsl, evo_store, evo_mk, evo_app, evo_copy, evo_nil, wanted, q, eff, ev, evI, evB, St.put, List.length_set, List.getElem?_set, V.cells, blkAt, takeN, bk0, bk1, Option.bind_some, cond_true, cond_false, Nat.reduceEqDiff, if_false, if_true, ite_false, ite_true, reduceIte, List.append_assoc, List.cons_append, List.nil_append, Nat.reduceLT, List.length_append, List.length_cons, List.length_nil, Nat.reduceAdd, Nat.zero_add, List.getElem?_cons_zero, List.getElem?_cons_succ, binV, intBin, Option.map_some, beq_self_eq_true, Bool.and_true, lenV, Nat.reduceBEq, Bool.not_true, Bool.not_false, BEq.rfl, Int.reduceLE, Int.reduceLT, Int.reduceBEq, decide_true, decide_false, hlen, h1, h50, h51, h52, hlt, hge, hs, hs0, hs2, k0, k1, k2, hl5, hble, hw, unV, evs]
  exact ⟨trivial, ⟨by simp [hlen], by simp [List.getElem?_set, h1], by simp [List.getElem?_set, h50], by simp [List.getElem?_set, h51], by simp [hlen], rfl, k0, k1⟩⟩
set_option maxHeartbeats 2000000 in
theorem chk_exit {B b0 γ : Nat} {c2 : Option Nat} {A G : V} {S : St} (h : ChkS b0 γ c2 A G 4000 S) : EvC (lookT tab) B none chkL2 S fun ex S' => ex = .exit 2 ∧ ChkS b0 γ c2 A G 4000 S' := by
  obtain ⟨env, dfs, H⟩ := S
  obtain ⟨hlen, h1, h50, h51, h52, hd, hb0, hg⟩ := h
  simp only at hlen h1 h50 h51 h52 hd hb0 hg
  subst hd
  have hlt : decide (((4000 : Nat) : Int) < ((4000 : Nat) : Int)) = false := by simp
  unfold chkL2
  refine EvC.seq (EvC.reg ?_)
  generalize hK : (fun (ex : Ex) (S' : St) => _) = K
  simp (maxSteps := 300000) only [evo_mov, evo_pick, evo_build, evo_load, evo_fld, evo_idxS, evo_idxA, evo_idxV, evo_part, evo_bin, evo_eqb, evo_eqn, evo_eqi, evo_eqp, evo_un, evo_conv, evo_len, evo_mm, evo_ext, evo_slc, evo_slcA, evo_nilck, evo_clo, evo_mkI, evo_alloc, evo_box, evo_bsl, evo_store, evo_mk, evo_app, evo_copy, evo_nil, wanted, q, eff, ev, evI, evB, St.put, List.length_set, List.getElem?_set, V.cells, gOne, blkAt, takeN, bk0, bk1, Option.bind_some, cond_true, cond_false, Nat.reduceEqDiff, if_false, if_true, ite_false, ite_true, reduceIte, List.append_assoc, List.cons_append, List.nil_append, Nat.reduceLT, List.length_append, List.length_cons, List.length_nil, Nat.reduceAdd, Nat.zero_add, List.getElem?_cons_zero, List.getElem?_cons_succ, binV, intBin, Option.map_some, beq_self_eq_true, Bool.and_true, lenV, Nat.reduceBEq, Bool.not_true, Bool.not_false, BEq.rfl, Int.reduceLE, Int.reduceLT, Int.reduceBEq, decide_true, decide_false, hlen, h1, h50, h51, h52, hlt]
  subst hK
  refine EvC.seq (EvC.cond (t := false) (by simp (maxSteps := 300000) only [evo_mov, evo_pick, evo_build, evo_load, evo_fld, evo_idxS, evo_idxA, evo_idxV, evo_part, evo_bin, evo_eqb, evo_eqn, evo_eqi, evo_eqp, evo_un, evo_conv, evo_len, evo_mm, evo_ext, evo_slc, evo_slcA, evo_nilck, evo_clo, evo_mkI, evo_alloc, evo_box, evo_bsl, evo_store, evo_mk, evo_app, evo_copy, evo_nil, wanted, q, eff, ev, evI, evB, St.put, List.length_set, List.getElem?_set, V.cells, gOne, blkAt, takeN, bk0, bk1, Option.bind_some, cond_true, cond_false, Nat.reduceEqDiff, if_false, if_true, ite_false, ite_true, reduceIte, List.append_assoc, List.cons_append, List.nil_append, Nat.reduceLT, List.length_append, List.length_cons, List.length_nil, Nat.reduceAdd, Nat.zero_add, List.getElem?_cons_zero, List.getElem?_cons_succ, binV, intBin, Option.map_some, beq_self_eq_true, Bool.and_true, lenV, Nat.reduceBEq, Bool.not_true, Bool.not_false, BEq.rfl, Int.reduceLE, Int.reduceLT, Int.reduceBEq, decide_true, decide_false, hlen, h1, h50, h51, h52, hlt]) (EvC.exit ?_))
  exact ⟨rfl, ⟨by simp [hlen], by simp [List.getElem?_set, h1], by simp [List.getElem?_set, h50], by simp [List.getElem?_set, h51], by simp [List.getElem?_set, h52], rfl, hb0, hg⟩⟩
theorem chk_loop {B b0 γ : Nat} {c2 : Option Nat} {A G : V} (hB : B ≤ b0) : ∀ (k i : Nat) (S : St), i + k = 4000 → ChkS b0 γ c2 A G i S → EvC (lookT tab) B none (.loop chkL2) S fun ex S' => ex = .exit 2 ∧ ChkS b0 γ c2 A G 4000 S'
  | 0, i, S, hk, h => by
    have : i = 4000 := by omega
    subst this
    refine EvC.loop (EvC.mono (chk_exit h) ?_)
    rintro ex S' ⟨rfl, h'⟩
    exact ⟨rfl, h'⟩
  | k + 1, i, S, hk, h => by
    refine EvC.loop (EvC.mono (chk_step (by omega) hB h) ?_)
    rintro ex S' ⟨rfl, h'⟩
    exact chk_loop hB k (i + 1) S' (by omega) h'
end Go.Proofs.Ytbjfkbkmoeibdaa
