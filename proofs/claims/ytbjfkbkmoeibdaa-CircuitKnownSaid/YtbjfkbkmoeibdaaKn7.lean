/-
  slices.Repeat of one gate, over the machine, as a whole. Conditions: none.
-/
import Derived.Test.YtbjfkbkmoeibdaaKn6
namespace Go.Proofs.Ytbjfkbkmoeibdaa
open Go Go.Mx
set_option linter.unusedVariables false
set_option maxRecDepth 100000
set_option linter.unusedSimpArgs false
set_option maxHeartbeats 2000000 in
theorem rep_exit {B cnt : Nat} {h : Heap} {S : St} (hS : RepS cnt h cnt S) : EvC (lookT tab) B none repL S fun ex S' => ex = .exit 0 ∧ RepS cnt h cnt S' := by
  obtain ⟨env, dfs, H⟩ := S
  obtain ⟨hlen, h7, h8, hd, hH⟩ := hS
  simp only at hlen h7 h8 hd hH
  subst hd
  subst hH
  have hl : decide ((cnt : Int) < (cnt : Int)) = false := by simp
  unfold repL
  refine EvC.seq (EvC.seq (EvC.reg ?_))
  generalize hK : (fun (ex : Ex) (S' : St) => _) = K
  simp (maxSteps := 300000) only [evo_mov, evo_pick, evo_build, evo_load, evo_fld, evo_idxS, evo_idxA, evo_idxV, evo_part, evo_bin, evo_eqb, evo_eqn, evo_eqi, evo_eqp, evo_un, evo_conv, evo_len, evo_mm, evo_ext, evo_slc, evo_slcA, evo_nilck, evo_clo, evo_mkI, evo_alloc, evo_box, evo_bsl, evo_store, evo_mk, evo_app, evo_copy, evo_nil, wanted, q, eff, ev, evI, evB, St.put, List.length_set, List.getElem?_set, V.cells, blkAt, takeN, bk0, bk1, Option.bind_some, cond_true, cond_false, Nat.reduceEqDiff, if_false, if_true, ite_false, ite_true, reduceIte, List.append_assoc, List.cons_append, List.nil_append, Nat.reduceLT, List.length_append, List.length_cons, List.length_nil, Nat.reduceAdd, Nat.zero_add, List.getElem?_cons_zero, List.getElem?_cons_succ, binV, intBin, Option.map_some, beq_self_eq_true, Bool.and_true, lenV, Nat.reduceBEq, Bool.not_true, Bool.not_false, BEq.rfl, Int.reduceLE, Int.reduceLT, Int.reduceBEq, decide_true, decide_false, hlen, h7, h8, hl]
  subst hK
  refine EvC.cond (t := false) (by simp (maxSteps := 300000) only [evo_mov, evo_pick, evo_build, evo_load, evo_fld, evo_idxS, evo_idxA, evo_idxV, evo_part, evo_bin, evo_eqb, evo_eqn, evo_eqi, evo_eqp, evo_un, evo_conv, evo_len, evo_mm, evo_ext, evo_slc, evo_slcA, evo_nilck, evo_clo, evo_mkI, evo_alloc, evo_box, evo_bsl, evo_store, evo_mk, evo_app, evo_copy, evo_nil, wanted, q, eff, ev, evI, evB, St.put, List.length_set, List.getElem?_set, V.cells, blkAt, takeN, bk0, bk1, Option.bind_some, cond_true, cond_false, Nat.reduceEqDiff, if_false, if_true, ite_false, ite_true, reduceIte, List.append_assoc, List.cons_append, List.nil_append, Nat.reduceLT, List.length_append, List.length_cons, List.length_nil, Nat.reduceAdd, Nat.zero_add, List.getElem?_cons_zero, List.getElem?_cons_succ, binV, intBin, Option.map_some, beq_self_eq_true, Bool.and_true, lenV, Nat.reduceBEq, Bool.not_true, Bool.not_false, BEq.rfl, Int.reduceLE, Int.reduceLT, Int.reduceBEq, decide_true, decide_false, hlen, h7, h8, hl]) (EvC.exit ?_)
  exact ⟨rfl, ⟨by simp [hlen], by simp [List.getElem?_set, h7], by simp [List.getElem?_set, h8], rfl, rfl⟩⟩
theorem rep_loop {B cnt : Nat} {h : Heap} (hB : B ≤ h.length) (hc : cnt ≤ 100000) : ∀ (k n : Nat) (S : St), 1 ≤ n → n ≤ cnt → cnt - n ≤ k → RepS cnt h n S → EvC (lookT tab) B none (.loop repL) S fun ex S' => ex = .exit 0 ∧ RepS cnt h cnt S'
  | 0, n, S, h1, h2, h3, hS => by
    have : n = cnt := by omega
    subst this
    refine EvC.loop (EvC.mono (rep_exit hS) ?_)
    rintro ex S' ⟨rfl, h'⟩
    exact ⟨rfl, h'⟩
  | k + 1, n, S, h1, h2, h3, hS => by
    rcases Nat.lt_or_ge n cnt with hlt | hge
    · refine EvC.loop (EvC.mono (rep_step hB h1 hlt hc hS) ?_)
      rintro ex S' ⟨rfl, h'⟩
      exact rep_loop hB hc k _ S' (by omega) (by omega) (by omega) h'
    · have : n = cnt := by omega
      subst this
      refine EvC.loop (EvC.mono (rep_exit hS) ?_)
      rintro ex S' ⟨rfl, h'⟩
      exact ⟨rfl, h'⟩
theorem look33 : lookT tab 33 = some fn33 := by kernel_rfl
set_option maxHeartbeats 4000000 in
theorem rep {B β cnt : Nat} {cap : Option Nat} {h : Heap} (hB : B ≤ h.length) (h1c : 1 ≤ cnt) (hc : cnt ≤ 100000) (hβ : h[β]? = some (.blk (gOne [])))
    (hmul : EvF (lookT tab) B 59 [.lit (.int .u64 1), .lit (.int .u64 (cnt : Int))] h fun cr h' => cr = .ret (.tup [.lit (.int .u64 0), .lit (.int .u64 (cnt : Int))]) ∧ h' = h) :
    EvF (lookT tab) B 33 [.sl β 0 5 1 cap, .lit (.int .i64 (cnt : Int))] h fun cr h' => cr = .ret (.sl h.length 0 5 cnt (some cnt)) ∧ h' = h ++ [.blk (GG cnt)] := by
  refine EvF.plain look33 rfl (by show 2 ≤ 48; decide) ?_
  generalize henv : (_ ++ List.replicate _ undefV : List V) = env
  have hlen : env.length = 48 := by rw [← henv]; rfl
  have h0 : env[0]? = some (.sl β 0 5 1 cap) := by rw [← henv]; rfl
  have h1 : env[1]? = some (.lit (.int .i64 (cnt : Int))) := by rw [← henv]; rfl
  clear henv
  have hneg : decide ((cnt : Int) < 0) = false := by simp
  have w1 : IntKind.u64.wrap ((1 : Nat) : Int) = 1 := by rw [← kWrap_eq]; rfl
  have w2 : IntKind.u64.wrap (cnt : Int) = (cnt : Int) := by
    simp only [IntKind.wrap, IntKind.bits, IntKind.signed]; simp; omega
  have w3 : IntKind.i64.wrap (cnt : Int) = (cnt : Int) := by
    simp only [IntKind.wrap, IntKind.bits, IntKind.signed]; simp; omega
  have g1 : decide ((0 : Int) > 0) = false := by decide
  have g2 : decide ((cnt : Int) > 9223372036854775807) = false := by simp; omega
  have g3 : decide ((0 : Int) ≤ (cnt : Int)) = true := by simp
  have g4 : decide ((cnt : Int) ≤ (cnt : Int)) = true := by simp
  have g5 : decide ((cnt : Int) * ((56 : Nat) : Int) ≤ ((maxBytes : Nat) : Int)) = true := decide_eq_true (by show (cnt : Int) * 56 ≤ 140737488355328; omega)
  have hreps : reps cnt (List.map V.lit [.int .i64 0, .int .i64 0, .int .i64 0, .int .i64 0, .slice none 0 0]) = ZZ cnt := rfl
  have hsrc : srcOf (h ++ [.blk (ZZ cnt)]) 5 (.sl β 0 5 1 cap) = some (1, gOne []) := by
    have e : (h ++ [Ob.blk (ZZ cnt)])[β]? = some (.blk (gOne [])) := by rw [List.getElem?_append_left (List.getElem?_eq_some_iff.1 hβ).1, hβ]
    simp only [srcOf, blkAt, e]; rfl
  have hmin : min 1 cnt = 1 := by omega
  have hb1 : Nat.ble B h.length = true := Nat.ble_eq_true_of_le hB
  have hb2 : Nat.ble (1 * 5) (ZZ cnt).length = true := Nat.ble_eq_true_of_le (by rw [ZZ_len]; omega)
  have hpt : putAt (ZZ cnt) 0 (List.take (1 * 5) (gOne [])) = GG 1 ++ ZZ (cnt - 1) := by
    have := put_GG (n := 0) (r := cnt) (k := 1) h1c
    simpa [GG, gOne] using this
  have hset : ∀ o, (h ++ [Ob.blk (ZZ cnt)]).set h.length o = h ++ [o] := fun o => by simp
  show EvC _ _ _ (.seq (.reg false false _) (.seq (.seq (.reg false false _) (.cond _ _ .skip)) (.seq (.reg false false _) (.seq (.seq (.reg false false _) (.cond _ _ .skip)) (.seq (.reg false false _) (.seq (.reg false false _) (.seq (.block 0 (.loop repL)) (.seq (.reg false false _) .ret)))))))) _ _
  refine EvC.seq (EvC.reg ?_)
  generalize hK : (fun (ex : Ex) (S' : St) => _) = K
  simp (maxSteps := 300000) only [evo_mov, evo_pick, evo_build, evo_load, evo_fld, evo_idxS, evo_idxA, evo_idxV, evo_part, evo_bin, evo_eqb, evo_eqn, evo_eqi, evo_eqp, evo_un, evo_conv, evo_len, evo_mm, evo_ext, evo_slc, evo_slcA, evo_nilck, evo_clo, evo_mkI, evo_alloc, evo_box, evo_bsl, evo_store, evo_mk, evo_app, evo_copy, evo_nil, wanted, q, eff, ev, evI, evB, St.put, List.length_set, List.getElem?_set, V.cells, blkAt, takeN, bk0, bk1, Option.bind_some, cond_true, cond_false, Nat.reduceEqDiff, if_false, if_true, ite_false, ite_true, reduceIte, List.nil_append, Nat.reduceLT, List.length_cons, List.length_nil, Nat.reduceAdd, Nat.zero_add, List.getElem?_cons_zero, List.getElem?_cons_succ, binV, intBin, Option.map_some, beq_self_eq_true, Bool.and_true, lenV, Nat.reduceBEq, Bool.not_true, Bool.not_false, BEq.rfl, Int.reduceLE, Int.reduceLT, Int.reduceBEq, decide_true, decide_false, hlen, h0, h1, hneg, w1, w2, w3, g1, g2, g3, g4, g5, hreps, hsrc, hmin, hb1, hb2, hpt, hset, Int.toNat_natCast, evs]
  subst hK
  refine EvC.seq (EvC.seq (EvC.reg ?_))
  generalize hK : (fun (ex : Ex) (S' : St) => _) = K
  simp (maxSteps := 300000) only [evo_mov, evo_pick, evo_build, evo_load, evo_fld, evo_idxS, evo_idxA, evo_idxV, evo_part, evo_bin, evo_eqb, evo_eqn, evo_eqi, evo_eqp, evo_un, evo_conv, evo_len, evo_mm, evo_ext, evo_slc, evo_slcA, evo_nilck, evo_clo, evo_mkI, evo_alloc, evo_box, evo_bsl, evo_store, evo_mk, evo_app, evo_copy, evo_nil, wanted, q, eff, ev, evI, evB, St.put, List.length_set, List.getElem?_set, V.cells, blkAt, takeN, bk0, bk1, Option.bind_some, cond_true, cond_false, Nat.reduceEqDiff, if_false, if_true, ite_false, ite_true, reduceIte, List.nil_append, Nat.reduceLT, List.length_cons, List.length_nil, Nat.reduceAdd, Nat.zero_add, List.getElem?_cons_zero, List.getElem?_cons_succ, binV, intBin, Option.map_some, beq_self_eq_true, Bool.and_true, lenV, Nat.reduceBEq, Bool.not_true, Bool.not_false, BEq.rfl, Int.reduceLE, Int.reduceLT, Int.reduceBEq, decide_true, decide_false, hlen, h0, h1, hneg, w1, w2, w3, g1, g2, g3, g4, g5, hreps, hsrc, hmin, hb1, hb2, hpt, hset, Int.toNat_natCast, evs]
  subst hK
  refine EvC.cond (t := false) (by simp (maxSteps := 300000) only [evo_mov, evo_pick, evo_build, evo_load, evo_fld, evo_idxS, evo_idxA, evo_idxV, evo_part, evo_bin, evo_eqb, evo_eqn, evo_eqi, evo_eqp, evo_un, evo_conv, evo_len, evo_mm, evo_ext, evo_slc, evo_slcA, evo_nilck, evo_clo, evo_mkI, evo_alloc, evo_box, evo_bsl, evo_store, evo_mk, evo_app, evo_copy, evo_nil, wanted, q, eff, ev, evI, evB, St.put, List.length_set, List.getElem?_set, V.cells, blkAt, takeN, bk0, bk1, Option.bind_some, cond_true, cond_false, Nat.reduceEqDiff, if_false, if_true, ite_false, ite_true, reduceIte, List.nil_append, Nat.reduceLT, List.length_cons, List.length_nil, Nat.reduceAdd, Nat.zero_add, List.getElem?_cons_zero, List.getElem?_cons_succ, binV, intBin, Option.map_some, beq_self_eq_true, Bool.and_true, lenV, Nat.reduceBEq, Bool.not_true, Bool.not_false, BEq.rfl, Int.reduceLE, Int.reduceLT, Int.reduceBEq, decide_true, decide_false, hlen, h0, h1, hneg, w1, w2, w3, g1, g2, g3, g4, g5, hreps, hsrc, hmin, hb1, hb2, hpt, hset, Int.toNat_natCast, evs]) (EvC.skip ?_)
  refine EvC.seq (EvC.reg ?_)
  generalize hK : (fun (ex : Ex) (S' : St) => _) = K
  simp (maxSteps := 300000) only [evo_mov, evo_pick, evo_build, evo_load, evo_fld, evo_idxS, evo_idxA, evo_idxV, evo_part, evo_bin, evo_eqb, evo_eqn, evo_eqi, evo_eqp, evo_un, evo_conv, evo_len, evo_mm, evo_ext, evo_slc, evo_slcA, evo_nilck, evo_clo, evo_mkI, evo_alloc, evo_box, evo_bsl, evo_store, evo_mk, evo_app, evo_copy, evo_nil, wanted, q, eff, ev, evI, evB, St.put, List.length_set, List.getElem?_set, V.cells, blkAt, takeN, bk0, bk1, Option.bind_some, cond_true, cond_false, Nat.reduceEqDiff, if_false, if_true, ite_false, ite_true, reduceIte, List.nil_append, Nat.reduceLT, List.length_cons, List.length_nil, Nat.reduceAdd, Nat.zero_add, List.getElem?_cons_zero, List.getElem?_cons_succ, binV, intBin, Option.map_some, beq_self_eq_true, Bool.and_true, lenV, Nat.reduceBEq, Bool.not_true, Bool.not_false, BEq.rfl, Int.reduceLE, Int.reduceLT, Int.reduceBEq, decide_true, decide_false, hlen, h0, h1, hneg, w1, w2, w3, g1, g2, g3, g4, g5, hreps, hsrc, hmin, hb1, hb2, hpt, hset, Int.toNat_natCast, evs]
  refine EvO.call (vs := [.lit (.int .u64 1), .lit (.int .u64 (cnt : Int))]) rfl rfl (by simp (maxSteps := 300000) only [evo_mov, evo_pick, evo_build, evo_load, evo_fld, evo_idxS, evo_idxA, evo_idxV, evo_part, evo_bin, evo_eqb, evo_eqn, evo_eqi, evo_eqp, evo_un, evo_conv, evo_len, evo_mm, evo_ext, evo_slc, evo_slcA, evo_nilck, evo_clo, evo_mkI, evo_alloc, evo_box, evo_bsl, evo_store, evo_mk, evo_app, evo_copy, evo_nil, wanted, q, eff, ev, evI, evB, St.put, List.length_set, List.getElem?_set, V.cells, blkAt, takeN, bk0, bk1, Option.bind_some, cond_true, cond_false, Nat.reduceEqDiff, if_false, if_true, ite_false, ite_true, reduceIte, List.nil_append, Nat.reduceLT, List.length_cons, List.length_nil, Nat.reduceAdd, Nat.zero_add, List.getElem?_cons_zero, List.getElem?_cons_succ, binV, intBin, Option.map_some, beq_self_eq_true, Bool.and_true, lenV, Nat.reduceBEq, Bool.not_true, Bool.not_false, BEq.rfl, Int.reduceLE, Int.reduceLT, Int.reduceBEq, decide_true, decide_false, hlen, h0, h1, hneg, w1, w2, w3, g1, g2, g3, g4, g5, hreps, hsrc, hmin, hb1, hb2, hpt, hset, Int.toNat_natCast, evs]) ?_
  refine EvF.mono hmul ?_
  rintro cr h' ⟨rfl, rfl⟩
  simp (maxSteps := 300000) only [evo_mov, evo_pick, evo_build, evo_load, evo_fld, evo_idxS, evo_idxA, evo_idxV, evo_part, evo_bin, evo_eqb, evo_eqn, evo_eqi, evo_eqp, evo_un, evo_conv, evo_len, evo_mm, evo_ext, evo_slc, evo_slcA, evo_nilck, evo_clo, evo_mkI, evo_alloc, evo_box, evo_bsl, evo_store, evo_mk, evo_app, evo_copy, evo_nil, wanted, q, eff, ev, evI, evB, St.put, List.length_set, List.getElem?_set, V.cells, blkAt, takeN, bk0, bk1, Option.bind_some, cond_true, cond_false, Nat.reduceEqDiff, if_false, if_true, ite_false, ite_true, reduceIte, List.nil_append, Nat.reduceLT, List.length_cons, List.length_nil, Nat.reduceAdd, Nat.zero_add, List.getElem?_cons_zero, List.getElem?_cons_succ, binV, intBin, Option.map_some, beq_self_eq_true, Bool.and_true, lenV, Nat.reduceBEq, Bool.not_true, Bool.not_false, BEq.rfl, Int.reduceLE, Int.reduceLT, Int.reduceBEq, decide_true, decide_false, hlen, h0, h1, hneg, w1, w2, w3, g1, g2, g3, g4, g5, hreps, hsrc, hmin, hb1, hb2, hpt, hset, Int.toNat_natCast, evs]
  subst hK
  refine EvC.seq (EvC.seq (EvC.reg ?_))
  generalize hK : (fun (ex : Ex) (S' : St) => _) = K
  simp (maxSteps := 300000) only [evo_mov, evo_pick, evo_build, evo_load, evo_fld, evo_idxS, evo_idxA, evo_idxV, evo_part, evo_bin, evo_eqb, evo_eqn, evo_eqi, evo_eqp, evo_un, evo_conv, evo_len, evo_mm, evo_ext, evo_slc, evo_slcA, evo_nilck, evo_clo, evo_mkI, evo_alloc, evo_box, evo_bsl, evo_store, evo_mk, evo_app, evo_copy, evo_nil, wanted, q, eff, ev, evI, evB, St.put, List.length_set, List.getElem?_set, V.cells, blkAt, takeN, bk0, bk1, Option.bind_some, cond_true, cond_false, Nat.reduceEqDiff, if_false, if_true, ite_false, ite_true, reduceIte, List.nil_append, Nat.reduceLT, List.length_cons, List.length_nil, Nat.reduceAdd, Nat.zero_add, List.getElem?_cons_zero, List.getElem?_cons_succ, binV, intBin, Option.map_some, beq_self_eq_true, Bool.and_true, lenV, Nat.reduceBEq, Bool.not_true, Bool.not_false, BEq.rfl, Int.reduceLE, Int.reduceLT, Int.reduceBEq, decide_true, decide_false, hlen, h0, h1, hneg, w1, w2, w3, g1, g2, g3, g4, g5, hreps, hsrc, hmin, hb1, hb2, hpt, hset, Int.toNat_natCast, evs]
  subst hK
  refine EvC.cond (t := false) (by simp (maxSteps := 300000) only [evo_mov, evo_pick, evo_build, evo_load, evo_fld, evo_idxS, evo_idxA, evo_idxV, evo_part, evo_bin, evo_eqb, evo_eqn, evo_eqi, evo_eqp, evo_un, evo_conv, evo_len, evo_mm, evo_ext, evo_slc, evo_slcA, evo_nilck, evo_clo, evo_mkI, evo_alloc, evo_box, evo_bsl, evo_store, evo_mk, evo_app, evo_copy, evo_nil, wanted, q, eff, ev, evI, evB, St.put, List.length_set, List.getElem?_set, V.cells, blkAt, takeN, bk0, bk1, Option.bind_some, cond_true, cond_false, Nat.reduceEqDiff, if_false, if_true, ite_false, ite_true, reduceIte, List.nil_append, Nat.reduceLT, List.length_cons, List.length_nil, Nat.reduceAdd, Nat.zero_add, List.getElem?_cons_zero, List.getElem?_cons_succ, binV, intBin, Option.map_some, beq_self_eq_true, Bool.and_true, lenV, Nat.reduceBEq, Bool.not_true, Bool.not_false, BEq.rfl, Int.reduceLE, Int.reduceLT, Int.reduceBEq, decide_true, decide_false, hlen, h0, h1, hneg, w1, w2, w3, g1, g2, g3, g4, g5, hreps, hsrc, hmin, hb1, hb2, hpt, hset, Int.toNat_natCast, evs]) (EvC.skip ?_)
  refine EvC.seq (EvC.reg ?_)
  generalize hK : (fun (ex : Ex) (S' : St) => _) = K
  simp (maxSteps := 300000) only [evo_mov, evo_pick, evo_build, evo_load, evo_fld, evo_idxS, evo_idxA, evo_idxV, evo_part, evo_bin, evo_eqb, evo_eqn, evo_eqi, evo_eqp, evo_un, evo_conv, evo_len, evo_mm, evo_ext, evo_slc, evo_slcA, evo_nilck, evo_clo, evo_mkI, evo_alloc, evo_box, evo_bsl, evo_store, evo_mk, evo_app, evo_copy, evo_nil, wanted, q, eff, ev, evI, evB, St.put, List.length_set, List.getElem?_set, V.cells, blkAt, takeN, bk0, bk1, Option.bind_some, cond_true, cond_false, Nat.reduceEqDiff, if_false, if_true, ite_false, ite_true, reduceIte, List.nil_append, Nat.reduceLT, List.length_cons, List.length_nil, Nat.reduceAdd, Nat.zero_add, List.getElem?_cons_zero, List.getElem?_cons_succ, binV, intBin, Option.map_some, beq_self_eq_true, Bool.and_true, lenV, Nat.reduceBEq, Bool.not_true, Bool.not_false, BEq.rfl, Int.reduceLE, Int.reduceLT, Int.reduceBEq, decide_true, decide_false, hlen, h0, h1, hneg, w1, w2, w3, g1, g2, g3, g4, g5, hreps, hsrc, hmin, hb1, hb2, hpt, hset, Int.toNat_natCast, evs]
  subst hK
  refine EvC.seq (EvC.reg ?_)
  generalize hK : (fun (ex : Ex) (S' : St) => _) = K
  simp (maxSteps := 300000) only [evo_mov, evo_pick, evo_build, evo_load, evo_fld, evo_idxS, evo_idxA, evo_idxV, evo_part, evo_bin, evo_eqb, evo_eqn, evo_eqi, evo_eqp, evo_un, evo_conv, evo_len, evo_mm, evo_ext, evo_slc, evo_slcA, evo_nilck, evo_clo, evo_mkI, evo_alloc, evo_box, evo_bsl, evo_store, evo_mk, evo_app, evo_copy, evo_nil, wanted, q, eff, ev, evI, evB, St.put, List.length_set, List.getElem?_set, V.cells, blkAt, takeN, bk0, bk1, Option.bind_some, cond_true, cond_false, Nat.reduceEqDiff, if_false, if_true, ite_false, ite_true, reduceIte, List.nil_append, Nat.reduceLT, List.length_cons, List.length_nil, Nat.reduceAdd, Nat.zero_add, List.getElem?_cons_zero, List.getElem?_cons_succ, binV, intBin, Option.map_some, beq_self_eq_true, Bool.and_true, lenV, Nat.reduceBEq, Bool.not_true, Bool.not_false, BEq.rfl, Int.reduceLE, Int.reduceLT, Int.reduceBEq, decide_true, decide_false, hlen, h0, h1, hneg, w1, w2, w3, g1, g2, g3, g4, g5, hreps, hsrc, hmin, hb1, hb2, hpt, hset, Int.toNat_natCast, evs]
  subst hK
  refine EvC.seq (EvC.block (EvC.mono (rep_loop hB hc cnt 1 _ (Nat.le_refl _) h1c (by omega) ⟨by simp [hlen], by simp [List.getElem?_set, hlen], by simp [hlen], rfl, rfl⟩) ?_))
  clear hlen h0 h1 env
  rintro ex S ⟨rfl, hS⟩
  obtain ⟨env, dfs, H⟩ := S
  obtain ⟨hlen, h7, _, hd, hH⟩ := hS
  simp only at hlen h7 hd hH
  subst hd
  subst hH
  simp only [if_true]
  refine EvC.seq (EvC.reg ?_)
  generalize hK : (fun (ex : Ex) (S' : St) => _) = K
  simp (maxSteps := 300000) only [evo_mov, evo_pick, evo_build, evo_load, evo_fld, evo_idxS, evo_idxA, evo_idxV, evo_part, evo_bin, evo_eqb, evo_eqn, evo_eqi, evo_eqp, evo_un, evo_conv, evo_len, evo_mm, evo_ext, evo_slc, evo_slcA, evo_nilck, evo_clo, evo_mkI, evo_alloc, evo_box, evo_bsl, evo_store, evo_mk, evo_app, evo_copy, evo_nil, wanted, q, eff, ev, evI, evB, St.put, List.length_set, List.getElem?_set, V.cells, blkAt, takeN, bk0, bk1, Option.bind_some, cond_true, cond_false, Nat.reduceEqDiff, if_false, if_true, ite_false, ite_true, reduceIte, List.append_assoc, List.cons_append, List.nil_append, Nat.reduceLT, List.length_append, List.length_cons, List.length_nil, Nat.reduceAdd, Nat.zero_add, List.getElem?_cons_zero, List.getElem?_cons_succ, binV, intBin, Option.map_some, beq_self_eq_true, Bool.and_true, lenV, Nat.reduceBEq, Bool.not_true, Bool.not_false, BEq.rfl, Int.reduceLE, Int.reduceLT, Int.reduceBEq, decide_true, decide_false, hlen, h7]
  subst hK
  refine EvC.ret ⟨.inl rfl, rfl, [.sl _ 0 5 cnt (some cnt)], ?_, rfl, by simp [ZZ]⟩
  show resAll _ _ [.tmp 4] = _
  simp only [resAll, resOne, List.length_set, List.getElem?_set, hlen, reduceIte, Nat.reduceEqDiff, Nat.reduceLT]
end Go.Proofs.Ytbjfkbkmoeibdaa
