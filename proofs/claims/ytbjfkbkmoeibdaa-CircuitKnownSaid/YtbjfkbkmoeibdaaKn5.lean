/-
  Check of 4000 gates, over the machine, as a whole. Conditions: none.
-/
import Derived.Test.YtbjfkbkmoeibdaaKn4
namespace Go.Proofs.Ytbjfkbkmoeibdaa
open Go Go.Mx
set_option linter.unusedVariables false
set_option maxRecDepth 100000
set_option linter.unusedSimpArgs false
set_option maxHeartbeats 2000000 in
theorem crd_exit {B b0 β : Nat} {c1 : Option Nat} {H : Heap} {p : Int} {S : St} (h : CrdS b0 β c1 H 8 p S) : EvC (lookT tab) B none chkL1 S fun ex S' => ex = .exit 0 ∧ CrdS b0 β c1 H 8 p S' := by
  obtain ⟨env, dfs, H0⟩ := S
  obtain ⟨hlen, h1, h3, h31, h32, h33, hd, hH⟩ := h
  simp only at hlen h1 h3 h31 h32 h33 hd hH
  subst hd
  subst hH
  have hlt : decide (((8 : Nat) : Int) < ((8 : Nat) : Int)) = false := by simp
  unfold chkL1
  refine EvC.seq (EvC.reg ?_)
  generalize hK : (fun (ex : Ex) (S' : St) => _) = K
  simp (maxSteps := 300000) only [evo_mov, evo_pick, evo_build, evo_load, evo_fld, evo_idxS, evo_idxA, evo_idxV, evo_part, evo_bin, evo_eqb, evo_eqn, evo_eqi, evo_eqp, evo_un, evo_conv, evo_len, evo_mm, evo_ext, evo_slc, evo_slcA, evo_nilck, evo_clo, evo_mkI, evo_alloc, evo_box, evo_bsl, evo_store, evo_mk, evo_app, evo_copy, evo_nil, wanted, q, eff, ev, evI, evB, St.put, List.length_set, List.getElem?_set, V.cells, blkAt, takeN, bk0, bk1, Option.bind_some, cond_true, cond_false, Nat.reduceEqDiff, if_false, if_true, ite_false, ite_true, reduceIte, List.append_assoc, List.cons_append, List.nil_append, Nat.reduceLT, List.length_append, List.length_cons, List.length_nil, Nat.reduceAdd, Nat.zero_add, List.getElem?_cons_zero, List.getElem?_cons_succ, binV, intBin, Option.map_some, beq_self_eq_true, Bool.and_true, lenV, Nat.reduceBEq, Bool.not_true, Bool.not_false, BEq.rfl, Int.reduceLE, Int.reduceLT, Int.reduceBEq, decide_true, decide_false, hlen, h1, h3, h31, h32, h33, hlt]
  subst hK
  refine EvC.seq (EvC.cond (t := false) (by simp (maxSteps := 300000) only [evo_mov, evo_pick, evo_build, evo_load, evo_fld, evo_idxS, evo_idxA, evo_idxV, evo_part, evo_bin, evo_eqb, evo_eqn, evo_eqi, evo_eqp, evo_un, evo_conv, evo_len, evo_mm, evo_ext, evo_slc, evo_slcA, evo_nilck, evo_clo, evo_mkI, evo_alloc, evo_box, evo_bsl, evo_store, evo_mk, evo_app, evo_copy, evo_nil, wanted, q, eff, ev, evI, evB, St.put, List.length_set, List.getElem?_set, V.cells, blkAt, takeN, bk0, bk1, Option.bind_some, cond_true, cond_false, Nat.reduceEqDiff, if_false, if_true, ite_false, ite_true, reduceIte, List.append_assoc, List.cons_append, List.nil_append, Nat.reduceLT, List.length_append, List.length_cons, List.length_nil, Nat.reduceAdd, Nat.zero_add, List.getElem?_cons_zero, List.getElem?_cons_succ, binV, intBin, Option.map_some, beq_self_eq_true, Bool.and_true, lenV, Nat.reduceBEq, Bool.not_true, Bool.not_false, BEq.rfl, Int.reduceLE, Int.reduceLT, Int.reduceBEq, decide_true, decide_false, hlen, h1, h3, h31, h32, h33, hlt]) (EvC.exit ?_))
  exact ⟨rfl, ⟨by simp [hlen], by simp [List.getElem?_set, h1], by simp [List.getElem?_set, h3], by simp [List.getElem?_set, h31], by simp [List.getElem?_set, h32], by simp [List.getElem?_set, h33], rfl, rfl⟩⟩
theorem crd_loop {B b0 β : Nat} {c1 : Option Nat} {H : Heap} {S : St} (hb : H[β]? = some (.blk cards8)) (h : CrdS b0 β c1 H 0 1 S) : EvC (lookT tab) B none (.loop chkL1) S fun ex S' => ex = .exit 0 ∧ CrdS b0 β c1 H 8 1024 S' := by
  refine EvC.loop (EvC.mono (crd_step (c := 4) (p' := 4) (by decide) hb rfl (by decide) (by decide) (by rw [← kWrap_eq]; rfl) h) ?_)
  clear h S
  rintro ex S ⟨rfl, h⟩
  simp only []
  refine EvC.loop (EvC.mono (crd_step (c := 4) (p' := 16) (by decide) hb rfl (by decide) (by decide) (by rw [← kWrap_eq]; rfl) h) ?_)
  clear h S
  rintro ex S ⟨rfl, h⟩
  simp only []
  refine EvC.loop (EvC.mono (crd_step (c := 4) (p' := 64) (by decide) hb rfl (by decide) (by decide) (by rw [← kWrap_eq]; rfl) h) ?_)
  clear h S
  rintro ex S ⟨rfl, h⟩
  simp only []
  refine EvC.loop (EvC.mono (crd_step (c := 4) (p' := 256) (by decide) hb rfl (by decide) (by decide) (by rw [← kWrap_eq]; rfl) h) ?_)
  clear h S
  rintro ex S ⟨rfl, h⟩
  simp only []
  refine EvC.loop (EvC.mono (crd_step (c := 4) (p' := 1024) (by decide) hb rfl (by decide) (by decide) (by rw [← kWrap_eq]; rfl) h) ?_)
  clear h S
  rintro ex S ⟨rfl, h⟩
  simp only []
  refine EvC.loop (EvC.mono (crd_step (c := 1) (p' := 1024) (by decide) hb rfl (by decide) (by decide) (by rw [← kWrap_eq]; rfl) h) ?_)
  clear h S
  rintro ex S ⟨rfl, h⟩
  simp only []
  refine EvC.loop (EvC.mono (crd_step (c := 1) (p' := 1024) (by decide) hb rfl (by decide) (by decide) (by rw [← kWrap_eq]; rfl) h) ?_)
  clear h S
  rintro ex S ⟨rfl, h⟩
  simp only []
  refine EvC.loop (EvC.mono (crd_step (c := 1) (p' := 1024) (by decide) hb rfl (by decide) (by decide) (by rw [← kWrap_eq]; rfl) h) ?_)
  clear h S
  rintro ex S ⟨rfl, h⟩
  simp only []
  refine EvC.loop (EvC.mono (crd_exit h) ?_)
  rintro ex S' ⟨rfl, h'⟩
  exact ⟨rfl, h'⟩
theorem look13 : lookT tab 13 = some fn13 := by kernel_rfl
set_option maxHeartbeats 4000000 in
theorem chk {B β γ : Nat} {c1 c2 : Option Nat} {h : Heap} (hB : B ≤ h.length) (hβ : h[β]? = some (.blk cards8)) (hγ : h[γ]? = some (.blk g4000)) :
    EvF (lookT tab) B 13 [.agg [.sl β 0 1 8 c1, .sl γ 0 5 4000 c2]] h fun cr h' => cr = .ret (.lit (.int .i64 0)) ∧ h' = h := by
  refine EvF.pure look13 rfl (by show 1 ≤ 63; decide) hB rfl ?_
  generalize henv : (_ ++ List.replicate _ undefV : List V) = env
  have hlen : env.length = 63 := by rw [← henv]; rfl
  have h0 : env[0]? = some (.agg [.sl β 0 1 8 c1, .sl γ 0 5 4000 c2]) := by rw [← henv]; rfl
  clear henv
  have hn1 : decide (((8 : Nat) : Int) < 1) = false := by decide
  have hn2 : decide (((8 : Nat) : Int) > 8) = false := by decide
  have hn3 : decide (((4000 : Nat) : Int) < 1) = false := by decide
  have hn4 : decide (((4000 : Nat) : Int) > 4000) = false := by decide
  show EvC _ _ _ (.seq (.reg false false _) (.seq (.seq (.reg false false _) (.cond _ _ .skip)) (.seq (.reg false false _) (.seq (.seq (.reg false false _) (.block 0 (.loop chkL1))) (.seq (.seq (.reg false false _) (.cond _ _ .skip)) (.seq (.seq (.reg false false _) (.block 2 (.loop chkL2))) (.seq (.reg false false _) .ret))))))) _ _
  refine EvC.seq (EvC.reg ?_)
  generalize hK : (fun (ex : Ex) (S' : St) => _) = K
  simp (maxSteps := 300000) only [evo_mov, evo_pick, evo_build, evo_load, evo_fld, evo_idxS, evo_idxA, evo_idxV, evo_part, evo_bin, evo_eqb, evo_eqn, evo_eqi, evo_eqp, evo_un, evo_conv, evo_len, evo_mm, evo_ext, evo_slc, evo_slcA, evo_nilck, evo_clo, evo_mkI, evo_alloc, evo_box, evo_bsl, evo_store, evo_mk, evo_app, evo_copy, evo_nil, wanted, q, eff, ev, evI, evB, St.put, List.length_set, List.getElem?_set, V.cells, blkAt, takeN, bk0, bk1, Option.bind_some, cond_true, cond_false, Nat.reduceEqDiff, if_false, if_true, ite_false, ite_true, reduceIte, List.append_assoc, List.cons_append, List.nil_append, Nat.reduceLT, List.length_append, List.length_cons, List.length_nil, Nat.reduceAdd, Nat.zero_add, List.getElem?_cons_zero, List.getElem?_cons_succ, binV, intBin, Option.map_some, beq_self_eq_true, Bool.and_true, lenV, Nat.reduceBEq, Bool.not_true, Bool.not_false, BEq.rfl, Int.reduceLE, Int.reduceLT, Int.reduceBEq, decide_true, decide_false, hlen, h0, hn1, hn2, hn3, hn4]
  subst hK
  refine EvC.seq (EvC.seq (EvC.reg ?_))
  generalize hK : (fun (ex : Ex) (S' : St) => _) = K
  simp (maxSteps := 300000) only [evo_mov, evo_pick, evo_build, evo_load, evo_fld, evo_idxS, evo_idxA, evo_idxV, evo_part, evo_bin, evo_eqb, evo_eqn, evo_eqi, evo_eqp, evo_un, evo_conv, evo_len, evo_mm, evo_ext, evo_slc, evo_slcA, evo_nilck, evo_clo, evo_mkI, evo_alloc, evo_box, evo_bsl, evo_store, evo_mk, evo_app, evo_copy, evo_nil, wanted, q, eff, ev, evI, evB, St.put, List.length_set, List.getElem?_set, V.cells, blkAt, takeN, bk0, bk1, Option.bind_some, cond_true, cond_false, Nat.reduceEqDiff, if_false, if_true, ite_false, ite_true, reduceIte, List.append_assoc, List.cons_append, List.nil_append, Nat.reduceLT, List.length_append, List.length_cons, List.length_nil, Nat.reduceAdd, Nat.zero_add, List.getElem?_cons_zero, List.getElem?_cons_succ, binV, intBin, Option.map_some, beq_self_eq_true, Bool.and_true, lenV, Nat.reduceBEq, Bool.not_true, Bool.not_false, BEq.rfl, Int.reduceLE, Int.reduceLT, Int.reduceBEq, decide_true, decide_false, hlen, h0, hn1, hn2, hn3, hn4]
  subst hK
  refine EvC.cond (t := false) (by simp (maxSteps := 300000) only [evo_mov, evo_pick, evo_build, evo_load, evo_fld, evo_idxS, evo_idxA, evo_idxV, evo_part, evo_bin, evo_eqb, evo_eqn, evo_eqi, evo_eqp, evo_un, evo_conv, evo_len, evo_mm, evo_ext, evo_slc, evo_slcA, evo_nilck, evo_clo, evo_mkI, evo_alloc, evo_box, evo_bsl, evo_store, evo_mk, evo_app, evo_copy, evo_nil, wanted, q, eff, ev, evI, evB, St.put, List.length_set, List.getElem?_set, V.cells, blkAt, takeN, bk0, bk1, Option.bind_some, cond_true, cond_false, Nat.reduceEqDiff, if_false, if_true, ite_false, ite_true, reduceIte, List.append_assoc, List.cons_append, List.nil_append, Nat.reduceLT, List.length_append, List.length_cons, List.length_nil, Nat.reduceAdd, Nat.zero_add, List.getElem?_cons_zero, List.getElem?_cons_succ, binV, intBin, Option.map_some, beq_self_eq_true, Bool.and_true, lenV, Nat.reduceBEq, Bool.not_true, Bool.not_false, BEq.rfl, Int.reduceLE, Int.reduceLT, Int.reduceBEq, decide_true, decide_false, hlen, h0, hn1, hn2, hn3, hn4]) (EvC.skip ?_)
  refine EvC.seq (EvC.reg ?_)
  generalize hK : (fun (ex : Ex) (S' : St) => _) = K
  simp (maxSteps := 300000) only [evo_mov, evo_pick, evo_build, evo_load, evo_fld, evo_idxS, evo_idxA, evo_idxV, evo_part, evo_bin, evo_eqb, evo_eqn, evo_eqi, evo_eqp, evo_un, evo_conv, evo_len, evo_mm, evo_ext, evo_slc, evo_slcA, evo_nilck, evo_clo, evo_mkI, evo_alloc, evo_box, evo_bsl, evo_store, evo_mk, evo_app, evo_copy, evo_nil, wanted, q, eff, ev, evI, evB, St.put, List.length_set, List.getElem?_set, V.cells, blkAt, takeN, bk0, bk1, Option.bind_some, cond_true, cond_false, Nat.reduceEqDiff, if_false, if_true, ite_false, ite_true, reduceIte, List.append_assoc, List.cons_append, List.nil_append, Nat.reduceLT, List.length_append, List.length_cons, List.length_nil, Nat.reduceAdd, Nat.zero_add, List.getElem?_cons_zero, List.getElem?_cons_succ, binV, intBin, Option.map_some, beq_self_eq_true, Bool.and_true, lenV, Nat.reduceBEq, Bool.not_true, Bool.not_false, BEq.rfl, Int.reduceLE, Int.reduceLT, Int.reduceBEq, decide_true, decide_false, hlen, h0, hn1, hn2, hn3, hn4]
  subst hK
  refine EvC.seq (EvC.seq (EvC.reg ?_))
  generalize hK : (fun (ex : Ex) (S' : St) => _) = K
  simp (maxSteps := 300000) only [evo_mov, evo_pick, evo_build, evo_load, evo_fld, evo_idxS, evo_idxA, evo_idxV, evo_part, evo_bin, evo_eqb, evo_eqn, evo_eqi, evo_eqp, evo_un, evo_conv, evo_len, evo_mm, evo_ext, evo_slc, evo_slcA, evo_nilck, evo_clo, evo_mkI, evo_alloc, evo_box, evo_bsl, evo_store, evo_mk, evo_app, evo_copy, evo_nil, wanted, q, eff, ev, evI, evB, St.put, List.length_set, List.getElem?_set, V.cells, blkAt, takeN, bk0, bk1, Option.bind_some, cond_true, cond_false, Nat.reduceEqDiff, if_false, if_true, ite_false, ite_true, reduceIte, List.append_assoc, List.cons_append, List.nil_append, Nat.reduceLT, List.length_append, List.length_cons, List.length_nil, Nat.reduceAdd, Nat.zero_add, List.getElem?_cons_zero, List.getElem?_cons_succ, binV, intBin, Option.map_some, beq_self_eq_true, Bool.and_true, lenV, Nat.reduceBEq, Bool.not_true, Bool.not_false, BEq.rfl, Int.reduceLE, Int.reduceLT, Int.reduceBEq, decide_true, decide_false, hlen, h0, hn1, hn2, hn3, hn4]
  subst hK
  have hβ2 : (h ++ [Ob.blk [.sl β 0 1 8 c1, .sl γ 0 5 4000 c2]])[β]? = some (.blk cards8) := by
    rw [List.getElem?_append_left (List.getElem?_eq_some_iff.1 hβ).1, hβ]
  refine EvC.block (EvC.mono (crd_loop (b0 := h.length) (c1 := c1) hβ2 ⟨by simp [hlen], by simp [List.getElem?_set, hlen], by simp [List.getElem?_set, hlen], by simp [List.getElem?_set, hlen], by simp [List.getElem?_set, hlen], by simp [hlen], rfl, rfl⟩) ?_)
  clear hlen h0 env
  rintro ex S ⟨rfl, hS⟩
  obtain ⟨env, dfs, H⟩ := S
  obtain ⟨hlen, h1, h3, h31, h32, h33, hd, hH⟩ := hS
  simp only at hlen h1 h3 h31 h32 h33 hd hH
  subst hd
  subst hH
  simp only [if_true]
  have hm : decide ((1024 : Int) > 1024) = false := by decide
  refine EvC.seq (EvC.seq (EvC.reg ?_))
  generalize hK : (fun (ex : Ex) (S' : St) => _) = K
  simp (maxSteps := 300000) only [evo_mov, evo_pick, evo_build, evo_load, evo_fld, evo_idxS, evo_idxA, evo_idxV, evo_part, evo_bin, evo_eqb, evo_eqn, evo_eqi, evo_eqp, evo_un, evo_conv, evo_len, evo_mm, evo_ext, evo_slc, evo_slcA, evo_nilck, evo_clo, evo_mkI, evo_alloc, evo_box, evo_bsl, evo_store, evo_mk, evo_app, evo_copy, evo_nil, wanted, q, eff, ev, evI, evB, St.put, List.length_set, List.getElem?_set, V.cells, blkAt, takeN, bk0, bk1, Option.bind_some, cond_true, cond_false, Nat.reduceEqDiff, if_false, if_true, ite_false, ite_true, reduceIte, List.append_assoc, List.cons_append, List.nil_append, Nat.reduceLT, List.length_append, List.length_cons, List.length_nil, Nat.reduceAdd, Nat.zero_add, List.getElem?_cons_zero, List.getElem?_cons_succ, binV, intBin, Option.map_some, beq_self_eq_true, Bool.and_true, lenV, Nat.reduceBEq, Bool.not_true, Bool.not_false, BEq.rfl, Int.reduceLE, Int.reduceLT, Int.reduceBEq, decide_true, decide_false, hlen, h1, h3, hm]
  subst hK
  refine EvC.cond (t := false) (by simp (maxSteps := 300000) only [evo_mov, evo_pick, evo_build, evo_load, evo_fld, evo_idxS, evo_idxA, evo_idxV, evo_part, evo_bin, evo_eqb, evo_eqn, evo_eqi, evo_eqp, evo_un, evo_conv, evo_len, evo_mm, evo_ext, evo_slc, evo_slcA, evo_nilck, evo_clo, evo_mkI, evo_alloc, evo_box, evo_bsl, evo_store, evo_mk, evo_app, evo_copy, evo_nil, wanted, q, eff, ev, evI, evB, St.put, List.length_set, List.getElem?_set, V.cells, blkAt, takeN, bk0, bk1, Option.bind_some, cond_true, cond_false, Nat.reduceEqDiff, if_false, if_true, ite_false, ite_true, reduceIte, List.append_assoc, List.cons_append, List.nil_append, Nat.reduceLT, List.length_append, List.length_cons, List.length_nil, Nat.reduceAdd, Nat.zero_add, List.getElem?_cons_zero, List.getElem?_cons_succ, binV, intBin, Option.map_some, beq_self_eq_true, Bool.and_true, lenV, Nat.reduceBEq, Bool.not_true, Bool.not_false, BEq.rfl, Int.reduceLE, Int.reduceLT, Int.reduceBEq, decide_true, decide_false, hlen, h1, h3, hm]) (EvC.skip ?_)
  refine EvC.seq (EvC.seq (EvC.reg ?_))
  generalize hK : (fun (ex : Ex) (S' : St) => _) = K
  simp (maxSteps := 300000) only [evo_mov, evo_pick, evo_build, evo_load, evo_fld, evo_idxS, evo_idxA, evo_idxV, evo_part, evo_bin, evo_eqb, evo_eqn, evo_eqi, evo_eqp, evo_un, evo_conv, evo_len, evo_mm, evo_ext, evo_slc, evo_slcA, evo_nilck, evo_clo, evo_mkI, evo_alloc, evo_box, evo_bsl, evo_store, evo_mk, evo_app, evo_copy, evo_nil, wanted, q, eff, ev, evI, evB, St.put, List.length_set, List.getElem?_set, V.cells, blkAt, takeN, bk0, bk1, Option.bind_some, cond_true, cond_false, Nat.reduceEqDiff, if_false, if_true, ite_false, ite_true, reduceIte, List.append_assoc, List.cons_append, List.nil_append, Nat.reduceLT, List.length_append, List.length_cons, List.length_nil, Nat.reduceAdd, Nat.zero_add, List.getElem?_cons_zero, List.getElem?_cons_succ, binV, intBin, Option.map_some, beq_self_eq_true, Bool.and_true, lenV, Nat.reduceBEq, Bool.not_true, Bool.not_false, BEq.rfl, Int.reduceLE, Int.reduceLT, Int.reduceBEq, decide_true, decide_false, hlen, h1, h3, hm]
  subst hK
  have hγ2 : (h ++ [Ob.blk [.sl β 0 1 8 c1, .sl γ 0 5 4000 c2]])[γ]? = some (.blk (List.replicate 4000 (gOne [])).flatten) := by
    rw [List.getElem?_append_left (List.getElem?_eq_some_iff.1 hγ).1, hγ, g4000_eq]
  refine EvC.block (EvC.mono (chk_loop (b0 := h.length) (γ := γ) (c2 := c2) (A := .sl β 0 1 8 c1) (G := .sl γ 0 5 4000 c2) (Nat.le_refl _) 4000 0 _ rfl ⟨by simp [hlen], by simp [List.getElem?_set, h1], by simp [List.getElem?_set, hlen], by simp [List.getElem?_set, hlen], by simp [hlen], rfl, bk0 _ _ _, hγ2⟩) ?_)
  clear hlen h1 h3 h31 h32 h33 env
  rintro ex S ⟨rfl, hS⟩
  obtain ⟨env, dfs, H⟩ := S
  obtain ⟨hlen, _, _, _, _, hd, _, _⟩ := hS
  simp only at hlen hd
  subst hd
  simp only [if_true]
  refine EvC.seq (EvC.reg ?_)
  generalize hK : (fun (ex : Ex) (S' : St) => _) = K
  simp (maxSteps := 300000) only [evo_mov, evo_pick, evo_build, evo_load, evo_fld, evo_idxS, evo_idxA, evo_idxV, evo_part, evo_bin, evo_eqb, evo_eqn, evo_eqi, evo_eqp, evo_un, evo_conv, evo_len, evo_mm, evo_ext, evo_slc, evo_slcA, evo_nilck, evo_clo, evo_mkI, evo_alloc, evo_box, evo_bsl, evo_store, evo_mk, evo_app, evo_copy, evo_nil, wanted, q, eff, ev, evI, evB, St.put, List.length_set, List.getElem?_set, V.cells, blkAt, takeN, bk0, bk1, Option.bind_some, cond_true, cond_false, Nat.reduceEqDiff, if_false, if_true, ite_false, ite_true, reduceIte, List.append_assoc, List.cons_append, List.nil_append, Nat.reduceLT, List.length_append, List.length_cons, List.length_nil, Nat.reduceAdd, Nat.zero_add, List.getElem?_cons_zero, List.getElem?_cons_succ, binV, intBin, Option.map_some, beq_self_eq_true, Bool.and_true, lenV, Nat.reduceBEq, Bool.not_true, Bool.not_false, BEq.rfl, Int.reduceLE, Int.reduceLT, Int.reduceBEq, decide_true, decide_false, hlen]
  subst hK
  refine EvC.ret ⟨.inl rfl, rfl, ?_⟩
  show (resAll _ _ [.tmp 2]).map mkRes = _
  simp only [resAll, resOne, List.length_set, List.getElem?_set, hlen, reduceIte, Nat.reduceEqDiff, Nat.reduceLT, Option.map_some, mkRes]
end Go.Proofs.Ytbjfkbkmoeibdaa
