/-
  The oracle of CircuitKnown says what is so. Conditions: none.
-/
import Derived.Test.YtbjfkbkmoeibdaaKn7
namespace Go.Proofs.Ytbjfkbkmoeibdaa
open Go Go.Mx
set_option linter.unusedVariables false
set_option maxRecDepth 100000
set_option linter.unusedSimpArgs false
theorem look59 : lookT tab 59 = some fn59 := by kernel_rfl
theorem look79 : lookT tab 79 = some fn79 := by kernel_rfl
instance : Inhabited St := ⟨⟨[], [], []⟩⟩
def st79 (c : Nat) (h : Heap) : St := ((exec Rec.none 0 none fn79.c ⟨[.lit (.int .u64 1), .lit (.int .u64 (c : Int))] ++ List.replicate (fn79.N - 2) undefV, [], h⟩).getD (.normal, default)).2
theorem mul79a (B : Nat) (h : Heap) (hB : B ≤ h.length) : EvF (lookT tab) B 79 [.lit (.int .u64 1), .lit (.int .u64 ((4000 : Nat) : Int))] h fun cr h' => cr = .ret (.tup [.lit (.int .u64 0), .lit (.int .u64 ((4000 : Nat) : Int))]) ∧ h' = h :=
  EvF.pure look79 rfl (Nat.le_of_ble_eq_true (by kernel_rfl)) hB rfl ⟨0, .ret, st79 4000 h, fun n _ => by kernel_rfl, .inl rfl, by kernel_rfl, by kernel_rfl⟩
theorem mul79b (B : Nat) (h : Heap) (hB : B ≤ h.length) : EvF (lookT tab) B 79 [.lit (.int .u64 1), .lit (.int .u64 ((4001 : Nat) : Int))] h fun cr h' => cr = .ret (.tup [.lit (.int .u64 0), .lit (.int .u64 ((4001 : Nat) : Int))]) ∧ h' = h :=
  EvF.pure look79 rfl (Nat.le_of_ble_eq_true (by kernel_rfl)) hB rfl ⟨0, .ret, st79 4001 h, fun n _ => by kernel_rfl, .inl rfl, by kernel_rfl, by kernel_rfl⟩
theorem mul59 (c : Nat) (B : Nat) (h : Heap) (hB : B ≤ h.length) (h79 : EvF (lookT tab) h.length 79 [.lit (.int .u64 1), .lit (.int .u64 (c : Int))] h fun cr h' => cr = .ret (.tup [.lit (.int .u64 0), .lit (.int .u64 (c : Int))]) ∧ h' = h) :
    EvF (lookT tab) B 59 [.lit (.int .u64 1), .lit (.int .u64 (c : Int))] h fun cr h' => cr = .ret (.tup [.lit (.int .u64 0), .lit (.int .u64 (c : Int))]) ∧ h' = h := by
  refine EvF.pure look59 rfl (by show 2 ≤ 30; decide) hB rfl ?_
  generalize henv : (_ ++ List.replicate _ undefV : List V) = env
  have hlen : env.length = 30 := by rw [← henv]; rfl
  have h0 : env[0]? = some (.lit (.int .u64 1)) := by rw [← henv]; rfl
  have h1 : env[1]? = some (.lit (.int .u64 (c : Int))) := by rw [← henv]; rfl
  clear henv
  show EvC _ _ _ (.seq (.reg false false _) (.seq (.cond (.c (.bool false)) _ .skip) (.seq (.reg false false _) (.seq (.reg false false _) .ret)))) _ _
  refine EvC.seq (EvC.reg ?_)
  generalize hK : (fun (ex : Ex) (S' : St) => _) = K
  simp (maxSteps := 300000) only [evo_mov, evo_pick, evo_build, evo_load, evo_fld, evo_idxS, evo_idxA, evo_idxV, evo_part, evo_bin, evo_eqb, evo_eqn, evo_eqi, evo_eqp, evo_un, evo_conv, evo_len, evo_mm, evo_ext, evo_slc, evo_slcA, evo_nilck, evo_clo, evo_mkI, evo_alloc, evo_box, evo_bsl, evo_store, evo_mk, evo_app, evo_copy, evo_nil, wanted, q, eff, ev, evI, evB, St.put, List.length_set, List.getElem?_set, V.cells, blkAt, takeN, bk0, bk1, Option.bind_some, cond_true, cond_false, Nat.reduceEqDiff, if_false, if_true, ite_false, ite_true, reduceIte, List.append_assoc, List.cons_append, List.nil_append, Nat.reduceLT, List.length_append, List.length_cons, List.length_nil, Nat.reduceAdd, Nat.zero_add, List.getElem?_cons_zero, List.getElem?_cons_succ, binV, intBin, Option.map_some, beq_self_eq_true, Bool.and_true, lenV, Nat.reduceBEq, Bool.not_true, Bool.not_false, BEq.rfl, Int.reduceLE, Int.reduceLT, Int.reduceBEq, decide_true, decide_false, hlen, h0, h1, evs]
  subst hK
  refine EvC.seq (EvC.cond (t := false) rfl (EvC.skip ?_))
  show EvC _ _ _ (.seq (.reg false false _) _) _ _
  refine EvC.seq (EvC.reg ?_)
  generalize hK : (fun (ex : Ex) (S' : St) => _) = K
  simp (maxSteps := 300000) only [evo_mov, evo_pick, evo_build, evo_load, evo_fld, evo_idxS, evo_idxA, evo_idxV, evo_part, evo_bin, evo_eqb, evo_eqn, evo_eqi, evo_eqp, evo_un, evo_conv, evo_len, evo_mm, evo_ext, evo_slc, evo_slcA, evo_nilck, evo_clo, evo_mkI, evo_alloc, evo_box, evo_bsl, evo_store, evo_mk, evo_app, evo_copy, evo_nil, wanted, q, eff, ev, evI, evB, St.put, List.length_set, List.getElem?_set, V.cells, blkAt, takeN, bk0, bk1, Option.bind_some, cond_true, cond_false, Nat.reduceEqDiff, if_false, if_true, ite_false, ite_true, reduceIte, List.append_assoc, List.cons_append, List.nil_append, Nat.reduceLT, List.length_append, List.length_cons, List.length_nil, Nat.reduceAdd, Nat.zero_add, List.getElem?_cons_zero, List.getElem?_cons_succ, binV, intBin, Option.map_some, beq_self_eq_true, Bool.and_true, lenV, Nat.reduceBEq, Bool.not_true, Bool.not_false, BEq.rfl, Int.reduceLE, Int.reduceLT, Int.reduceBEq, decide_true, decide_false, hlen, h0, h1, evs]
  refine EvO.call (vs := [.lit (.int .u64 1), .lit (.int .u64 (c : Int))]) rfl rfl (by simp (maxSteps := 300000) only [evo_mov, evo_pick, evo_build, evo_load, evo_fld, evo_idxS, evo_idxA, evo_idxV, evo_part, evo_bin, evo_eqb, evo_eqn, evo_eqi, evo_eqp, evo_un, evo_conv, evo_len, evo_mm, evo_ext, evo_slc, evo_slcA, evo_nilck, evo_clo, evo_mkI, evo_alloc, evo_box, evo_bsl, evo_store, evo_mk, evo_app, evo_copy, evo_nil, wanted, q, eff, ev, evI, evB, St.put, List.length_set, List.getElem?_set, V.cells, blkAt, takeN, bk0, bk1, Option.bind_some, cond_true, cond_false, Nat.reduceEqDiff, if_false, if_true, ite_false, ite_true, reduceIte, List.append_assoc, List.cons_append, List.nil_append, Nat.reduceLT, List.length_append, List.length_cons, List.length_nil, Nat.reduceAdd, Nat.zero_add, List.getElem?_cons_zero, List.getElem?_cons_succ, binV, intBin, Option.map_some, beq_self_eq_true, Bool.and_true, lenV, Nat.reduceBEq, Bool.not_true, Bool.not_false, BEq.rfl, Int.reduceLE, Int.reduceLT, Int.reduceBEq, decide_true, decide_false, hlen, h0, h1, evs]) ?_
  refine EvF.mono h79 ?_
  rintro cr h' ⟨rfl, rfl⟩
  simp (maxSteps := 300000) only [evo_mov, evo_pick, evo_build, evo_load, evo_fld, evo_idxS, evo_idxA, evo_idxV, evo_part, evo_bin, evo_eqb, evo_eqn, evo_eqi, evo_eqp, evo_un, evo_conv, evo_len, evo_mm, evo_ext, evo_slc, evo_slcA, evo_nilck, evo_clo, evo_mkI, evo_alloc, evo_box, evo_bsl, evo_store, evo_mk, evo_app, evo_copy, evo_nil, wanted, q, eff, ev, evI, evB, St.put, List.length_set, List.getElem?_set, V.cells, blkAt, takeN, bk0, bk1, Option.bind_some, cond_true, cond_false, Nat.reduceEqDiff, if_false, if_true, ite_false, ite_true, reduceIte, List.append_assoc, List.cons_append, List.nil_append, Nat.reduceLT, List.length_append, List.length_cons, List.length_nil, Nat.reduceAdd, Nat.zero_add, List.getElem?_cons_zero, List.getElem?_cons_succ, binV, intBin, Option.map_some, beq_self_eq_true, Bool.and_true, lenV, Nat.reduceBEq, Bool.not_true, Bool.not_false, BEq.rfl, Int.reduceLE, Int.reduceLT, Int.reduceBEq, decide_true, decide_false, hlen, h0, h1, evs]
  subst hK
  show EvC _ _ _ (.seq (.reg false false _) _) _ _
  refine EvC.seq (EvC.reg ?_)
  generalize hK : (fun (ex : Ex) (S' : St) => _) = K
  simp (maxSteps := 300000) only [evo_mov, evo_pick, evo_build, evo_load, evo_fld, evo_idxS, evo_idxA, evo_idxV, evo_part, evo_bin, evo_eqb, evo_eqn, evo_eqi, evo_eqp, evo_un, evo_conv, evo_len, evo_mm, evo_ext, evo_slc, evo_slcA, evo_nilck, evo_clo, evo_mkI, evo_alloc, evo_box, evo_bsl, evo_store, evo_mk, evo_app, evo_copy, evo_nil, wanted, q, eff, ev, evI, evB, St.put, List.length_set, List.getElem?_set, V.cells, blkAt, takeN, bk0, bk1, Option.bind_some, cond_true, cond_false, Nat.reduceEqDiff, if_false, if_true, ite_false, ite_true, reduceIte, List.append_assoc, List.cons_append, List.nil_append, Nat.reduceLT, List.length_append, List.length_cons, List.length_nil, Nat.reduceAdd, Nat.zero_add, List.getElem?_cons_zero, List.getElem?_cons_succ, binV, intBin, Option.map_some, beq_self_eq_true, Bool.and_true, lenV, Nat.reduceBEq, Bool.not_true, Bool.not_false, BEq.rfl, Int.reduceLE, Int.reduceLT, Int.reduceBEq, decide_true, decide_false, hlen, h0, h1, evs]
  subst hK
  refine EvC.ret ⟨.inl rfl, rfl, ?_⟩
  show (resAll _ _ [.tmp 4, .tmp 5]).map mkRes = _
  simp only [resAll, resOne, List.length_set, List.getElem?_set, hlen, reduceIte, Nat.reduceEqDiff, Nat.reduceLT, Option.map_some, mkRes]
end Go.Proofs.Ytbjfkbkmoeibdaa
