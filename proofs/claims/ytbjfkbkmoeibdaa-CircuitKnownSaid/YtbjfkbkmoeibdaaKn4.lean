/-
  Check of 4000 gates, over the machine. Conditions: none.
-/
import Derived.Test.YtbjfkbkmoeibdaaKn3
namespace Go.Proofs.Ytbjfkbkmoeibdaa
open Go Go.Mx
set_option linter.unusedVariables false
set_option maxRecDepth 100000
set_option linter.unusedSimpArgs false
def chkL1 : C := (.seq (.reg false false [ ⟨some 34, .bin .lss (.s 33) (.s 32), none⟩]) (.seq (.cond (.s 34) (.skip) (.exit 0)) (.seq (.block 1 (.seq (.reg false false [ ⟨some 35, .idxS 1 (.s 31) (.s 33), none⟩, ⟨some 36, .load none (.s 35), none⟩, ⟨some 5, .mov (.s 36), none⟩]) (.seq (.seq (.reg false false [ ⟨some 37, .mov (.s 5), none⟩, ⟨some 38, .bin .lss (.s 37) (.c (.int .i64 1)), none⟩, ⟨some 39, .mov (.s 38), none⟩, ⟨some 40, .mov (.s 5), some (39, false)⟩, ⟨some 41, .bin .gtr (.s 40) (.c (.int .i64 4)), some (39, false)⟩, ⟨some 42, .pick (.s 39) (.c (.bool true)) (.s 41), none⟩]) (.cond (.s 42) (.seq (.reg false false [ ⟨some 2, .mov (.c (.int .i64 150)), none⟩]) (.ret)) (.skip))) (.reg false false [ ⟨some 43, .mov (.s 3), none⟩, ⟨some 44, .mov (.s 5), none⟩, ⟨some 45, .bin .mul (.s 43) (.s 44), none⟩, ⟨some 3, .mov (.s 45), none⟩])))) (.reg false false [ ⟨some 46, .bin .add (.s 33) (.c (.int .i64 1)), none⟩, ⟨some 33, .mov (.s 46), none⟩]))))
def cards8 : List V := [.lit (.int .i64 4), .lit (.int .i64 4), .lit (.int .i64 4), .lit (.int .i64 4), .lit (.int .i64 4), .lit (.int .i64 1), .lit (.int .i64 1), .lit (.int .i64 1)]
structure CrdS (b0 β : Nat) (c1 : Option Nat) (H : Heap) (i : Nat) (p : Int) (S : St) : Prop where
  len : S.env.length = 63
  e1 : S.env[1]? = some (.ptr b0 0)
  e3 : S.env[3]? = some (.lit (.int .i64 p))
  e31 : S.env[31]? = some (.sl β 0 1 8 c1)
  e32 : S.env[32]? = some (.lit (.int .i64 ((8 : Nat) : Int)))
  e33 : S.env[33]? = some (.lit (.int .i64 (i : Int)))
  dfs : S.dfs = []
  hp : S.heap = H
set_option maxHeartbeats 2000000 in
theorem crd_step {B b0 β i : Nat} {c1 : Option Nat} {H : Heap} {p p' c : Int} {S : St} (hi : i < 8) (hb : H[β]? = some (.blk cards8)) (hc : cards8[i]? = some (.lit (.int .i64 c))) (hc1 : decide (c < 1) = false) (hc4 : decide (c > 4) = false) (hp : IntKind.i64.wrap (p * c) = p')
    (h : CrdS b0 β c1 H i p S) : EvC (lookT tab) B none chkL1 S fun ex S' => ex = .normal ∧ CrdS b0 β c1 H (i + 1) p' S' := by
  obtain ⟨env, dfs, H0⟩ := S
  obtain ⟨hlen, h1, h3, h31, h32, h33, hd, hH⟩ := h
  simp only at hlen h1 h3 h31 h32 h33 hd hH
  subst hd
  subst hH
  have hlt : decide ((i : Int) < ((8 : Nat) : Int)) = true := by simp; omega
  have hge : decide ((0 : Int) ≤ (i : Int)) = true := by simp
  have hw : IntKind.i64.wrap ((i : Int) + 1) = ((i + 1 : Nat) : Int) := by
    simp only [IntKind.wrap, IntKind.bits, IntKind.signed]; simp; omega
  unfold chkL1
  refine EvC.seq (EvC.reg ?_)
  generalize hK : (fun (ex : Ex) (S' : St) => _) = K
  simp (maxSteps := 300000) only [evo_mov, evo_pick, evo_build, evo_load, evo_fld, evo_idxS, evo_idxA, evo_idxV, evo_part, evo_bin, evo_eqb, evo_eqn, evo_eqi, evo_eqp, evo_un, evo_conv, evo_len, evo_mm, evo_ext, evo_slc, evo_slcA, evo_nilck, evo_clo, evo_mkI, evo_alloc, evo_box, evo_bsl, evo_store, evo_mk, evo_app, evo_copy, evo_nil, wanted, q, eff, ev, evI, evB, St.put, List.length_set, List.getElem?_set, V.cells, blkAt, takeN, bk0, bk1, Option.bind_some, cond_true, cond_false, Nat.reduceEqDiff, if_false, if_true, ite_false, ite_true, reduceIte, List.append_assoc, List.cons_append, List.nil_append, Nat.reduceLT, List.length_append, List.length_cons, List.length_nil, Nat.reduceAdd, Nat.zero_add, List.getElem?_cons_zero, List.getElem?_cons_succ, binV, intBin, Option.map_some, beq_self_eq_true, Bool.and_true, lenV, Nat.reduceBEq, Bool.not_true, Bool.not_false, BEq.rfl, Int.reduceLE, Int.reduceLT, Int.reduceBEq, decide_true, decide_false, hlen, h1, h3, h31, h32, h33, hlt, hge, hw, hb, hc, hc1, hc4, hp, Int.toNat_natCast, Nat.mul_one]
  subst hK
  refine EvC.seq (EvC.cond (t := true) (by simp (maxSteps := 300000) only [evo_mov, evo_pick, evo_build, evo_load, evo_fld, evo_idxS, evo_idxA, evo_idxV, evo_part, evo_bin, evo_eqb, evo_eqn, evo_eqi, evo_eqp, evo_un, evo_conv, evo_len, evo_mm, evo_ext, evo_slc, evo_slcA, evo_nilck, evo_clo, evo_mkI, evo_alloc, evo_box, evo_bsl, evo_store, evo_mk, evo_app, evo_copy, evo_nil, wanted, q, eff, ev, evI, evB, St.put, List.length_set, List.getElem?_set, V.cells, blkAt, takeN, bk0, bk1, Option.bind_some, cond_true, cond_false, Nat.reduceEqDiff, if_false, if_true, ite_false, ite_true, reduceIte, List.append_assoc, List.cons_append, List.nil_append, Nat.reduceLT, List.length_append, List.length_cons, List.length_nil, Nat.reduceAdd, Nat.zero_add, List.getElem?_cons_zero, List.getElem?_cons_succ, binV, intBin, Option.map_some, beq_self_eq_true, Bool.and_true, lenV, Nat.reduceBEq, Bool.not_true, Bool.not_false, BEq.rfl, Int.reduceLE, Int.reduceLT, Int.reduceBEq, decide_true, decide_false, hlen, h1, h3, h31, h32, h33, hlt, hge, hw, hb, hc, hc1, hc4, hp, Int.toNat_natCast, Nat.mul_one]) (EvC.skip ?_))
  show EvC _ _ _ (.seq (.block 1 _) _) _ _
  refine EvC.seq (EvC.block (EvC.seq (EvC.reg ?_)))
  generalize hK : (fun (ex : Ex) (S' : St) => _) = K
  simp (maxSteps := 300000) only [evo_mov, evo_pick, evo_build, evo_load, evo_fld, evo_idxS, evo_idxA, evo_idxV, evo_part, evo_bin, evo_eqb, evo_eqn, evo_eqi, evo_eqp, evo_un, evo_conv, evo_len, evo_mm, evo_ext, evo_slc, evo_slcA, evo_nilck, evo_clo, evo_mkI, evo_alloc, evo_box, evo_bsl, evo_store, evo_mk, evo_app, evo_copy, evo_nil, wanted, q, eff, ev, evI, evB, St.put, List.length_set, List.getElem?_set, V.cells, blkAt, takeN, bk0, bk1, Option.bind_some, cond_true, cond_false, Nat.reduceEqDiff, if_false, if_true, ite_false, ite_true, reduceIte, List.append_assoc, List.cons_append, List.nil_append, Nat.reduceLT, List.length_append, List.length_cons, List.length_nil, Nat.reduceAdd, Nat.zero_add, List.getElem?_cons_zero, List.getElem?_cons_succ, binV, intBin, Option.map_some, beq_self_eq_true, Bool.and_true, lenV, Nat.reduceBEq, Bool.not_true, Bool.not_false, BEq.rfl, Int.reduceLE, Int.reduceLT, Int.reduceBEq, decide_true, decide_false, hlen, h1, h3, h31, h32, h33, hlt, hge, hw, hb, hc, hc1, hc4, hp, Int.toNat_natCast, Nat.mul_one]
  subst hK
  refine EvC.seq (EvC.seq (EvC.reg ?_))
  generalize hK : (fun (ex : Ex) (S' : St) => _) = K
  simp (maxSteps := 300000) only [evo_mov, evo_pick, evo_build, evo_load, evo_fld, evo_idxS, evo_idxA, evo_idxV, evo_part, evo_bin, evo_eqb, evo_eqn, evo_eqi, evo_eqp, evo_un, evo_conv, evo_len, evo_mm, evo_ext, evo_slc, evo_slcA, evo_nilck, evo_clo, evo_mkI, evo_alloc, evo_box, evo_bsl, evo_store, evo_mk, evo_app, evo_copy, evo_nil, wanted, q, eff, ev, evI, evB, St.put, List.length_set, List.getElem?_set, V.cells, blkAt, takeN, bk0, bk1, Option.bind_some, cond_true, cond_false, Nat.reduceEqDiff, if_false, if_true, ite_false, ite_true, reduceIte, List.append_assoc, List.cons_append, List.nil_append, Nat.reduceLT, List.length_append, List.length_cons, List.length_nil, Nat.reduceAdd, Nat.zero_add, List.getElem?_cons_zero, List.getElem?_cons_succ, binV, intBin, Option.map_some, beq_self_eq_true, Bool.and_true, lenV, Nat.reduceBEq, Bool.not_true, Bool.not_false, BEq.rfl, Int.reduceLE, Int.reduceLT, Int.reduceBEq, decide_true, decide_false, hlen, h1, h3, h31, h32, h33, hlt, hge, hw, hb, hc, hc1, hc4, hp, Int.toNat_natCast, Nat.mul_one]
  subst hK
  refine EvC.cond (t := false) (by simp (maxSteps := 300000) only [evo_mov, evo_pick, evo_build, evo_load, evo_fld, evo_idxS, evo_idxA, evo_idxV, evo_part, evo_bin, evo_eqb, evo_eqn, evo_eqi, evo_eqp, evo_un, evo_conv, evo_len, evo_mm, evo_ext, evo_slc, evo_slcA, evo_nilck, evo_clo, evo_mkI, evo_alloc, evo_box, evo_bsl, evo_store, evo_mk, evo_app, evo_copy, evo_nil, wanted, q, eff, ev, evI, evB, St.put, List.length_set, List.getElem?_set, V.cells, blkAt, takeN, bk0, bk1, Option.bind_some, cond_true, cond_false, Nat.reduceEqDiff, if_false, if_true, ite_false, ite_true, reduceIte, List.append_assoc, List.cons_append, List.nil_append, Nat.reduceLT, List.length_append, List.length_cons, List.length_nil, Nat.reduceAdd, Nat.zero_add, List.getElem?_cons_zero, List.getElem?_cons_succ, binV, intBin, Option.map_some, beq_self_eq_true, Bool.and_true, lenV, Nat.reduceBEq, Bool.not_true, Bool.not_false, BEq.rfl, Int.reduceLE, Int.reduceLT, Int.reduceBEq, decide_true, decide_false, hlen, h1, h3, h31, h32, h33, hlt, hge, hw, hb, hc, hc1, hc4, hp, Int.toNat_natCast, Nat.mul_one]) (EvC.skip ?_)
  show EvC _ _ _ (.reg false false _) _ _
  refine EvC.reg ?_
  generalize hK : (fun (ex : Ex) (S' : St) => _) = K
  simp (maxSteps := 300000) only [evo_mov, evo_pick, evo_build, evo_load, evo_fld, evo_idxS, evo_idxA, evo_idxV, evo_part, evo_bin, evo_eqb, evo_eqn, evo_eqi, evo_eqp, evo_un, evo_conv, evo_len, evo_mm, evo_ext, evo_slc, evo_slcA, evo_nilck, evo_clo, evo_mkI, evo_alloc, evo_box, evo_bsl, evo_store, evo_mk, evo_app, evo_copy, evo_nil, wanted, q, eff, ev, evI, evB, St.put, List.length_set, List.getElem?_set, V.cells, blkAt, takeN, bk0, bk1, Option.bind_some, cond_true, cond_false, Nat.reduceEqDiff, if_false, if_true, ite_false, ite_true, reduceIte, List.append_assoc, List.cons_append, List.nil_append, Nat.reduceLT, List.length_append, List.length_cons, List.length_nil, Nat.reduceAdd, Nat.zero_add, List.getElem?_cons_zero, List.getElem?_cons_succ, binV, intBin, Option.map_some, beq_self_eq_true, Bool.and_true, lenV, Nat.reduceBEq, Bool.not_true, Bool.not_false, BEq.rfl, Int.reduceLE, Int.reduceLT, Int.reduceBEq, decide_true, decide_false, hlen, h1, h3, h31, h32, h33, hlt, hge, hw, hb, hc, hc1, hc4, hp, Int.toNat_natCast, Nat.mul_one]
  subst hK
  show EvC _ _ _ (.reg false false _) _ _
  refine EvC.reg ?_
  simp (maxSteps := 300000) only [evo_mov, evo_pick, evo_build, evo_load, evo_fld, evo_idxS, evo_idxA, evo_idxV, evo_part, evo_bin, evo_eqb, evo_eqn, evo_eqi, evo_eqp, evo_un, evo_conv, evo_len, evo_mm, evo_ext, evo_slc, evo_slcA, evo_nilck, evo_clo, evo_mkI, evo_alloc, evo_box, evo_bsl, evo_store, evo_mk, evo_app, evo_copy, evo_nil, wanted, q, eff, ev, evI, evB, St.put, List.length_set, List.getElem?_set, V.cells, blkAt, takeN, bk0, bk1, Option.bind_some, cond_true, cond_false, Nat.reduceEqDiff, if_false, if_true, ite_false, ite_true, reduceIte, List.append_assoc, List.cons_append, List.nil_append, Nat.reduceLT, List.length_append, List.length_cons, List.length_nil, Nat.reduceAdd, Nat.zero_add, List.getElem?_cons_zero, List.getElem?_cons_succ, binV, intBin, Option.map_some, beq_self_eq_true, Bool.and_true, lenV, Nat.reduceBEq, Bool.not_true, Bool.not_false, BEq.rfl, Int.reduceLE, Int.reduceLT, Int.reduceBEq, decide_true, decide_false, hlen, h1, h3, h31, h32, h33, hlt, hge, hw, hb, hc, hc1, hc4, hp, Int.toNat_natCast, Nat.mul_one]
  exact ⟨trivial, ⟨by simp [hlen], by simp [List.getElem?_set, h1], by simp [List.getElem?_set, hlen], by simp [List.getElem?_set, h31], by simp [List.getElem?_set, h32], by simp [hlen], rfl, rfl⟩⟩
end Go.Proofs.Ytbjfkbkmoeibdaa
