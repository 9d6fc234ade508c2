/-
  Contracts: derive. Conditions: none.
-/
import Derived.Test.YtbjfkbkmoeibdaaDeCcB
namespace Go.Proofs.Ytbjfkbkmoeibdaa.C
open Go Go.Mx Go.Lx
set_option linter.unusedSimpArgs false
set_option linter.unusedVariables false
set_option maxRecDepth 100000
/-- Memory while gates are evaluated. -/
def evL2 (c : Circ) (input vals : List Int) (es : List (List D)) : List LB := [.cells (circC false c), .cells (circC false c), .cells (runC c input (.sl 7 0 1 vals.length (some es.length) es.length)), .cells [.ptr 2 0], .cells [.lit (.slice none 0 0)], .cells [dI 0], .cells rulesC, .els 1 es]
theorem evL2_run {c : Circ} {input vals : List Int} {es : List (List D)} {x : LB} (h1 : ∀ i (h : i < vals.length), es[i]? = some [dI vals[i]]) (h2 : ∀ v ∈ vals, 0 ≤ v ∧ v < 4611686018427387904) (h3 : vals.length ≤ es.length) (h4 : ∀ e ∈ es, ∃ n, e = [dI n]) (hx : x.sc 9) : RunIn c input vals 7 es (evL2 c input vals es ++ [x]) := by
  refine ⟨rfl, rfl, h1, h2, h3, ?_⟩
  have hes : ∀ e ∈ es, D.scs 9 e := fun e he => by obtain ⟨n, rfl⟩ := h4 e he; exact ⟨trivial, trivial⟩
  simp only [evL2, scAll, List.cons_append, List.nil_append, List.length_cons, List.length_nil, LB.sc, D.scs, D.sc, runC, rulesC, circC, ints, gatesD, and_true, true_and, Nat.reduceLT, Nat.reduceAdd]
  exact ⟨hes, hx⟩
theorem evL2_sc {c : Circ} {input vals : List Int} {es : List (List D)} (h4 : ∀ e ∈ es, ∃ n, e = [dI n]) : scAll 8 (evL2 c input vals es) := by
  have hes : ∀ e ∈ es, D.scs 8 e := fun e he => by obtain ⟨n, rfl⟩ := h4 e he; exact ⟨trivial, trivial⟩
  simp only [evL2, scAll, LB.sc, D.scs, D.sc, runC, rulesC, circC, ints, gatesD, and_true, true_and, Nat.reduceLT]
  exact hes
set_option maxHeartbeats 4000000 in
theorem evaluate2_ok (c : Circ) (input : List Int) (hv : validB c = true) (ha : ∀ g ∈ c.gates, g.args.length < 1000000) (hi : input.length = c.cards.length) :
    CallL mC false 51 [.ptr 2 0] [.cells (circC false c), .cells (circC false c), .cells (runC c input (.lit (.slice none 0 0))), .cells [.ptr 2 0], .cells [.lit (.slice none 0 0)], .cells [dI 0]]
      (fun d L' => ∃ vals es, evalGo input [] c.gates = some vals ∧ vals.length = c.gates.length ∧ (∀ v ∈ vals, 0 ≤ v ∧ v < 4611686018427387904) ∧ es.length = c.gates.length ∧ (∀ i (h : i < vals.length), es[i]? = some [dI vals[i]]) ∧ (∀ e ∈ es, ∃ n, e = [dI n]) ∧ L' = evL2 c input vals es)
      fun d L' => evalGo input [] c.gates = none ∧ (∃ t r, d = .ifc t r) ∧ L'[5]? = some (.cells [dI 0]) := by
  refine CallL.code has51 rfl (by simp [fn51]) ?_
  obtain ⟨hn1, hn2⟩ := validB_len hv
  have er : runC c input (.lit (.slice none 0 0)) = [ints false c.cards, gatesD false c.gates, ints false input, (.lit (.slice none 0 0))] := rfl
  have hm : (c.gates.length : Int) * 8 ≤ (maxBytes : Int) := by show _ ≤ (140737488355328 : Int); omega
  have hm' : ((c.gates.length : Int) * ((8 : Nat) : Int)) ≤ (maxBytes : Int) := hm
  simp only [wp, stepL_true, doI, quietI, isCallI, wantedD, LSt.put, LSt.putO, LSt.putE, qL, effL, evD, evDs, intD, lk, loadD_ptr, fldD, takeD, Lx.cellsO, cells_agg, cells_sl, cells_clo, fillD, putD, storeD, argsE, Nat.reduceEqDiff, Nat.reduceLT, Nat.reduceAdd, Nat.reduceLeDiff, Bool.not_false, and_self, if_true, if_false, List.getElem?_cons_zero, List.getElem?_cons_succ, List.length_cons, List.length_nil, List.cons_append, List.nil_append, Nat.zero_add, Nat.add_zero, List.drop_zero, List.drop_succ_cons, List.take_succ_cons, List.take_zero, List.map_cons, List.map_nil, List.set_cons_zero, List.set_cons_succ, reduceCtorEq, fn51, er, len_gates, Int.natCast_nonneg, hm', Int.toNat_natCast, Int.toNat_zero, Int.le_refl]
  refine EvL.loop (α := List Int × List (List D)) (fun a => ⟨58, [(0, .ptr 2 0), (2, .ptr 6 0), (29, gatesD false c.gates), (30, dI c.gates.length), (31, dI a.1.length)], evL2 c input a.1 a.2⟩)
    (fun a => a.1.length ≤ c.gates.length ∧ a.2.length = c.gates.length ∧ (∀ i (h : i < a.1.length), a.2[i]? = some [dI a.1[i]]) ∧ (∀ v ∈ a.1, 0 ≤ v ∧ v < 4611686018427387904) ∧ (∀ e ∈ a.2, ∃ n, e = [dI n]) ∧ evalGo input a.1 (c.gates.drop a.1.length) = evalGo input [] c.gates) (fun a => c.gates.length - a.1.length) ([], List.replicate c.gates.length [dI 0])
    (by simp only [evL2, runC, rulesC, List.length_replicate, List.length_nil]; exact Weak.sub (by simp [envSub, lk])) ⟨by simp, by simp, by simp, by simp, fun e he => ⟨0, (List.mem_replicate.1 he).2⟩, by simp⟩ ?_
  rintro ⟨vals, es⟩ ⟨p1, p2, p3, p4, p5, p6⟩
  simp only at p1 p2 p3 p4 p5 p6
  refine wp_sound ?_
  have eev : evL2 c input vals es = [.cells (circC false c), .cells (circC false c), .cells [ints false c.cards, gatesD false c.gates, ints false input, .sl 7 0 1 vals.length (some es.length) es.length], .cells [.ptr 2 0], .cells [.lit (.slice none 0 0)], .cells [dI 0], .cells rulesC, .els 1 es] := rfl
  by_cases hk : vals.length < c.gates.length
  · have hlt : decide ((vals.length : Int) < (c.gates.length : Int)) = true := by simp; omega
    have hw2 : IntKind.i64.wrap ((vals.length : Int) + 1) = ((vals.length + 1 : Nat) : Int) := by rw [wrap64 (by omega) (by omega)]; rfl
    have hgc : gateC false c.gates[vals.length] = [dI c.gates[vals.length].kind, dI c.gates[vals.length].var, dI c.gates[vals.length].val, dI c.gates[vals.length].n, ints false c.gates[vals.length].args] := rfl
    have hR := evL2_run (c := c) (input := input) (x := .cells (gateC false c.gates[vals.length])) p3 p4 (by omega) p5 (by simp [LB.sc, D.scs, D.sc, gateC, ints])
    obtain ⟨⟨g1, g2⟩, ⟨g3, g4⟩, f, g5, g6⟩ := gate_ok hR c.gates[vals.length] (ha _ (List.getElem_mem hk)) hi (validB_get hv _ hk)
    have g4' : c.gates[vals.length].kind < ((5 : Nat) : Int) := g4
    rw [drop_cons hk, evalGo] at p6
    simp only [wp, stepL_true, doI, quietI, isCallI, wantedD, LSt.put, LSt.putO, LSt.putE, qL, effL, evD, intD, boolD, litD, litV, lk, pickC_true, loadD_ptr, loadD_fptr, fldD, takeD, slotD, Lx.cellsO, cells_agg, putD, storeD, binV, intBin, Option.map_some, cond_true, beq_self_eq_true, Nat.reduceEqDiff, Nat.reduceLT, Nat.reduceAdd, Nat.reduceLeDiff, Bool.not_true, Bool.not_false, and_self, if_true, if_false, List.getElem?_cons_zero, List.getElem?_cons_succ, List.length_cons, List.length_nil, List.cons_append, List.nil_append, Nat.zero_add, Nat.add_zero, List.drop_zero, List.drop_succ_cons, List.take_succ_cons, List.take_zero, List.map_cons, List.map_nil, List.set_cons_zero, List.set_cons_succ, reduceCtorEq, hlt, idx_gates _ _ hk, eev, hgc, g3, g4', g5, Nat.mul_one]
    refine EvL.callv (f := f) (first := [.ptr 2 0]) (cap := []) (ds := [.agg (gateC false c.gates[vals.length])]) rfl rfl rfl g6 ?_ (fun _ _ (h : False) => False.elim h)
    rintro r L' ⟨rfl, rfl⟩
    cases hx : (gateV input vals c.gates[vals.length] == 4611686018427387904)
    · have hx' : gateV input vals c.gates[vals.length] ≠ 4611686018427387904 := by simpa using hx
      rw [if_neg hx'] at p6
      have hq1 : vals.length + 1 ≤ es.length := by omega
      simp only [wp, stepL_true, doI, quietI, isCallI, wantedD, LSt.put, LSt.putO, LSt.putE, qL, effL, evD, boolD, litD, litV, lk, pickC_false, loadD_ptr, fldD, takeD, esOf, Lx.cellsO, cells_lit, cells_sl, oneV, fillE, putD, srcD_sl, storeD, appD, binV, intBin, Option.map_some, cond_true, beq_self_eq_true, Nat.reduceEqDiff, Nat.reduceLT, Nat.reduceAdd, Nat.reduceLeDiff, Bool.not_false, true_and, and_self, if_true, if_false, List.getElem?_cons_zero, List.getElem?_cons_succ, List.length_cons, List.length_nil, List.append_assoc, List.cons_append, List.nil_append, Nat.zero_add, List.drop_zero, List.drop_succ_cons, List.take_succ_cons, List.take_zero, List.map_cons, List.map_nil, List.set_cons_zero, List.set_cons_succ, List.replicate_succ, List.replicate_zero, reduceCtorEq, hx, eev, hq1, hw2]
      refine ⟨(vals ++ [gateV input vals c.gates[vals.length]], es.take vals.length ++ [[dI (gateV input vals c.gates[vals.length])]] ++ es.drop (vals.length + 1)), ⟨by simp; omega, by simp; omega, es_step p3 (by omega), ?_, ?_, by simpa using p6⟩, by simp; omega, ?_⟩
      · intro v hvm
        simp only [List.mem_append, List.mem_cons, List.not_mem_nil, or_false] at hvm
        rcases hvm with hvm | rfl
        · exact p4 v hvm
        · omega
      · intro e he
        simp only [List.append_assoc, List.mem_append, List.mem_cons, List.cons_append, List.nil_append] at he
        rcases he with he | rfl | he
        · exact p5 e (List.mem_of_mem_take he)
        · exact ⟨_, rfl⟩
        · exact p5 e (List.mem_of_mem_drop he)
      · have el : (es.take vals.length).length + ((es.drop (vals.length + 1)).length + 1) = es.length := by simp; omega
        refine Weak.cutD ?_ (by simp [evL2]) ?_ (evL2_sc ?_)
        · simp only [evL2, runC, List.append_assoc, el, List.length_append, List.length_cons, List.length_nil, Nat.zero_add, List.drop_succ_cons, List.drop_zero, List.cons_append, List.nil_append]
        · simp [envOk, lk, D.sc, gatesD, evL2]
        · intro e he
          simp only [List.append_assoc, List.mem_append, List.mem_cons, List.cons_append, List.nil_append] at he
          rcases he with he | rfl | he
          · exact p5 e (List.mem_of_mem_take he)
          · exact ⟨_, rfl⟩
          · exact p5 e (List.mem_of_mem_drop he)
    · have hx' : gateV input vals c.gates[vals.length] = 4611686018427387904 := by simpa using hx
      rw [if_pos hx'] at p6
      simp only [wp, stepL_true, doI, quietI, isCallI, wantedD, LSt.put, LSt.putO, qL, evD, boolD, litD, litV, lk, pickC_true, Lx.cellsO, cells_lit, oneV, fillD, putD, binV, intBin, Option.map_some, cond_true, beq_self_eq_true, Nat.reduceEqDiff, Nat.reduceLT, Nat.reduceLeDiff, Bool.not_false, and_self, if_true, if_false, List.length_cons, List.length_nil, List.cons_append, List.nil_append, Nat.zero_add, List.drop_zero, List.drop_succ_cons, List.take_zero, List.map_cons, List.map_nil, reduceCtorEq, hx, eev]
      exact EvL.panic rfl rfl ⟨p6.symm, ⟨_, _, rfl⟩, rfl⟩
  · have hlt : decide ((vals.length : Int) < (c.gates.length : Int)) = false := by simp; omega
    rw [List.drop_of_length_le (by omega), evalGo] at p6
    simp only [wp, stepL_true, doI, quietI, isCallI, wantedD, LSt.put, LSt.putO, qL, evD, boolD, litD, litV, lk, pickC_false, binV, intBin, Option.map_some, cond_true, beq_self_eq_true, Nat.reduceEqDiff, Nat.reduceLT, Bool.not_false, if_true, if_false, reduceCtorEq, hlt]
    exact ⟨_, rfl, vals, es, p6.symm, by omega, p4, p2, p3, p5, rfl⟩
end Go.Proofs.Ytbjfkbkmoeibdaa.C
namespace Go.Proofs.Ytbjfkbkmoeibdaa.C
open Go Go.Mx Go.Lx
set_option linter.unusedSimpArgs false
set_option linter.unusedVariables false
set_option maxRecDepth 100000
theorem has76 : mC.has 76 fn76 := ⟨rfl, fun _ _ _ => rfl⟩
/-- The product of the values ahead of an argument, and behind it. -/
def befo (vals args : List Int) (i : Nat) : Int := ((args.take i).map (valAt vals)).foldl mulT 1
def behi (vals args : List Int) (i : Nat) : Int := ((args.drop i).reverse.map (valAt vals)).foldl mulT 1
def othR (vals args : List Int) : List Int := (List.range args.length).map fun i => mulT (befo vals args i) (behi vals args (i + 1))
theorem set_e {α : Type} (L : List α) (x y : α) : (L ++ [x]).set L.length y = L ++ [y] := by simp
theorem intsE_set2 (ys : List Int) (k : Nat) (x : Int) : (intsE ys).set k [dI x] = intsE (ys.set k x) := by simp [intsE]
theorem intsE_rep (n : Nat) : List.replicate n [dI 0] = intsE (List.replicate n 0) := by simp [intsE]
theorem intsE_at {ys : List Int} {k : Nat} {x : Int} (h : ys[k]? = some x) : (intsE ys)[k]? = some [dI x] := by simp [intsE, h]
theorem befo_succ {vals args : List Int} {k : Nat} (hk : k < args.length) : befo vals args (k + 1) = mulT (befo vals args k) (valAt vals args[k]) := by
  unfold befo
  rw [List.take_succ_eq_append_getElem hk, List.map_append, List.foldl_append]
  rfl
theorem behi_succ {vals args : List Int} {k : Nat} (hk : k < args.length) : behi vals args k = mulT (behi vals args (k + 1)) (valAt vals args[k]) := by
  unfold behi
  rw [drop_cons hk, List.reverse_cons, List.map_append, List.foldl_append]
  rfl
theorem fold_mul_bnd {vals : List Int} (hb : ∀ v ∈ vals, 0 ≤ v ∧ v < 4611686018427387904) (l : List Int) : 0 ≤ (l.map (valAt vals)).foldl mulT 1 ∧ (l.map (valAt vals)).foldl mulT 1 ≤ 4611686018427387904 := by
  refine foldl_bnd (fun a b q1 q2 q3 => mulT_bnd q1 q2) _ _ (fun x hx => ?_) (by omega) (by omega)
  obtain ⟨a, _, rfl⟩ := List.mem_map.1 hx
  unfold valAt
  rw [List.getD_eq_getElem?_getD]
  cases hh : vals[a.toNat]? with
  | none => simp
  | some v => simpa using (hb v (List.mem_of_getElem? hh)).1
set_option maxHeartbeats 8000000 in
theorem others_ok {c : Circ} {input vals : List Int} {β : Nat} {es : List (List D)} {L : List LB} (h : RunIn c input vals β es L) (args : List Int) (hl : args.length < 1000000) (ha : ∀ a ∈ args, 0 ≤ a ∧ a < vals.length) :
    CallL mC false 76 [.ptr 2 0, ints false args] L (fun d L' => d = .sl L.length 0 1 args.length (some args.length) args.length ∧ L' = L ++ [.els 1 (intsE (othR vals args))]) fun _ _ => False := by
  refine CallL.code has76 rfl (by simp [fn76]) ?_
  have hm' : ((args.length : Int) * ((8 : Nat) : Int)) ≤ (maxBytes : Int) := by show _ ≤ (140737488355328 : Int); omega
  have hrun : ∀ x, (L ++ [x])[2]? = some (.cells [ints false c.cards, gatesD false c.gates, ints false input, .sl β 0 1 vals.length (some es.length) es.length]) := fun x => get_l h.run _
  have hels : ∀ x, (L ++ [x])[β]? = some (.els 1 es) := fun x => get_l h.els _
  have hme : ∀ x, (L ++ [x])[L.length]? = some x := fun x => get_e L x
  have hval : ∀ {k : Nat} (hk : k < args.length), (0 ≤ args[k]) = True ∧ (args[k] < (vals.length : Int)) = True ∧ es[args[k].toNat]? = some [dI (valAt vals args[k])] ∧ 0 ≤ valAt vals args[k] ∧ valAt vals args[k] ≤ 4611686018427387904 := by
    intro k hk
    obtain ⟨q1, q2⟩ := ha args[k] (List.getElem_mem hk)
    obtain ⟨q3, q4, q5⟩ := h.val q1 q2
    exact ⟨eq_true q1, eq_true q2, q3, q4, by omega⟩
  simp only [wp, stepL_true, doI, quietI, isCallI, wantedD, LSt.put, LSt.putO, LSt.putE, qL, effL, evD, intD, lk, argsE, Nat.reduceEqDiff, Nat.reduceLT, Bool.not_false, and_self, if_true, if_false, List.length_cons, List.length_nil, Nat.zero_add, List.map_cons, List.map_nil, reduceCtorEq, fn76, len_ints, Int.natCast_nonneg, Int.le_refl, hm', Int.toNat_natCast, intsE_rep]
  refine EvL.loop (α := Nat × List Int) (fun a => ⟨64, [(0, .ptr 2 0), (1, ints false args), (5, .sl L.length 0 1 args.length (some args.length) args.length), (6, dI (befo vals args a.1)), (7, dI 1), (14, ints false args), (15, dI args.length), (16, dI a.1)], L ++ [.els 1 (intsE a.2)]⟩)
    (fun a => a.1 ≤ args.length ∧ a.2.length = args.length ∧ ∀ i, i < a.1 → a.2[i]? = some (befo vals args i)) (fun a => args.length - a.1) (0, List.replicate args.length 0) (Weak.sub (by simp [envSub, lk, befo])) ⟨by simp, by simp, fun i hi => by simp at hi⟩ ?_
  rintro ⟨k, res⟩ ⟨p1, p2, p3⟩
  simp only at p1 p2 p3
  refine wp_sound ?_
  have hlen : (intsE res).length = args.length := by rw [intsE_len, p2]
  by_cases hk : k < args.length
  · have hlt : decide ((k : Int) < (args.length : Int)) = true := by simp; omega
    have hltp : ((k : Int) < (args.length : Int)) = True := eq_true (by omega)
    have hw2 : IntKind.i64.wrap ((k : Int) + 1) = ((k + 1 : Nat) : Int) := by rw [wrap64 (by omega) (by omega)]; rfl
    obtain ⟨v1, v2, v3, v4, v5⟩ := hval hk
    obtain ⟨b1, b2⟩ := fold_mul_bnd h.bnd (args.take k)
    have hget : (intsE res)[k]? = some [dI (res[k]'(by omega))] := intsE_at (List.getElem?_eq_getElem _)
    simp only [wp, stepL_true, doI, quietI, isCallI, wantedD, LSt.put, LSt.putO, LSt.putE, qL, effL, evD, intD, boolD, litD, litV, lk, pickC_true, idxD_sl, loadD_ptr, loadD_eptr, loadD_fptr, fldD, takeD, esOf, Lx.cellsO, cells_lit, oneV, putD, storeD, binV, intBin, Option.map_some, cond_true, beq_self_eq_true, Nat.reduceEqDiff, Nat.reduceLT, Nat.reduceLeDiff, Bool.not_false, and_self, if_true, if_false, List.getElem?_cons_zero, List.getElem?_cons_succ, List.length_cons, List.length_nil, List.cons_append, List.nil_append, Nat.zero_add, decide_true, List.drop_zero, List.drop_succ_cons, List.take_zero, reduceCtorEq, hltp, idx_ints _ _ hk, Int.natCast_nonneg, Int.toNat_natCast, hme, hlen, hget, set_e, intsE_set2, hrun, hels, v1, v2, v3]
    refine EvL.fn (times_ok (befo vals args k) (valAt vals args[k]) b1 b2 v4 v5) rfl rfl (.cons (.lit _) (.cons (.lit _) .nil)) ?_
    rw [← befo_succ hk]
    simp only [wp, stepL_true, doI, quietI, isCallI, wantedD, LSt.put, LSt.putO, qL, evD, litD, litV, lk, binV, intBin, Option.map_some, cond_true, beq_self_eq_true, Nat.reduceEqDiff, Nat.reduceLT, Bool.not_false, if_true, if_false, reduceCtorEq, hw2]
    refine ⟨(k + 1, res.set k (befo vals args k)), ⟨by simp; omega, by simp; omega, fun i hi => ?_⟩, by simp; omega, Weak.sub (by simp [envSub, lk])⟩
    simp only at hi ⊢
    rw [List.getElem?_set]
    by_cases hki : k = i
    · subst hki
      rw [if_pos rfl, if_pos (by omega)]
    · rw [if_neg hki]
      exact p3 i (by omega)
  · have hlt : decide ((k : Int) < (args.length : Int)) = false := by simp; omega
    have hke : k = args.length := by omega
    have hw3 : IntKind.i64.wrap ((args.length : Int) - 1) = (args.length : Int) - 1 := wrap64 (by omega) (by omega)
    simp only [wp, stepL_true, doI, quietI, isCallI, wantedD, LSt.put, LSt.putO, qL, evD, boolD, litD, litV, lk, pickC_false, binV, intBin, Option.map_some, cond_true, beq_self_eq_true, Nat.reduceEqDiff, Nat.reduceLT, Bool.not_false, if_true, if_false, reduceCtorEq, hlt, len_ints, hw3]
    refine EvL.loop (α := Nat × List Int) (fun a => ⟨64, [(0, .ptr 2 0), (1, ints false args), (5, .sl L.length 0 1 args.length (some args.length) args.length), (7, dI (behi vals args a.1)), (10, dI ((a.1 : Int) - 1))], L ++ [.els 1 (intsE a.2)]⟩)
      (fun a => a.1 ≤ args.length ∧ a.2.length = args.length ∧ (∀ i, i < a.1 → a.2[i]? = some (befo vals args i)) ∧ ∀ i, a.1 ≤ i → i < args.length → a.2[i]? = some (mulT (befo vals args i) (behi vals args (i + 1)))) (fun a => a.1) (args.length, res)
      (Weak.sub (by simp [envSub, lk, behi])) ⟨Nat.le_refl _, p2, fun i hi => p3 i (by omega), fun i h1 h2 => by simp only at h1; omega⟩ ?_
    rintro ⟨j, rs⟩ ⟨q1, q2, q3, q4⟩
    simp only at q1 q2 q3 q4
    refine wp_sound ?_
    have hlen2 : (intsE rs).length = args.length := by rw [intsE_len, q2]
    cases j with
    | zero =>
      have hge : decide ((0 : Int) ≤ ((0 : Nat) : Int) - 1) = false := by decide
      simp only [wp, stepL_true, doI, quietI, isCallI, wantedD, LSt.put, LSt.putO, qL, evD, boolD, litD, litV, lk, pickC_false, binV, intBin, Option.map_some, cond_true, beq_self_eq_true, Nat.reduceEqDiff, Nat.reduceLT, Bool.not_false, if_true, if_false, reduceCtorEq, hge]
      refine ⟨_, rfl, rfl, ?_⟩
      have : rs = othR vals args := by
        refine List.ext_getElem? fun i => ?_
        unfold othR
        by_cases hi : i < args.length
        · rw [q4 i (by omega) hi]; simp [hi]
        · rw [List.getElem?_eq_none (by omega), List.getElem?_eq_none (by simp; omega)]
      rw [this]
    | succ j =>
      have hj : j < args.length := by omega
      have hcast : (((j + 1 : Nat) : Int) - 1) = (j : Int) := by omega
      have hge : decide ((0 : Int) ≤ (j : Int)) = true := by simp
      have hjp : ((j : Int) < (args.length : Int)) = True := eq_true (by omega)
      have hw4 : IntKind.i64.wrap ((j : Int) - 1) = (j : Int) - 1 := wrap64 (by omega) (by omega)
      obtain ⟨v1, v2, v3, v4, v5⟩ := hval hj
      obtain ⟨b1, b2⟩ := fold_mul_bnd h.bnd (args.take j)
      obtain ⟨b3, b4⟩ := fold_mul_bnd h.bnd (args.drop (j + 1)).reverse
      have hget : (intsE rs)[j]? = some [dI (befo vals args j)] := intsE_at (q3 j (by omega))
      simp only [wp, stepL_true, doI, quietI, isCallI, wantedD, LSt.put, LSt.putO, qL, evD, intD, boolD, litD, litV, lk, pickC_true, idxD_sl, loadD_eptr, takeD, esOf, binV, intBin, Option.map_some, cond_true, beq_self_eq_true, Nat.reduceEqDiff, Nat.reduceLT, Bool.not_false, and_self, if_true, if_false, List.getElem?_cons_zero, Nat.zero_add, decide_true, reduceCtorEq, hcast, hjp, Int.natCast_nonneg, Int.toNat_natCast, hme, hlen2, hget]
      refine EvL.fn (times_ok (befo vals args j) (behi vals args (j + 1)) b1 b2 b3 b4) rfl rfl (.cons (.lit _) (.cons (.lit _) .nil)) ?_
      simp only [wp, stepL_true, doI, quietI, isCallI, wantedD, LSt.put, LSt.putO, LSt.putE, qL, effL, evD, intD, lk, idxD_sl, loadD_ptr, loadD_eptr, loadD_fptr, fldD, takeD, esOf, Lx.cellsO, cells_lit, oneV, putD, storeD, cond_true, Nat.reduceEqDiff, Nat.reduceLT, Nat.reduceLeDiff, Bool.not_true, and_self, if_true, if_false, List.getElem?_cons_zero, List.getElem?_cons_succ, List.length_cons, List.length_nil, List.cons_append, List.nil_append, Nat.zero_add, List.drop_zero, List.drop_succ_cons, List.take_zero, reduceCtorEq, hjp, Int.natCast_nonneg, Int.toNat_natCast, hme, hlen2, hget, set_e, intsE_set2, hrun, hels, idx_ints _ _ hj, v1, v2, v3]
      refine EvL.fn (times_ok (behi vals args (j + 1)) (valAt vals args[j]) b3 b4 v4 v5) rfl rfl (.cons (.lit _) (.cons (.lit _) .nil)) ?_
      rw [← behi_succ hj]
      simp only [wp, stepL_true, doI, quietI, isCallI, wantedD, LSt.put, LSt.putO, qL, evD, litD, litV, lk, binV, intBin, Option.map_some, cond_true, beq_self_eq_true, Nat.reduceEqDiff, Nat.reduceLT, Bool.not_false, if_true, if_false, reduceCtorEq, hw4]
      refine ⟨(j, rs.set j (mulT (befo vals args j) (behi vals args (j + 1)))), ⟨by simp; omega, by simp; omega, fun i hi => ?_, fun i h1 h2 => ?_⟩, by simp, Weak.sub (by simp [envSub, lk])⟩
      · simp only at hi ⊢
        rw [List.getElem?_set, if_neg (by omega)]
        exact q3 i (by omega)
      · simp only at h1 ⊢
        rw [List.getElem?_set]
        by_cases hji : j = i
        · subst hji
          rw [if_pos rfl, if_pos (by omega)]
        · rw [if_neg hji]
          exact q4 i (by omega) h2
end Go.Proofs.Ytbjfkbkmoeibdaa.C
namespace Go.Proofs.Ytbjfkbkmoeibdaa.C
open Go Go.Mx Go.Lx
set_option linter.unusedSimpArgs false
set_option linter.unusedVariables false
set_option maxRecDepth 100000
theorem has55 : mC.has 55 fn55 := ⟨rfl, fun _ _ _ => rfl⟩
def slRows : Nat → List Int → List (List D)
  | _, [] => []
  | b, k :: r => [.sl b 0 1 k.toNat (some k.toNat) k.toNat] :: slRows (b + 1) r
theorem slRows_len : ∀ (cs : List Int) (b : Nat), (slRows b cs).length = cs.length
  | [], _ => rfl
  | k :: r, b => by simp [slRows, slRows_len r]
theorem slRows_get : ∀ (cs : List Int) (b v : Nat) (h : v < cs.length), (slRows b cs)[v]? = some [.sl (b + v) 0 1 cs[v].toNat (some cs[v].toNat) cs[v].toNat]
  | [], _, v, h => by simp at h
  | k :: r, b, 0, _ => by simp [slRows]
  | k :: r, b, v + 1, h => by
    simp only [slRows, List.getElem?_cons_succ, List.getElem_cons_succ]
    rw [slRows_get r (b + 1) v (by simpa using h), show b + 1 + v = b + (v + 1) by omega]
theorem slRows_app : ∀ (cs : List Int) (b : Nat) (k : Int), slRows b (cs ++ [k]) = slRows b cs ++ [[.sl (b + cs.length) 0 1 k.toNat (some k.toNat) k.toNat]]
  | [], b, k => by simp [slRows]
  | x :: r, b, k => by
    simp only [slRows, List.cons_append, List.length_cons]
    rw [slRows_app r (b + 1) k, show b + 1 + r.length = b + (r.length + 1) by omega]
theorem slRows_sc {n : Nat} : ∀ (cs : List Int) (b : Nat), b + cs.length ≤ n → ∀ cells ∈ slRows b cs, D.scs n cells
  | [], b, _, cells, h => by simp [slRows] at h
  | k :: r, b, hb, cells, h => by
    simp only [slRows, List.mem_cons, List.length_cons] at h hb
    rcases h with rfl | h
    · exact ⟨by show b < n; omega, trivial⟩
    · exact slRows_sc r (b + 1) (by omega) cells h
abbrev rowB (r : List Int) : LB := .els 1 (intsE r)
/-- Memory while the rows are made. -/
def dvP (B : List LB) (cs : List Int) (v : Nat) : List LB := B ++ .els 1 (slRows 9 (cs.take v) ++ List.replicate (cs.length - v) [D.lit (.slice none 0 0)]) :: (cs.take v).map fun k => rowB (List.replicate k.toNat 0)
/-- Memory while slopes are found. -/
def dvL (B : List LB) (cs : List Int) (rows : List (List Int)) (ss : List Int) : List LB := B ++ .els 1 (slRows 9 cs) :: (rows.map rowB ++ [rowB ss])
section
variable {B : List LB} {cs : List Int} {rows : List (List Int)} {ss : List Int}
theorem dvP_len (hB : B.length = 8) {v : Nat} (hv : v ≤ cs.length) : (dvP B cs v).length = 9 + v := by simp [dvP, hB]; omega
theorem dvP_at8 (hB : B.length = 8) (v : Nat) (X : List LB) : (dvP B cs v ++ X)[8]? = some (.els 1 (slRows 9 (cs.take v) ++ List.replicate (cs.length - v) [D.lit (.slice none 0 0)])) := by
  unfold dvP
  rw [List.append_assoc, List.getElem?_append_right (by omega), hB]
  rfl
theorem dvP_low {i : Nat} {b : LB} (h : B[i]? = some b) (v : Nat) (X : List LB) : (dvP B cs v ++ X)[i]? = some b := by
  unfold dvP
  exact get_l (get_l h _) _
theorem dvP_step (hB : B.length = 8) {v : Nat} (hv : v < cs.length) : (dvP B cs v ++ [rowB (List.replicate cs[v].toNat 0)]).set 8 (.els 1 ((slRows 9 (cs.take v) ++ List.replicate (cs.length - v) [D.lit (.slice none 0 0)]).set v [.sl (9 + v) 0 1 cs[v].toNat (some cs[v].toNat) cs[v].toNat])) = dvP B cs (v + 1) := by
  have hl : (slRows 9 (cs.take v)).length = v := by rw [slRows_len]; simp; omega
  have h1 : cs.length - v = (cs.length - (v + 1)) + 1 := by omega
  unfold dvP
  rw [List.append_assoc, List.set_append_right _ _ (by omega), hB, Nat.sub_self, List.cons_append, List.set_cons_zero, List.take_succ_eq_append_getElem hv, slRows_app, List.map_append, List.set_append_right _ _ (by omega), hl, Nat.sub_self, h1, List.replicate_succ, List.set_cons_zero]
  simp [Nat.min_eq_left (Nat.le_of_lt hv)]
theorem dvP_all (hr : rows = cs.map fun k => List.replicate k.toNat 0) : dvP B cs cs.length ++ [rowB ss] = dvL B cs rows ss := by
  unfold dvP dvL
  subst hr
  simp
theorem dv_len (hB : B.length = 8) (hr : rows.length = cs.length) (ss : List Int) : (dvL B cs rows ss).length = 10 + cs.length := by simp [dvL, hB, hr]; omega
theorem dv_low {i : Nat} {b : LB} (h : B[i]? = some b) (ss : List Int) (X : List LB) : (dvL B cs rows ss ++ X)[i]? = some b := get_l (get_l h _) _
theorem dv_at8 (hB : B.length = 8) (ss : List Int) (X : List LB) : (dvL B cs rows ss ++ X)[8]? = some (.els 1 (slRows 9 cs)) := by
  unfold dvL
  rw [List.append_assoc, List.getElem?_append_right (by omega), hB]
  rfl
theorem dv_row (hB : B.length = 8) {v : Nat} (hv : v < rows.length) (ss : List Int) (X : List LB) : (dvL B cs rows ss ++ X)[9 + v]? = some (rowB rows[v]) := by
  unfold dvL
  rw [List.append_assoc, List.getElem?_append_right (by omega), hB, show 9 + v - 8 = v + 1 by omega, List.cons_append, List.getElem?_cons_succ, List.append_assoc, List.getElem?_append_left (by simpa using hv)]
  simp [hv]
theorem dv_slo (hB : B.length = 8) (hr : rows.length = cs.length) (ss : List Int) (X : List LB) : (dvL B cs rows ss ++ X)[9 + cs.length]? = some (rowB ss) := by
  unfold dvL
  rw [List.append_assoc, List.getElem?_append_right (by omega), hB, show 9 + cs.length - 8 = cs.length + 1 by omega, List.cons_append, List.getElem?_cons_succ, List.append_assoc, List.getElem?_append_right (by simp [hr])]
  simp [hr]
theorem dv_setRow (hB : B.length = 8) {v : Nat} (hv : v < rows.length) (ss r : List Int) (X : List LB) : (dvL B cs rows ss ++ X).set (9 + v) (rowB r) = dvL B cs (rows.set v r) ss ++ X := by
  unfold dvL
  rw [List.append_assoc, List.set_append_right _ _ (by omega), hB, show 9 + v - 8 = v + 1 by omega, List.cons_append, List.set_cons_succ, List.append_assoc, List.set_append_left _ _ (by simpa using hv)]
  simp
theorem dv_setSlo (hB : B.length = 8) (hr : rows.length = cs.length) (ss s' : List Int) (X : List LB) : (dvL B cs rows ss ++ X).set (9 + cs.length) (rowB s') = dvL B cs rows s' ++ X := by
  unfold dvL
  rw [List.append_assoc, List.set_append_right _ _ (by omega), hB, show 9 + cs.length - 8 = cs.length + 1 by omega, List.cons_append, List.set_cons_succ, List.append_assoc, List.set_append_right _ _ (by simp [hr])]
  simp [hr]
theorem scAll_app {n : Nat} : ∀ {a b : List LB}, scAll n a → scAll n b → scAll n (a ++ b)
  | [], b, _, h => h
  | x :: a, b, h1, h2 => ⟨h1.1, scAll_app h1.2 h2⟩
theorem scAll_rows {n : Nat} : ∀ (rows : List (List Int)), scAll n (rows.map rowB)
  | [] => trivial
  | r :: rows => ⟨intsE_sc r n, scAll_rows rows⟩
theorem dv_sc {n : Nat} (hb : scAll n B) (hn : 9 + cs.length ≤ n) (rows : List (List Int)) (ss : List Int) : scAll n (dvL B cs rows ss) := scAll_app hb ⟨fun cells h => slRows_sc cs 9 hn cells h, scAll_app (scAll_rows rows) ⟨intsE_sc ss n, trivial⟩⟩
theorem dvP_sc {n : Nat} (hb : scAll n B) {v : Nat} (hv : v ≤ cs.length) (hn : 9 + cs.length ≤ n) : scAll n (dvP B cs v) := by
  refine scAll_app hb ⟨fun cells h => ?_, ?_⟩
  · rcases List.mem_append.1 h with h | h
    · exact slRows_sc (cs.take v) 9 (by simp; omega) cells h
    · rw [(List.mem_replicate.1 h).2]; exact ⟨trivial, trivial⟩
  · have := scAll_rows (n := n) ((cs.take v).map fun k => List.replicate k.toNat 0)
    rwa [List.map_map] at this
end
theorem evL2_scN {c : Circ} {input vals : List Int} {es : List (List D)} (h4 : ∀ e ∈ es, ∃ n, e = [dI n]) {N : Nat} (hN : 8 ≤ N) : scAll N (evL2 c input vals es) := by
  have hes : ∀ e ∈ es, D.scs N e := fun e he => by obtain ⟨n, rfl⟩ := h4 e he; exact ⟨trivial, trivial⟩
  have h2 : 2 < N := by omega
  have h7 : 7 < N := by omega
  simp only [evL2, scAll, LB.sc, D.scs, D.sc, runC, rulesC, circC, ints, gatesD, and_true, true_and, h2, h7]
  exact hes
/-- One gate: what it adds to the slopes of its arguments, or to a row. -/
def addAll (slope : Int) : List Int → List Int → List Int
  | ss, [] => ss
  | ss, a :: r => addAll slope (ss.set a.toNat (addT (valAt ss a) slope)) r
def addPro (slope : Int) : List Int → List Int → List Int → List Int
  | ss, a :: r, q :: s => addPro slope (ss.set a.toNat (addT (valAt ss a) (mulT slope q))) r s
  | ss, _, _ => ss
def rowAt (rows : List (List Int)) (v : Int) : List Int := rows.getD v.toNat []
def stepD (vals : List Int) (g : Gate) (slope : Int) (rows : List (List Int)) (ss : List Int) : Option (List (List Int) × List Int) :=
  if slope = 4611686018427387904 then none else
  if g.kind = 2 then (if addT (valAt (rowAt rows g.var) g.val) slope = 4611686018427387904 then none else some (rows.set g.var.toNat ((rowAt rows g.var).set g.val.toNat (addT (valAt (rowAt rows g.var) g.val) slope)), ss)) else
  if g.kind = 3 then some (rows, addAll slope ss g.args) else
  if g.kind = 4 then some (rows, addPro slope ss g.args (othR vals g.args)) else some (rows, ss)
def derGo (vals : List Int) (gs : List Gate) : Nat → List (List Int) → List Int → Option (List (List Int))
  | 0, rows, _ => some rows
  | j + 1, rows, ss => match stepD vals (gs.getD j ⟨0, 0, 0, 0, []⟩) (valAt ss (j : Int)) rows ss with
    | none => none
    | some (rows', ss') => derGo vals gs j rows' ss'
end Go.Proofs.Ytbjfkbkmoeibdaa.C
namespace Go.Proofs.Ytbjfkbkmoeibdaa.C
open Go Go.Mx Go.Lx
set_option linter.unusedSimpArgs false
set_option linter.unusedVariables false
set_option maxRecDepth 100000
theorem prodGo_rng : ∀ (l : List Int) (s r : Int), prodGo s l = some r → ∀ x ∈ l, 1 ≤ x ∧ x ≤ 4
  | [], _, _, _, x, h => by simp at h
  | y :: l, s, r, hp, x, h => by
    rw [prodGo] at hp
    split at hp
    · cases hp
    · rcases List.mem_cons.1 h with rfl | h
      · omega
      · exact prodGo_rng l _ r hp x h
theorem valid_cards {c : Circ} (h : validB c = true) : 1 ≤ c.cards.length ∧ c.cards.length ≤ 8 ∧ ∀ x ∈ c.cards, 1 ≤ x ∧ x ≤ 4 := by
  simp only [validB, cardsB, Bool.and_eq_true, decide_eq_true_eq] at h
  obtain ⟨⟨⟨h1, h2⟩, h3⟩, _⟩ := h
  refine ⟨h1, h2, ?_⟩
  cases hp : prodGo 1 c.cards with
  | none => rw [hp] at h3; cases h3
  | some r => exact prodGo_rng _ _ r hp
theorem gate_is {cards : List Int} {i : Int} {g : Gate} (h : gateB cards i g = true) (hk : g.kind = 2) : 0 ≤ g.var ∧ g.var < cards.length ∧ 0 ≤ g.val ∧ g.val < cards.getD g.var.toNat 0 := by
  unfold gateB at h
  rw [if_neg (by simp [hk]), if_pos (by simp [hk])] at h
  simp only [Bool.and_eq_true, decide_eq_true_eq] at h
  exact ⟨h.1, h.2.1, h.2.2.1, h.2.2.2.1⟩
def slope0 (m : Nat) : List Int := (List.replicate m 0).set (m - 1) 1
def rows0 (cs : List Int) : List (List Int) := cs.map fun k => List.replicate k.toNat 0
structure RowsOk (cs : List Int) (rows : List (List Int)) : Prop where
  len : rows.length = cs.length
  row : ∀ v (h : v < rows.length), rows[v].length = (cs.getD v 0).toNat
  bnd : ∀ r ∈ rows, ∀ x ∈ r, 0 ≤ x ∧ x < 4611686018427387904
structure SloOk (m : Nat) (ss : List Int) : Prop where
  len : ss.length = m
  bnd : ∀ x ∈ ss, 0 ≤ x ∧ x ≤ 4611686018427387904
theorem SloOk.set {m : Nat} {ss : List Int} (h : SloOk m ss) (k : Nat) {x : Int} (h0 : 0 ≤ x) (h1 : x ≤ 4611686018427387904) : SloOk m (ss.set k x) := by
  refine ⟨by simp [h.len], fun y hy => ?_⟩
  rcases List.mem_or_eq_of_mem_set hy with hy | rfl
  · exact h.bnd y hy
  · exact ⟨h0, h1⟩
theorem SloOk.at_ {m : Nat} {ss : List Int} (h : SloOk m ss) {a : Int} (h0 : 0 ≤ a) (h1 : a < m) : (intsE ss)[a.toNat]? = some [dI (valAt ss a)] ∧ 0 ≤ valAt ss a ∧ valAt ss a ≤ 4611686018427387904 := by
  have hl := h.len
  obtain ⟨hh, e⟩ := valAt_get (vals := ss) h0 (by omega)
  rw [e]
  exact ⟨intsE_at (List.getElem?_eq_getElem hh), h.bnd _ (List.getElem_mem hh)⟩
theorem rows0_ok (cs : List Int) : RowsOk cs (rows0 cs) := by
  refine ⟨by simp [rows0], fun v h => ?_, fun r hr x hx => ?_⟩
  · simp only [rows0, List.length_map] at h
    simp [rows0, List.getD_eq_getElem?_getD, h]
  · obtain ⟨k, _, rfl⟩ := List.mem_map.1 hr
    rw [(List.mem_replicate.1 hx).2]
    omega
theorem slope0_ok (m : Nat) : SloOk m (slope0 m) := SloOk.set ⟨by simp, fun x hx => by rw [(List.mem_replicate.1 hx).2]; omega⟩ _ (by omega) (by omega)
theorem RowsOk.set {cs : List Int} {rows : List (List Int)} (h : RowsOk cs rows) {v : Nat} (hv : v < rows.length) {r : List Int} (hr : r.length = rows[v].length) (hb : ∀ x ∈ r, 0 ≤ x ∧ x < 4611686018427387904) : RowsOk cs (rows.set v r) := by
  refine ⟨by simp [h.len], fun u hu => ?_, fun s hs => ?_⟩
  · rw [List.getElem_set]
    split
    · rename_i e; subst e; rw [hr]; exact h.row v hv
    · exact h.row u (by simpa using hu)
  · rcases List.mem_or_eq_of_mem_set hs with hs | rfl
    · exact h.bnd s hs
    · exact hb
theorem dvW {B : List LB} {cs : List Int} {rows : List (List Int)} {ss : List Int} {N : Nat} {E E' : List (Nat × D)} {X : List LB} {k0 : Nat} (hB : B.length = 8) (hsc : ∀ n, 8 ≤ n → scAll n B) (hr : rows.length = cs.length) (hk : k0 ≤ 10 + cs.length) (he : envOk E (10 + cs.length) E') :
    Weak k0 ⟨N, E, dvL B cs rows ss ++ X⟩ ⟨N, E', dvL B cs rows ss⟩ := by
  have hl := dv_len hB hr ss
  exact Weak.cut (by rw [hl]; exact hk) (by rw [hl]; exact he) (by rw [hl]; exact dv_sc (hsc _ (by omega)) (by omega) rows ss)
theorem get_2a {α : Type} (L : List α) (x y : α) : (L ++ [x, y])[L.length]? = some x := by simp
theorem get_2b {α : Type} (L : List α) (x y : α) : (L ++ [x, y])[L.length + 1]? = some y := by simp
theorem othR_len (vals args : List Int) : (othR vals args).length = args.length := by simp [othR]
theorem othR_bnd {vals : List Int} (hb : ∀ v ∈ vals, 0 ≤ v ∧ v < 4611686018427387904) (args : List Int) : ∀ q ∈ othR vals args, 0 ≤ q ∧ q ≤ 4611686018427387904 := by
  intro q hq
  obtain ⟨i, _, rfl⟩ := List.mem_map.1 hq
  exact mulT_bnd (fold_mul_bnd hb _).1 (fold_mul_bnd hb _).1
set_option maxHeartbeats 16000000 in
theorem derive_ok (c : Circ) (hs : c.Small) (input vals : List Int) (es : List (List D)) (hv : validB c = true) (hvl : vals.length = c.gates.length) (hvb : ∀ v ∈ vals, 0 ≤ v ∧ v < 4611686018427387904) (hesl : es.length = c.gates.length) (hes : ∀ i (h : i < vals.length), es[i]? = some [dI vals[i]]) (hes4 : ∀ e ∈ es, ∃ n, e = [dI n]) :
    CallL mC false 55 [.ptr 2 0] (evL2 c input vals es)
      (fun d L' => ∃ rows ss, derGo vals c.gates c.gates.length (rows0 c.cards) (slope0 c.gates.length) = some rows ∧ RowsOk c.cards rows ∧ d = .sl 8 0 1 c.cards.length (some c.cards.length) c.cards.length ∧ L' = dvL (evL2 c input vals es) c.cards rows ss)
      fun d L' => derGo vals c.gates c.gates.length (rows0 c.cards) (slope0 c.gates.length) = none ∧ (∃ t r, d = .ifc t r) ∧ L'[5]? = some (.cells [dI 0]) := by
  refine CallL.code has55 rfl (by simp [fn55]) ?_
  obtain ⟨hm1, hm2⟩ := validB_len hv
  obtain ⟨hn1, hn2, hn3⟩ := valid_cards hv
  have hB : (evL2 c input vals es).length = 8 := rfl
  have hB2 : (evL2 c input vals es)[2]? = some (.cells [ints false c.cards, gatesD false c.gates, ints false input, .sl 7 0 1 vals.length (some es.length) es.length]) := rfl
  have hB5 : (evL2 c input vals es)[5]? = some (.cells [dI 0]) := rfl
  have hB7 : (evL2 c input vals es)[7]? = some (.els 1 es) := rfl
  have hsc : ∀ n, 8 ≤ n → scAll n (evL2 c input vals es) := fun n hn => evL2_scN hes4 hn
  have hvalid : ∀ {j : Nat} (hj : j < c.gates.length), gateB c.cards j c.gates[j] = true := fun {j} hj => validB_get hv j hj
  have hargs := hs.args
  generalize evL2 c input vals es = B at *
  generalize hcs : c.cards = cs at *
  generalize hgs : c.gates = gs at *
  have hk24 : ((cs.length : Int) * ((24 : Nat) : Int)) ≤ (maxBytes : Int) := by show _ ≤ (140737488355328 : Int); omega
  have hk8 : ((gs.length : Int) * ((8 : Nat) : Int)) ≤ (maxBytes : Int) := by show _ ≤ (140737488355328 : Int); omega
  have hBx2 : ∀ x, (B ++ [x])[2]? = some (.cells [ints false cs, gatesD false gs, ints false input, .sl 7 0 1 vals.length (some es.length) es.length]) := fun x => get_l hB2 _
  simp only [wp, stepL_true, doI, quietI, isCallI, wantedD, LSt.put, LSt.putO, LSt.putE, qL, effL, evD, intD, lk, loadD_ptr, fldD, takeD, argsE, Nat.reduceEqDiff, Nat.reduceLT, Bool.not_false, and_self, if_true, if_false, List.getElem?_cons_zero, List.length_cons, List.length_nil, Nat.zero_add, Nat.add_zero, List.map_cons, List.map_nil, reduceCtorEq, fn55, hB2, len_ints, Int.natCast_nonneg, Int.le_refl, hk24, Int.toNat_natCast, hB, hBx2]
  refine EvL.loop (α := Nat) (fun v => ⟨157, [(0, .ptr 2 0), (3, .sl 8 0 1 cs.length (some cs.length) cs.length), (27, ints false cs), (28, dI cs.length), (29, dI v)], dvP B cs v⟩) (fun v => v ≤ cs.length) (fun v => cs.length - v) 0 ?_ (by simp) ?_
  · have e0 : B ++ [.els 1 (List.replicate cs.length [D.lit (.slice none 0 0)])] = dvP B cs 0 := by simp [dvP, slRows]
    rw [e0]
    exact Weak.sub (by simp [envSub, lk])
  intro v p1
  refine wp_sound ?_
  by_cases hv2 : v < cs.length
  · have hlt : decide ((v : Int) < (cs.length : Int)) = true := decide_eq_true (by omega)
    have hltp : ((v : Int) < (cs.length : Int)) = True := eq_true (by omega)
    have hw2 : IntKind.i64.wrap ((v : Int) + 1) = ((v + 1 : Nat) : Int) := by rw [wrap64 (by omega) (by omega)]; rfl
    obtain ⟨c1, c2⟩ := hn3 cs[v] (List.getElem_mem hv2)
    have c0 : 0 ≤ cs[v] := by omega
    have ck : (cs[v] * ((8 : Nat) : Int)) ≤ (maxBytes : Int) := by show _ ≤ (140737488355328 : Int); omega
    have hPl : (dvP B cs v).length = 9 + v := dvP_len hB (by omega)
    have h8 := fun X => dvP_at8 (cs := cs) hB v X
    have hRl : (slRows 9 (cs.take v) ++ List.replicate (cs.length - v) [D.lit (.slice none 0 0)]).length = cs.length := by simp [slRows_len]; omega
    have hRg : (slRows 9 (cs.take v) ++ List.replicate (cs.length - v) [D.lit (.slice none 0 0)])[v]? = some [D.lit (.slice none 0 0)] := by
      have hsl : (slRows 9 (cs.take v)).length = v := by rw [slRows_len]; simp; omega
      rw [List.getElem?_append_right (by omega), hsl, Nat.sub_self, List.getElem?_replicate, if_pos (by omega)]
    have hst := dvP_step (cs := cs) hB hv2
    have hidx : ∀ L, idxD L 1 (v : Int) (ints false cs) = some (.fptr false [dI cs[v]]) := fun L => idx_ints L false hv2
    generalize (slRows 9 (cs.take v) ++ List.replicate (cs.length - v) [D.lit (.slice none 0 0)]) = rsl at *
    generalize cs[v] = k at *
    simp only [wp, stepL_true, doI, quietI, isCallI, wantedD, LSt.put, LSt.putO, LSt.putE, qL, effL, evD, intD, boolD, litD, litV, lk, pickC_true, idxD_sl, loadD_fptr, takeD, esOf, Lx.cellsO, cells_sl, putD, storeD, binV, intBin, Option.map_some, cond_true, beq_self_eq_true, Nat.reduceEqDiff, Nat.reduceLT, Nat.reduceLeDiff, Bool.not_false, and_self, if_true, if_false, List.getElem?_cons_zero, List.length_cons, List.length_nil, List.cons_append, List.nil_append, Nat.zero_add, decide_true, List.drop_zero, List.drop_succ_cons, List.take_zero, List.map_cons, List.map_nil, reduceCtorEq, hltp, hidx, c0, Int.le_refl, ck, hPl, h8, hRl, hRg, Int.natCast_nonneg, Int.toNat_natCast, intsE_rep, hst, hw2]
    exact ⟨v + 1, by omega, by omega, Weak.sub (by simp [envSub, lk])⟩
  · have hlt : decide ((v : Int) < (cs.length : Int)) = false := decide_eq_false (by omega)
    have hve : v = cs.length := by omega
    subst hve
    have hw3 : IntKind.i64.wrap ((gs.length : Int) - 1) = ((gs.length - 1 : Nat) : Int) := by rw [wrap64 (by omega) (by omega)]; omega
    have hP2 : ∀ X, (dvP B cs cs.length ++ X)[2]? = some (.cells [ints false cs, gatesD false gs, ints false input, .sl 7 0 1 vals.length (some es.length) es.length]) := fun X => dvP_low hB2 _ X
    have hP20 : (dvP B cs cs.length)[2]? = some (.cells [ints false cs, gatesD false gs, ints false input, .sl 7 0 1 vals.length (some es.length) es.length]) := by simpa using hP2 []
    have hPl : (dvP B cs cs.length).length = 9 + cs.length := dvP_len hB (by omega)
    have hPA : ∀ ss, dvP B cs cs.length ++ [.els 1 (intsE ss)] = dvL B cs (rows0 cs) ss := fun ss => dvP_all rfl
    have hS0 : ∀ ss, (dvL B cs (rows0 cs) ss)[9 + cs.length]? = some (.els 1 (intsE ss)) := fun ss => by simpa using dv_slo (cs := cs) hB (rows0_ok cs).len ss []
    have hS1 : ∀ ss s', (dvL B cs (rows0 cs) ss).set (9 + cs.length) (.els 1 (intsE s')) = dvL B cs (rows0 cs) s' := fun ss s' => by simpa using dv_setSlo (cs := cs) hB (rows0_ok cs).len ss s' []
    have hltm : (((gs.length - 1 : Nat) : Int) < (gs.length : Int)) = True := eq_true (by omega)
    have hz : (intsE (List.replicate gs.length 0))[gs.length - 1]? = some [dI 0] := intsE_at (by rw [List.getElem?_replicate, if_pos (by omega)])
    simp only [wp, stepL_true, doI, quietI, isCallI, wantedD, LSt.put, LSt.putO, LSt.putE, qL, effL, evD, intD, boolD, litD, litV, lk, pickC_false, idxD_sl, loadD_ptr, fldD, takeD, esOf, Lx.cellsO, cells_lit, oneV, putD, storeD, binV, intBin, Option.map_some, cond_true, beq_self_eq_true, Nat.reduceEqDiff, Nat.reduceLT, Nat.reduceLeDiff, Bool.not_false, and_self, if_true, if_false, List.getElem?_cons_zero, List.getElem?_cons_succ, List.length_cons, List.length_nil, List.cons_append, List.nil_append, Nat.zero_add, Nat.add_zero, List.drop_zero, List.drop_succ_cons, List.take_zero, List.map_cons, List.map_nil, reduceCtorEq, hlt, hP20, len_gates, hw3, Int.natCast_nonneg, Int.le_refl, hk8, Int.toNat_natCast, hPl, intsE_rep, hPA, hS0, intsE_len, List.length_replicate, hltm, hz, intsE_set2, hS1]
    refine EvL.loop (α := Nat × List (List Int) × List Int) (fun a => ⟨157, [(0, .ptr 2 0), (3, .sl 8 0 1 cs.length (some cs.length) cs.length), (7, .sl (9 + cs.length) 0 1 gs.length (some gs.length) gs.length), (8, dI ((a.1 : Int) - 1))], dvL B cs a.2.1 a.2.2⟩)
      (fun a => a.1 ≤ gs.length ∧ RowsOk cs a.2.1 ∧ SloOk gs.length a.2.2 ∧ derGo vals gs a.1 a.2.1 a.2.2 = derGo vals gs gs.length (rows0 cs) (slope0 gs.length)) (fun a => a.1) (gs.length, rows0 cs, slope0 gs.length) ?_ ⟨Nat.le_refl _, rows0_ok cs, slope0_ok _, rfl⟩ ?_
    · refine Weak.sub ?_
      simp [envSub, lk]
      omega
    rintro ⟨j, rows, ss⟩ ⟨q1, q2, q3, q4⟩
    simp only at q1 q2 q3 q4
    refine wp_sound ?_
    have hrl := q2.len
    have hsl := q3.len
    have g2 : ∀ s' X, (dvL B cs rows s' ++ X)[2]? = some (.cells [ints false cs, gatesD false gs, ints false input, .sl 7 0 1 vals.length (some es.length) es.length]) := fun s' X => dv_low hB2 s' X
    have g20 : (dvL B cs rows ss)[2]? = some (.cells [ints false cs, gatesD false gs, ints false input, .sl 7 0 1 vals.length (some es.length) es.length]) := by simpa using g2 ss []
    have gS0 : (dvL B cs rows ss)[9 + cs.length]? = some (.els 1 (intsE ss)) := by simpa using dv_slo (cs := cs) hB hrl ss []
    have gS : ∀ s' X, (dvL B cs rows s' ++ X)[9 + cs.length]? = some (.els 1 (intsE s')) := fun s' X => dv_slo hB hrl s' X
    have gSet : ∀ s1 s2 X, (dvL B cs rows s1 ++ X).set (9 + cs.length) (.els 1 (intsE s2)) = dvL B cs rows s2 ++ X := fun s1 s2 X => dv_setSlo hB hrl s1 s2 X
    have gl : ∀ s', (dvL B cs rows s').length = 10 + cs.length := fun s' => dv_len hB hrl s'
    have ge : ∀ s' x, (dvL B cs rows s' ++ [x])[10 + cs.length]? = some x := fun s' x => by rw [← gl s']; exact get_e _ _
    have gset : ∀ s' x y, (dvL B cs rows s' ++ [x]).set (10 + cs.length) y = dvL B cs rows s' ++ [y] := fun s' x y => by rw [← gl s']; exact set_e _ _ _
    have ge2a : ∀ s' x y, (dvL B cs rows s' ++ [x, y])[10 + cs.length]? = some x := fun s' x y => by rw [← gl s']; exact get_2a _ _ _
    have ge2b : ∀ s' x y, (dvL B cs rows s' ++ [x, y])[10 + cs.length + 1]? = some y := fun s' x y => by rw [← gl s']; exact get_2b _ _ _
    cases j with
    | zero =>
      have hge : decide ((0 : Int) ≤ ((0 : Nat) : Int) - 1) = false := by decide
      rw [derGo] at q4
      simp only [wp, stepL_true, doI, quietI, isCallI, wantedD, LSt.put, LSt.putO, qL, evD, boolD, litD, litV, lk, pickC_false, binV, intBin, Option.map_some, cond_true, beq_self_eq_true, Nat.reduceEqDiff, Nat.reduceLT, Bool.not_false, if_true, if_false, reduceCtorEq, hge]
      exact ⟨_, rfl, rows, ss, q4.symm, q2, rfl, rfl⟩
    | succ j =>
      have hj : j < gs.length := by omega
      have hcast : (((j + 1 : Nat) : Int) - 1) = (j : Int) := by omega
      have hge : decide ((0 : Int) ≤ (j : Int)) = true := by simp
      have hjp : ((j : Int) < (gs.length : Int)) = True := eq_true (by omega)
      have hw4 : IntKind.i64.wrap ((j : Int) - 1) = (j : Int) - 1 := wrap64 (by omega) (by omega)
      obtain ⟨hsj, hs0, hs1⟩ := q3.at_ (a := (j : Int)) (by omega) (by omega)
      rw [Int.toNat_natCast] at hsj
      have hgB := hvalid hj
      have hga := hargs _ (List.getElem_mem hj)
      have hidx : ∀ L, idxD L 5 (j : Int) (gatesD false gs) = some (.fptr false (gateC false gs[j])) := fun L => idx_gates L false hj
      have hgd : gs.getD j ⟨0, 0, 0, 0, []⟩ = gs[j] := by rw [List.getD_eq_getElem?_getD, List.getElem?_eq_getElem hj]; rfl
      rw [derGo, hgd] at q4
      generalize gs[j] = g at *
      generalize hslo : valAt ss (j : Int) = slope at *
      have hgc : gateC false g = [dI g.kind, dI g.var, dI g.val, dI g.n, ints false g.args] := rfl
      cases hbig : (slope == 4611686018427387904)
      rotate_left
      · have hb : slope = 4611686018427387904 := by simpa using hbig
        have hst : stepD vals g slope rows ss = none := by unfold stepD; rw [if_pos hb]
        rw [hst] at q4
        simp only [wp, stepL_true, doI, quietI, isCallI, wantedD, LSt.put, LSt.putO, qL, evD, intD, boolD, litD, litV, lk, pickC_true, idxD_sl, loadD_eptr, takeD, esOf, Lx.cellsO, cells_lit, oneV, fillD, putD, binV, intBin, Option.map_some, cond_true, beq_self_eq_true, Nat.reduceEqDiff, Nat.reduceLT, Nat.reduceLeDiff, Bool.not_false, and_self, if_true, if_false, List.getElem?_cons_zero, List.length_cons, List.length_nil, List.cons_append, List.nil_append, Nat.zero_add, decide_true, List.drop_zero, List.drop_succ_cons, List.take_zero, List.map_cons, List.map_nil, reduceCtorEq, hcast, gS0, hjp, Int.natCast_nonneg, Int.toNat_natCast, intsE_len, hsl, hsj, hbig]
        refine EvL.panic rfl rfl ⟨q4.symm, ⟨_, _, rfl⟩, ?_⟩
        simpa using dv_low (cs := cs) (rows := rows) hB5 ss []
      have hb : slope ≠ 4611686018427387904 := by simpa using hbig
      rcases gate_kinds hgB with ⟨e, h1, h2⟩ | ⟨e, h1, h2, h3⟩ | ⟨e | e, h1⟩
      · have e2 : (g.kind == 2) = false := by simp [e]
        have e3 : (g.kind == 3) = false := by simp [e]
        have e4 : (g.kind == 4) = false := by simp [e]
        have hst : stepD vals g slope rows ss = some (rows, ss) := by unfold stepD; rw [if_neg hb, if_neg (by omega), if_neg (by omega), if_neg (by omega)]
        rw [hst] at q4
        simp only [wp, stepL_true, doI, quietI, isCallI, wantedD, LSt.put, LSt.putO, LSt.putE, qL, effL, evD, intD, boolD, litD, litV, lk, pickC_true, pickC_false, idxD_sl, loadD_ptr, loadD_eptr, loadD_fptr, fldD, takeD, slotD, esOf, Lx.cellsO, cells_agg, putD, storeD, binV, intBin, Option.map_some, cond_true, beq_self_eq_true, Nat.reduceEqDiff, Nat.reduceLT, Nat.reduceAdd, Nat.reduceLeDiff, Bool.not_false, and_self, if_true, if_false, List.getElem?_cons_zero, List.getElem?_cons_succ, List.length_cons, List.length_nil, List.cons_append, List.nil_append, Nat.zero_add, Nat.add_zero, decide_true, List.drop_zero, List.drop_succ_cons, List.take_succ_cons, List.take_zero, List.map_cons, List.map_nil, reduceCtorEq, hcast, gS0, hjp, Int.natCast_nonneg, Int.toNat_natCast, intsE_len, hsl, hsj, hbig, g20, hidx, hgc, gl, ge, gset, e2, e3, e4, hw4]
        exact ⟨(j, rows, ss), ⟨by simp; omega, q2, q3, q4⟩, by simp, dvW hB hsc hrl (by omega) (by simp [envOk, lk, D.sc]; omega)⟩
      · have e2 : (g.kind == 2) = true := by simp [e]
        obtain ⟨_, _, _, i4⟩ := gate_is hgB e
        have hvr : g.var.toNat < rows.length := by omega
        have hvc : g.var.toNat < cs.length := by omega
        have hrow : rowAt rows g.var = rows[g.var.toNat] := by unfold rowAt; rw [List.getD_eq_getElem?_getD, List.getElem?_eq_getElem hvr]; rfl
        have hcd : cs.getD g.var.toNat 0 = cs[g.var.toNat] := by rw [List.getD_eq_getElem?_getD, List.getElem?_eq_getElem hvc]; rfl
        have hrlen : rows[g.var.toNat].length = cs[g.var.toNat].toNat := by rw [q2.row _ hvr, hcd]
        have hslr : (slRows 9 cs)[g.var.toNat]? = some [.sl (9 + g.var.toNat) 0 1 cs[g.var.toNat].toNat (some cs[g.var.toNat].toNat) cs[g.var.toNat].toNat] := slRows_get cs 9 _ hvc
        have hrb := q2.bnd _ (List.getElem_mem hvr)
        have gr := fun s' X => dv_row (cs := cs) hB hvr s' X
        have gset2 := fun s' r X => dv_setRow (cs := cs) hB hvr s' r X
        have grs : ∀ s' r X, (dvL B cs (rows.set g.var.toNat r) s' ++ X)[9 + g.var.toNat]? = some (rowB r) := fun s' r X => by
          have := dv_row (cs := cs) (rows := rows.set g.var.toNat r) hB (v := g.var.toNat) (by simpa using hvr) s' X
          simpa using this
        have hRset := fun r h1 h2 => q2.set hvr (r := r) h1 h2
        have hst : stepD vals g slope rows ss = (if addT (valAt rows[g.var.toNat] g.val) slope = 4611686018427387904 then none else some (rows.set g.var.toNat (rows[g.var.toNat].set g.val.toNat (addT (valAt rows[g.var.toNat] g.val) slope)), ss)) := by unfold stepD; rw [if_neg hb, if_pos e, hrow]
        rw [hst] at q4
        rw [hcd] at i4
        have g8 := fun s' X => dv_at8 (cs := cs) (rows := rows) hB s' X
        generalize hrowe : rows[g.var.toNat] = row at *
        generalize cs[g.var.toNat] = k at *
        have hvalr : g.val.toNat < row.length := by omega
        obtain ⟨hh, hva⟩ := valAt_get (vals := row) (a := g.val) h3 (by omega)
        have hgv : (intsE row)[g.val.toNat]? = some [dI (valAt row g.val)] := by rw [hva]; exact intsE_at (List.getElem?_eq_getElem hh)
        have hvb2 : 0 ≤ valAt row g.val ∧ valAt row g.val < 4611686018427387904 := by rw [hva]; exact hrb _ (List.getElem_mem hh)
        have hvp : (g.var < (cs.length : Int)) = True := eq_true (by omega)
        have h1p : (0 ≤ g.var) = True := eq_true h1
        have h3p : (0 ≤ g.val) = True := eq_true h3
        have hvlp : (g.val < (k.toNat : Int)) = True := eq_true (by omega)
        have hil : (intsE row).length = k.toNat := by rw [intsE_len]; exact hrlen
        simp only [wp, stepL_true, doI, quietI, isCallI, wantedD, LSt.put, LSt.putO, LSt.putE, qL, effL, evD, intD, boolD, litD, litV, lk, pickC_true, pickC_false, idxD_sl, loadD_ptr, loadD_eptr, loadD_fptr, fldD, takeD, slotD, esOf, Lx.cellsO, cells_agg, putD, storeD, binV, intBin, Option.map_some, cond_true, beq_self_eq_true, Nat.reduceEqDiff, Nat.reduceLT, Nat.reduceAdd, Nat.reduceLeDiff, Bool.not_true, Bool.not_false, and_self, if_true, if_false, List.getElem?_cons_zero, List.getElem?_cons_succ, List.length_cons, List.length_nil, List.cons_append, List.nil_append, Nat.zero_add, Nat.add_zero, decide_true, List.drop_zero, List.drop_succ_cons, List.take_succ_cons, List.take_zero, List.map_cons, List.map_nil, reduceCtorEq, hcast, gS0, hjp, Int.natCast_nonneg, Int.toNat_natCast, intsE_len, hsl, hsj, hbig, g20, hidx, hgc, gl, ge, gset, e2, g8, slRows_len, h1p, hvp, hslr, gr, h3p, hvlp, hrlen, hgv]
        refine EvL.fn (plus_ok (valAt row g.val) slope hvb2.1 (by omega) hs0 hs1) rfl rfl (.cons (.lit _) (.cons (.lit _) .nil)) ?_
        obtain ⟨a1, a2⟩ := addT_bnd (a := valAt row g.val) (b := slope) hvb2.1 hs0 (by omega)
        generalize addT (valAt row g.val) slope = y at *
        have hgy : (intsE (row.set g.val.toNat y))[g.val.toNat]? = some [dI y] := intsE_at (by simp [hvalr])
        have hily : (row.set g.val.toNat y).length = k.toNat := by simp [hrlen]
        cases hyb : (y == 4611686018427387904)
        · have hy : y ≠ 4611686018427387904 := by simpa using hyb
          rw [if_neg hy] at q4
          simp only [wp, stepL_true, doI, quietI, isCallI, wantedD, LSt.put, LSt.putO, LSt.putE, qL, effL, evD, boolD, litD, litV, lk, pickC_false, loadD_eptr, takeD, esOf, Lx.cellsO, cells_lit, oneV, putD, storeD, binV, intBin, Option.map_some, cond_true, beq_self_eq_true, Nat.reduceEqDiff, Nat.reduceLT, Nat.reduceLeDiff, Bool.not_false, and_self, if_true, if_false, List.getElem?_cons_zero, List.length_cons, List.length_nil, List.cons_append, List.nil_append, Nat.zero_add, List.drop_zero, List.drop_succ_cons, List.take_zero, reduceCtorEq, gr, intsE_len, hrlen, hgv, intsE_set2, gset2, grs, hily, hgy, hyb, hw4]
          refine ⟨(j, rows.set g.var.toNat (row.set g.val.toNat y), ss), ⟨by simp; omega, hRset _ (by simp) (fun x hx => ?_), q3, q4⟩, by simp, dvW hB hsc (by simp [hrl]) (by omega) (by simp [envOk, lk, D.sc]; omega)⟩
          rcases List.mem_or_eq_of_mem_set hx with hx | rfl
          · exact hrb x hx
          · omega
        · have hy : y = 4611686018427387904 := by simpa using hyb
          rw [if_pos hy] at q4
          simp only [wp, stepL_true, doI, quietI, isCallI, wantedD, LSt.put, LSt.putO, LSt.putE, qL, effL, evD, boolD, litD, litV, lk, pickC_true, loadD_eptr, takeD, esOf, Lx.cellsO, cells_lit, oneV, fillD, putD, storeD, binV, intBin, Option.map_some, cond_true, beq_self_eq_true, Nat.reduceEqDiff, Nat.reduceLT, Nat.reduceLeDiff, Bool.not_false, and_self, if_true, if_false, List.getElem?_cons_zero, List.length_cons, List.length_nil, List.cons_append, List.nil_append, Nat.zero_add, List.drop_zero, List.drop_succ_cons, List.take_zero, List.map_cons, List.map_nil, reduceCtorEq, gr, intsE_len, hrlen, hgv, intsE_set2, gset2, grs, hily, hgy, hyb]
          exact EvL.panic rfl rfl ⟨q4.symm, ⟨_, _, rfl⟩, dv_low hB5 _ _⟩
      · have e2 : (g.kind == 2) = false := by simp [e]
        have e3 : (g.kind == 3) = true := by simp [e]
        have hst : stepD vals g slope rows ss = some (rows, addAll slope ss g.args) := by unfold stepD; rw [if_neg hb, if_neg (by omega), if_pos e]
        rw [hst] at q4
        simp only [wp, stepL_true, doI, quietI, isCallI, wantedD, LSt.put, LSt.putO, LSt.putE, qL, effL, evD, intD, boolD, litD, litV, lk, pickC_true, pickC_false, idxD_sl, loadD_ptr, loadD_eptr, loadD_fptr, fldD, takeD, slotD, esOf, Lx.cellsO, cells_agg, putD, storeD, binV, intBin, Option.map_some, cond_true, beq_self_eq_true, Nat.reduceEqDiff, Nat.reduceLT, Nat.reduceAdd, Nat.reduceLeDiff, Bool.not_false, and_self, if_true, if_false, List.getElem?_cons_zero, List.getElem?_cons_succ, List.length_cons, List.length_nil, List.cons_append, List.nil_append, Nat.zero_add, Nat.add_zero, decide_true, List.drop_zero, List.drop_succ_cons, List.take_succ_cons, List.take_zero, List.map_cons, List.map_nil, reduceCtorEq, hcast, gS0, hjp, Int.natCast_nonneg, Int.toNat_natCast, intsE_len, hsl, hsj, hbig, g20, hidx, hgc, gl, ge, gset, e2, e3, len_ints]
        refine EvL.loop (α := Nat × List Int) (fun a => ⟨157, [(0, .ptr 2 0), (3, .sl 8 0 1 cs.length (some cs.length) cs.length), (7, .sl (9 + cs.length) 0 1 gs.length (some gs.length) gs.length), (8, dI j), (9, dI slope), (108, ints false g.args), (109, dI g.args.length), (110, dI a.1)], dvL B cs rows a.2 ++ [.cells [dI g.kind, dI g.var, dI g.val, dI g.n, ints false g.args]]⟩)
          (fun a => a.1 ≤ g.args.length ∧ SloOk gs.length a.2 ∧ addAll slope a.2 (g.args.drop a.1) = addAll slope ss g.args) (fun a => g.args.length - a.1) (0, ss) (Weak.sub (by simp [envSub, lk])) ⟨by simp, q3, rfl⟩ ?_
        rintro ⟨k, s'⟩ ⟨r1, r2, r3⟩
        simp only at r1 r2 r3
        refine wp_sound ?_
        by_cases hk : k < g.args.length
        · have hlt : decide ((k : Int) < (g.args.length : Int)) = true := decide_eq_true (by omega)
          have hw2 : IntKind.i64.wrap ((k : Int) + 1) = ((k + 1 : Nat) : Int) := by rw [wrap64 (by omega) (by omega)]; rfl
          obtain ⟨a1, a2⟩ := h1 _ (List.getElem_mem hk)
          have hia : ∀ L, idxD L 1 (k : Int) (ints false g.args) = some (.fptr false [dI g.args[k]]) := fun L => idx_ints L false hk
          obtain ⟨b1, b2, b3⟩ := r2.at_ (a := g.args[k]) a1 (by omega)
          rw [drop_cons hk, addAll] at r3
          generalize g.args[k] = a at *
          have a1p : (0 ≤ a) = True := eq_true a1
          have a2p : (a < (gs.length : Int)) = True := eq_true (by omega)
          obtain ⟨d1, d2⟩ := addT_bnd (a := valAt s' a) (b := slope) b2 hs0 b3
          simp only [wp, stepL_true, doI, quietI, isCallI, wantedD, LSt.put, LSt.putO, qL, evD, intD, boolD, litD, litV, lk, pickC_true, idxD_sl, loadD_eptr, loadD_fptr, takeD, esOf, binV, intBin, Option.map_some, cond_true, beq_self_eq_true, Nat.reduceEqDiff, Nat.reduceLT, Bool.not_false, and_self, if_true, if_false, List.getElem?_cons_zero, Nat.zero_add, reduceCtorEq, hlt, hia, gS, a1p, a2p, intsE_len, r2.len, b1]
          refine EvL.fn (plus_ok (valAt s' a) slope b2 b3 hs0 hs1) rfl rfl (.cons (.lit _) (.cons (.lit _) .nil)) ?_
          simp only [wp, stepL_true, doI, quietI, isCallI, wantedD, LSt.put, LSt.putO, LSt.putE, qL, effL, evD, intD, litD, litV, lk, idxD_sl, esOf, Lx.cellsO, cells_lit, oneV, putD, storeD, binV, intBin, Option.map_some, cond_true, beq_self_eq_true, Nat.reduceEqDiff, Nat.reduceLT, Nat.reduceLeDiff, Bool.not_false, and_self, if_true, if_false, List.length_cons, List.length_nil, List.cons_append, List.nil_append, Nat.zero_add, List.drop_zero, List.drop_succ_cons, List.take_zero, reduceCtorEq, gS, a1p, a2p, intsE_len, r2.len, b1, intsE_set2, gSet, hw2]
          exact ⟨(k + 1, s'.set a.toNat (addT (valAt s' a) slope)), ⟨by simp; omega, r2.set _ d1 d2, r3⟩, by simp; omega, Weak.sub (by simp [envSub, lk])⟩
        · have hlt : decide ((k : Int) < (g.args.length : Int)) = false := decide_eq_false (by omega)
          rw [List.drop_of_length_le (by omega), addAll] at r3
          simp only [wp, stepL_true, doI, quietI, isCallI, wantedD, LSt.put, LSt.putO, qL, evD, boolD, litD, litV, lk, pickC_false, binV, intBin, Option.map_some, cond_true, beq_self_eq_true, Nat.reduceEqDiff, Nat.reduceLT, Bool.not_false, if_true, if_false, reduceCtorEq, hlt, hw4]
          exact ⟨(j, rows, s'), ⟨by simp; omega, q2, r2, by rw [r3]; exact q4⟩, by simp, dvW hB hsc hrl (by omega) (by simp [envOk, lk, D.sc]; omega)⟩
      · have e2 : (g.kind == 2) = false := by simp [e]
        have e3 : (g.kind == 3) = false := by simp [e]
        have e4 : (g.kind == 4) = true := by simp [e]
        have hst : stepD vals g slope rows ss = some (rows, addPro slope ss g.args (othR vals g.args)) := by unfold stepD; rw [if_neg hb, if_neg (by omega), if_neg (by omega), if_pos e]
        rw [hst] at q4
        have hR : RunIn c input vals 7 es (dvL B cs rows ss ++ [.cells [dI g.kind, dI g.var, dI g.val, dI g.n, ints false g.args]]) := by
          refine ⟨?_, dv_low hB7 _ _, hes, hvb, by omega, ?_⟩
          · rw [g2]; unfold runC; rw [hcs, hgs]
          · have hl : (dvL B cs rows ss ++ [LB.cells [dI g.kind, dI g.var, dI g.val, dI g.n, ints false g.args]]).length = 11 + cs.length := by rw [List.length_append, gl]; simp; omega
            rw [hl]
            exact scAll_app (dv_sc (hsc _ (by omega)) (by omega) rows ss) ⟨by simp [LB.sc, D.scs, D.sc, ints], trivial⟩
        have hol := othR_len vals g.args
        have hob := othR_bnd hvb g.args
        simp only [wp, stepL_true, doI, quietI, isCallI, wantedD, LSt.put, LSt.putO, LSt.putE, qL, effL, evD, intD, boolD, litD, litV, lk, pickC_true, pickC_false, idxD_sl, loadD_ptr, loadD_eptr, loadD_fptr, fldD, takeD, slotD, esOf, Lx.cellsO, cells_agg, putD, storeD, binV, intBin, Option.map_some, cond_true, beq_self_eq_true, Nat.reduceEqDiff, Nat.reduceLT, Nat.reduceAdd, Nat.reduceLeDiff, Bool.not_false, and_self, if_true, if_false, List.getElem?_cons_zero, List.getElem?_cons_succ, List.length_cons, List.length_nil, List.cons_append, List.nil_append, Nat.zero_add, Nat.add_zero, decide_true, List.drop_zero, List.drop_succ_cons, List.take_succ_cons, List.take_zero, List.map_cons, List.map_nil, reduceCtorEq, hcast, gS0, hjp, Int.natCast_nonneg, Int.toNat_natCast, intsE_len, hsl, hsj, hbig, g20, hidx, hgc, gl, ge, gset, e2, e3, e4]
        refine EvL.call rfl rfl (others_ok hR g.args hga (fun a ha => by have := h1 a ha; omega)) ?_ (fun _ _ (h : False) => False.elim h)
        rintro r L' ⟨rfl, rfl⟩
        generalize othR vals g.args = oth at *
        simp only [wp, stepL_true, doI, quietI, isCallI, wantedD, LSt.put, LSt.putO, qL, evD, lk, lenD_sl, esOf, Nat.reduceEqDiff, Nat.reduceLT, and_self, if_true, if_false, List.length_cons, List.length_nil, List.length_append, List.append_assoc, List.cons_append, List.nil_append, Nat.zero_add, reduceCtorEq, gl, ge2b, intsE_len, hol]
        refine EvL.loop (α := Nat × List Int) (fun a => ⟨157, [(0, .ptr 2 0), (3, .sl 8 0 1 cs.length (some cs.length) cs.length), (7, .sl (9 + cs.length) 0 1 gs.length (some gs.length) gs.length), (8, dI j), (9, dI slope), (10, .ptr (10 + cs.length) 0), (129, .sl (10 + cs.length + 1) 0 1 g.args.length (some g.args.length) g.args.length), (130, dI g.args.length), (131, dI a.1)], dvL B cs rows a.2 ++ [.cells [dI g.kind, dI g.var, dI g.val, dI g.n, ints false g.args], .els 1 (intsE oth)]⟩)
          (fun a => a.1 ≤ g.args.length ∧ SloOk gs.length a.2 ∧ addPro slope a.2 (g.args.drop a.1) (oth.drop a.1) = addPro slope ss g.args oth) (fun a => g.args.length - a.1) (0, ss) (Weak.sub (by simp [envSub, lk])) ⟨by simp, q3, rfl⟩ ?_
        rintro ⟨k, s'⟩ ⟨r1, r2, r3⟩
        simp only at r1 r2 r3
        refine wp_sound ?_
        by_cases hk : k < g.args.length
        · have hlt : decide ((k : Int) < (g.args.length : Int)) = true := decide_eq_true (by omega)
          have hltp : ((k : Int) < (g.args.length : Int)) = True := eq_true (by omega)
          have hw2 : IntKind.i64.wrap ((k : Int) + 1) = ((k + 1 : Nat) : Int) := by rw [wrap64 (by omega) (by omega)]; rfl
          obtain ⟨a1, a2⟩ := h1 _ (List.getElem_mem hk)
          have hia : ∀ L, idxD L 1 (k : Int) (ints false g.args) = some (.fptr false [dI g.args[k]]) := fun L => idx_ints L false hk
          obtain ⟨b1, b2, b3⟩ := r2.at_ (a := g.args[k]) a1 (by omega)
          have hko : k < oth.length := by omega
          have hqo : (intsE oth)[k]? = some [dI oth[k]] := intsE_at (List.getElem?_eq_getElem hko)
          obtain ⟨o1, o2⟩ := hob _ (List.getElem_mem hko)
          rw [drop_cons hk, drop_cons hko, addPro] at r3
          generalize g.args[k] = a at *
          generalize oth[k] = q at *
          have a1p : (0 ≤ a) = True := eq_true a1
          have a2p : (a < (gs.length : Int)) = True := eq_true (by omega)
          obtain ⟨m1, m2⟩ := mulT_bnd (a := slope) (b := q) hs0 o1
          obtain ⟨d1, d2⟩ := addT_bnd (a := valAt s' a) (b := mulT slope q) b2 m1 b3
          simp only [wp, stepL_true, doI, quietI, isCallI, wantedD, LSt.put, LSt.putO, qL, evD, intD, boolD, litD, litV, lk, pickC_true, idxD_sl, loadD_ptr, loadD_eptr, loadD_fptr, fldD, takeD, esOf, binV, intBin, Option.map_some, cond_true, beq_self_eq_true, Nat.reduceEqDiff, Nat.reduceLT, Bool.not_true, Bool.not_false, and_self, if_true, if_false, List.getElem?_cons_zero, List.getElem?_cons_succ, Nat.zero_add, decide_true, reduceCtorEq, hltp, Int.natCast_nonneg, Int.toNat_natCast, ge2b, ge2a, intsE_len, hol, hqo, hia, gS, a1p, a2p, r2.len, b1]
          refine EvL.fn (times_ok slope q hs0 hs1 o1 o2) rfl rfl (.cons (.lit _) (.cons (.lit _) .nil)) ?_
          simp only [wp, isCallI, LSt.put, Nat.reduceLT, if_true]
          refine EvL.fn (plus_ok (valAt s' a) (mulT slope q) b2 b3 m1 m2) rfl rfl (.cons (.lit _) (.cons (.lit _) .nil)) ?_
          simp only [wp, stepL_true, doI, quietI, isCallI, wantedD, LSt.put, LSt.putO, LSt.putE, qL, effL, evD, intD, litD, litV, lk, idxD_sl, esOf, Lx.cellsO, cells_lit, oneV, putD, storeD, binV, intBin, Option.map_some, cond_true, beq_self_eq_true, Nat.reduceEqDiff, Nat.reduceLT, Nat.reduceLeDiff, Bool.not_false, and_self, if_true, if_false, List.length_cons, List.length_nil, List.cons_append, List.nil_append, Nat.zero_add, List.drop_zero, List.drop_succ_cons, List.take_zero, reduceCtorEq, gS, a1p, a2p, intsE_len, r2.len, b1, intsE_set2, gSet, hw2]
          exact ⟨(k + 1, s'.set a.toNat (addT (valAt s' a) (mulT slope q))), ⟨by simp; omega, r2.set _ d1 d2, r3⟩, by simp; omega, Weak.sub (by simp [envSub, lk])⟩
        · have hlt : decide ((k : Int) < (g.args.length : Int)) = false := decide_eq_false (by omega)
          rw [List.drop_of_length_le (by omega), addPro] at r3
          · simp only [wp, stepL_true, doI, quietI, isCallI, wantedD, LSt.put, LSt.putO, qL, evD, boolD, litD, litV, lk, pickC_false, binV, intBin, Option.map_some, cond_true, beq_self_eq_true, Nat.reduceEqDiff, Nat.reduceLT, Bool.not_false, if_true, if_false, reduceCtorEq, hlt, hw4]
            exact ⟨(j, rows, s'), ⟨by simp; omega, q2, r2, by rw [r3]; exact q4⟩, by simp, dvW hB hsc hrl (by omega) (by simp [envOk, lk, D.sc]; omega)⟩
          · intro a r q s h; cases h
end Go.Proofs.Ytbjfkbkmoeibdaa.C
