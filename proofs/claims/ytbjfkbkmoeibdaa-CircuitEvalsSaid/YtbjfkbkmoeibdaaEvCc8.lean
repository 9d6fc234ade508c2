/-
  Contracts: evaluate. Conditions: none.
-/
import Derived.Test.YtbjfkbkmoeibdaaCc7
import Derived.Test.YtbjfkbkmoeibdaaEv2
namespace Go.Proofs.Ytbjfkbkmoeibdaa.C
open Go Go.Mx Go.Lx
set_option linter.unusedSimpArgs false
set_option linter.unusedVariables false
set_option maxRecDepth 100000
def gateV (input vals : List Int) (g : Gate) : Int :=
  if g.kind = 1 then g.n else if g.kind = 2 then isV input g else if g.kind = 3 then (g.args.map (valAt vals)).foldl addT 0 else (g.args.map (valAt vals)).foldl mulT 1
def evalGo (input : List Int) : List Int → List Gate → Option (List Int)
  | vals, [] => some vals
  | vals, g :: r => if gateV input vals g = 4611686018427387904 then none else evalGo input (vals ++ [gateV input vals g]) r
theorem foldl_bnd {op : Int → Int → Int} (hop : ∀ a b, 0 ≤ a → 0 ≤ b → a ≤ 4611686018427387904 → 0 ≤ op a b ∧ op a b ≤ 4611686018427387904) : ∀ (l : List Int) (u : Int), (∀ x ∈ l, 0 ≤ x) → 0 ≤ u → u ≤ 4611686018427387904 → 0 ≤ l.foldl op u ∧ l.foldl op u ≤ 4611686018427387904
  | [], u, _, h1, h2 => ⟨h1, h2⟩
  | x :: r, u, hx, h1, h2 => by
    obtain ⟨g1, g2⟩ := hop u x h1 (hx x (by simp)) h2
    exact foldl_bnd hop r _ (fun y hy => hx y (by simp [hy])) g1 g2
theorem gate_kinds {cards : List Int} {i : Int} {g : Gate} (h : gateB cards i g = true) :
    (g.kind = 1 ∧ 0 ≤ g.n ∧ g.n < 4611686018427387904) ∨ (g.kind = 2 ∧ 0 ≤ g.var ∧ g.var < cards.length ∧ 0 ≤ g.val) ∨ ((g.kind = 3 ∨ g.kind = 4) ∧ ∀ a ∈ g.args, 0 ≤ a ∧ a < i) := by
  unfold gateB at h
  split at h
  · rename_i h1
    simp only [Bool.and_eq_true, decide_eq_true_eq] at h
    exact .inl ⟨by simpa using h1, h.1, by omega⟩
  · split at h
    · rename_i h1
      simp only [Bool.and_eq_true, decide_eq_true_eq] at h
      exact .inr (.inl ⟨by simpa using h1, h.1, h.2.1, h.2.2.1⟩)
    · split at h
      · rename_i h1
        simp only [Bool.and_eq_true] at h
        refine .inr (.inr ⟨by simpa using h1, fun a ha => ?_⟩)
        have := incr_ge h.2.2.2.2 a ha
        omega
      · cases h
def rulesC : List D := [.lit .nilFunc, .clo 71 [.ptr 2 0] [], .clo 72 [.ptr 2 0] [], .clo 73 [.ptr 2 0] [], .clo 74 [.ptr 2 0] []]
theorem gate_ok {c : Circ} {input vals : List Int} {β : Nat} {es : List (List D)} {L : List LB} (h : RunIn c input vals β es L) (g : Gate) (hl : g.args.length < 1000000) (hi : input.length = c.cards.length) (hg : gateB c.cards vals.length g = true) :
    (0 ≤ gateV input vals g ∧ gateV input vals g ≤ 4611686018427387904) ∧ (0 ≤ g.kind ∧ g.kind < 5) ∧ ∃ f, rulesC[g.kind.toNat]? = some (.clo f [.ptr 2 0] []) ∧ CallL mC false f [.ptr 2 0, .agg (gateC false g)] L (fun d L' => d = dI (gateV input vals g) ∧ L' = L) fun _ _ => False := by
  have hv : ∀ a ∈ g.args, 0 ≤ a ∧ a < vals.length → 0 ≤ valAt vals a := fun a _ h1 => (h.val h1.1 h1.2).2.1
  rcases gate_kinds hg with ⟨e, h1, h2⟩ | ⟨e, h1, h2, h3⟩ | ⟨e, h1⟩
  · have ev : gateV input vals g = g.n := by unfold gateV; rw [if_pos e]
    rw [ev, e]
    exact ⟨⟨h1, by omega⟩, ⟨by omega, by omega⟩, 71, rfl, number_ok h.sc g _⟩
  · have ev : gateV input vals g = isV input g := by unfold gateV; rw [if_neg (by omega), if_pos e]
    rw [ev, e]
    refine ⟨?_, ⟨by omega, by omega⟩, 72, rfl, is_ok h g h1 (by omega)⟩
    unfold isV
    split <;> omega
  · rcases e with e | e
    · have ev : gateV input vals g = (g.args.map (valAt vals)).foldl addT 0 := by unfold gateV; rw [if_neg (by omega), if_neg (by omega), if_pos e]
      rw [ev, e]
      refine ⟨foldl_bnd (fun a b q1 q2 q3 => addT_bnd q1 q2 q3) _ _ (fun x hx => ?_) (by omega) (by omega), ⟨by omega, by omega⟩, 73, rfl, sumG_ok h g hl h1⟩
      obtain ⟨a, q1, rfl⟩ := List.mem_map.1 hx
      exact hv a q1 (h1 a q1)
    · have ev : gateV input vals g = (g.args.map (valAt vals)).foldl mulT 1 := by unfold gateV; rw [if_neg (by omega), if_neg (by omega), if_neg (by omega)]
      rw [ev, e]
      refine ⟨foldl_bnd (fun a b q1 q2 q3 => mulT_bnd q1 q2) _ _ (fun x hx => ?_) (by omega) (by omega), ⟨by omega, by omega⟩, 74, rfl, productG_ok h g hl h1⟩
      obtain ⟨a, q1, rfl⟩ := List.mem_map.1 hx
      exact hv a q1 (h1 a q1)
theorem gatesB_get {cards : List Int} : ∀ {gs : List Gate} {i : Int}, gatesB cards i gs = true → ∀ (k : Nat) (h : k < gs.length), gateB cards (i + k) gs[k] = true
  | [], i, _, k, h => by simp at h
  | g :: r, i, hb, k, h => by
    simp only [gatesB, Bool.and_eq_true] at hb
    cases k with
    | zero => simpa using hb.1
    | succ k =>
      have := gatesB_get hb.2 k (by simpa using h)
      rw [show i + 1 + (k : Int) = i + ((k + 1 : Nat) : Int) by omega] at this
      simpa using this
theorem validB_get {c : Circ} (h : validB c = true) (k : Nat) (hk : k < c.gates.length) : gateB c.cards k c.gates[k] = true := by
  simp only [validB, Bool.and_eq_true] at h
  have := gatesB_get h.2.2.2 k hk
  rwa [Int.zero_add] at this
theorem validB_len {c : Circ} (h : validB c = true) : 1 ≤ c.gates.length ∧ c.gates.length ≤ 4000 := by
  simp only [validB, Bool.and_eq_true, decide_eq_true_eq] at h
  exact ⟨h.2.1, h.2.2.1⟩
theorem has51 : mC.has 51 fn51 := ⟨rfl, fun _ _ _ => rfl⟩
theorem es_step {vals : List Int} {es : List (List D)} {x : Int} (h : ∀ i (hi : i < vals.length), es[i]? = some [dI vals[i]]) (hl : vals.length < es.length) : ∀ i (hi : i < (vals ++ [x]).length), (es.take vals.length ++ [[dI x]] ++ es.drop (vals.length + 1))[i]? = some [dI (vals ++ [x])[i]] := by
  intro i hi
  simp only [List.length_append, List.length_cons, List.length_nil] at hi
  have hlt : (es.take vals.length).length = vals.length := by simp; omega
  by_cases hc : i < vals.length
  · rw [List.append_assoc, List.getElem?_append_left (by omega), List.getElem?_take, if_pos hc, h i hc, List.getElem_append_left hc]
  · have : i = vals.length := by omega
    subst this
    rw [List.append_assoc, List.getElem?_append_right (by omega), hlt]
    simp
/-- Memory while gates are evaluated. -/
def evL (c : Circ) (input vals : List Int) (es : List (List D)) : List LB := [.cells (circC false c), .cells (circC false c), .cells (runC c input (.sl 5 0 1 vals.length (some es.length) es.length)), .cells [dI 0], .cells rulesC, .els 1 es]
theorem evL_run {c : Circ} {input vals : List Int} {es : List (List D)} {x : LB} (h1 : ∀ i (h : i < vals.length), es[i]? = some [dI vals[i]]) (h2 : ∀ v ∈ vals, 0 ≤ v ∧ v < 4611686018427387904) (h3 : vals.length ≤ es.length) (h4 : ∀ e ∈ es, ∃ n, e = [dI n]) (hx : x.sc 7) : RunIn c input vals 5 es (evL c input vals es ++ [x]) := by
  refine ⟨rfl, rfl, h1, h2, h3, ?_⟩
  have hes : ∀ e ∈ es, D.scs 7 e := fun e he => by obtain ⟨n, rfl⟩ := h4 e he; exact ⟨trivial, trivial⟩
  simp only [evL, scAll, List.cons_append, List.nil_append, List.length_cons, List.length_nil, LB.sc, D.scs, D.sc, runC, rulesC, circC, ints, gatesD, and_true, true_and, Nat.reduceLT, Nat.reduceAdd]
  exact ⟨hes, hx⟩
theorem evL_sc {c : Circ} {input vals : List Int} {es : List (List D)} (h4 : ∀ e ∈ es, ∃ n, e = [dI n]) : scAll 6 (evL c input vals es) := by
  have hes : ∀ e ∈ es, D.scs 6 e := fun e he => by obtain ⟨n, rfl⟩ := h4 e he; exact ⟨trivial, trivial⟩
  simp only [evL, scAll, LB.sc, D.scs, D.sc, runC, rulesC, circC, ints, gatesD, and_true, true_and, Nat.reduceLT]
  exact hes
set_option maxHeartbeats 4000000 in
theorem evaluate_ok (c : Circ) (input : List Int) (hv : validB c = true) (ha : ∀ g ∈ c.gates, g.args.length < 1000000) (hi : input.length = c.cards.length) :
    CallL mC false 51 [.ptr 2 0] [.cells (circC false c), .cells (circC false c), .cells (runC c input (.lit (.slice none 0 0))), .cells [dI 0]]
      (fun d L' => ∃ vals es, evalGo input [] c.gates = some vals ∧ vals.length = c.gates.length ∧ (∀ v ∈ vals, 0 ≤ v ∧ v < 4611686018427387904) ∧ es.length = c.gates.length ∧ (∀ i (h : i < vals.length), es[i]? = some [dI vals[i]]) ∧ (∀ e ∈ es, ∃ n, e = [dI n]) ∧ L' = evL c input vals es)
      fun d L' => evalGo input [] c.gates = none ∧ (∃ t r, d = .ifc t r) ∧ L'[3]? = some (.cells [dI 0]) := by
  refine CallL.code has51 rfl (by simp [fn51]) ?_
  obtain ⟨hn1, hn2⟩ := validB_len hv
  have er : runC c input (.lit (.slice none 0 0)) = [ints false c.cards, gatesD false c.gates, ints false input, (.lit (.slice none 0 0))] := rfl
  have hm : (c.gates.length : Int) * 8 ≤ (maxBytes : Int) := by show _ ≤ (140737488355328 : Int); omega
  have hm' : ((c.gates.length : Int) * ((8 : Nat) : Int)) ≤ (maxBytes : Int) := hm
  simp only [wp, stepL_true, doI, quietI, isCallI, wantedD, LSt.put, LSt.putO, LSt.putE, qL, effL, evD, evDs, intD, lk, loadD_ptr, fldD, takeD, Lx.cellsO, cells_agg, cells_sl, cells_clo, fillD, putD, storeD, argsE, Nat.reduceEqDiff, Nat.reduceLT, Nat.reduceAdd, Nat.reduceLeDiff, Bool.not_false, and_self, if_true, if_false, List.getElem?_cons_zero, List.getElem?_cons_succ, List.length_cons, List.length_nil, List.cons_append, List.nil_append, Nat.zero_add, Nat.add_zero, List.drop_zero, List.drop_succ_cons, List.take_succ_cons, List.take_zero, List.map_cons, List.map_nil, List.set_cons_zero, List.set_cons_succ, reduceCtorEq, fn51, er, len_gates, Int.natCast_nonneg, hm', Int.toNat_natCast, Int.toNat_zero, Int.le_refl]
  refine EvL.loop (α := List Int × List (List D)) (fun a => ⟨58, [(0, .ptr 2 0), (2, .ptr 4 0), (29, gatesD false c.gates), (30, dI c.gates.length), (31, dI a.1.length)], evL c input a.1 a.2⟩)
    (fun a => a.1.length ≤ c.gates.length ∧ a.2.length = c.gates.length ∧ (∀ i (h : i < a.1.length), a.2[i]? = some [dI a.1[i]]) ∧ (∀ v ∈ a.1, 0 ≤ v ∧ v < 4611686018427387904) ∧ (∀ e ∈ a.2, ∃ n, e = [dI n]) ∧ evalGo input a.1 (c.gates.drop a.1.length) = evalGo input [] c.gates) (fun a => c.gates.length - a.1.length) ([], List.replicate c.gates.length [dI 0])
    (by simp only [evL, runC, rulesC, List.length_replicate, List.length_nil]; exact Weak.sub (by simp [envSub, lk])) ⟨by simp, by simp, by simp, by simp, fun e he => ⟨0, (List.mem_replicate.1 he).2⟩, by simp⟩ ?_
  rintro ⟨vals, es⟩ ⟨p1, p2, p3, p4, p5, p6⟩
  simp only at p1 p2 p3 p4 p5 p6
  refine wp_sound ?_
  have eev : evL c input vals es = [.cells (circC false c), .cells (circC false c), .cells [ints false c.cards, gatesD false c.gates, ints false input, .sl 5 0 1 vals.length (some es.length) es.length], .cells [dI 0], .cells rulesC, .els 1 es] := rfl
  by_cases hk : vals.length < c.gates.length
  · have hlt : decide ((vals.length : Int) < (c.gates.length : Int)) = true := by simp; omega
    have hw2 : IntKind.i64.wrap ((vals.length : Int) + 1) = ((vals.length + 1 : Nat) : Int) := by rw [wrap64 (by omega) (by omega)]; rfl
    have hgc : gateC false c.gates[vals.length] = [dI c.gates[vals.length].kind, dI c.gates[vals.length].var, dI c.gates[vals.length].val, dI c.gates[vals.length].n, ints false c.gates[vals.length].args] := rfl
    have hR := evL_run (c := c) (input := input) (x := .cells (gateC false c.gates[vals.length])) p3 p4 (by omega) p5 (by simp [LB.sc, D.scs, D.sc, gateC, ints])
    obtain ⟨⟨g1, g2⟩, ⟨g3, g4⟩, f, g5, g6⟩ := gate_ok hR c.gates[vals.length] (ha _ (List.getElem_mem hk)) hi (validB_get hv _ hk)
    have g4' : c.gates[vals.length].kind < ((5 : Nat) : Int) := g4
    rw [drop_cons hk, evalGo] at p6
    simp only [wp, stepL_true, doI, quietI, isCallI, wantedD, LSt.put, LSt.putO, LSt.putE, qL, effL, evD, intD, boolD, litD, litV, lk, pickC_true, loadD_ptr, loadD_fptr, fldD, takeD, slotD, Lx.cellsO, cells_agg, putD, storeD, binV, intBin, Option.map_some, cond_true, beq_self_eq_true, Nat.reduceEqDiff, Nat.reduceLT, Nat.reduceAdd, Nat.reduceLeDiff, Bool.not_true, Bool.not_false, and_self, if_true, if_false, List.getElem?_cons_zero, List.getElem?_cons_succ, List.length_cons, List.length_nil, List.cons_append, List.nil_append, Nat.zero_add, Nat.add_zero, List.drop_zero, List.drop_succ_cons, List.take_succ_cons, List.take_zero, List.map_cons, List.map_nil, List.set_cons_zero, List.set_cons_succ, reduceCtorEq, hlt, idx_gates _ _ hk, eev, hgc, g3, g4', g5, Nat.mul_one]
    refine EvL.callv (f := f) (first := [.ptr 2 0]) (cap := []) (ds := [.agg (gateC false c.gates[vals.length])]) rfl rfl rfl g6 ?_ (fun _ _ (h : False) => False.elim h)
    rintro r L' ⟨rfl, rfl⟩
    cases hx : (gateV input vals c.gates[vals.length] == 4611686018427387904)
    · have hx' : gateV input vals c.gates[vals.length] ≠ 4611686018427387904 := by simpa using hx
      rw [if_neg hx'] at p6
      have hq1 : vals.length + 1 ≤ es.length := by omega
      simp only [wp, stepL_true, doI, quietI, isCallI, wantedD, LSt.put, LSt.putO, LSt.putE, qL, effL, evD, boolD, litD, litV, lk, pickC_false, loadD_ptr, fldD, takeD, esOf, Lx.cellsO, cells_lit, cells_sl, oneV, fillE, putD, srcD_sl, storeD, appD, binV, intBin, Option.map_some, cond_true, beq_self_eq_true, Nat.reduceEqDiff, Nat.reduceLT, Nat.reduceAdd, Nat.reduceLeDiff, Bool.not_false, true_and, and_self, if_true, if_false, List.getElem?_cons_zero, List.getElem?_cons_succ, List.length_cons, List.length_nil, List.append_assoc, List.cons_append, List.nil_append, Nat.zero_add, List.drop_zero, List.drop_succ_cons, List.take_succ_cons, List.take_zero, List.map_cons, List.map_nil, List.set_cons_zero, List.set_cons_succ, List.replicate_succ, List.replicate_zero, reduceCtorEq, hx, eev, hq1, hw2]
      refine ⟨(vals ++ [gateV input vals c.gates[vals.length]], es.take vals.length ++ [[dI (gateV input vals c.gates[vals.length])]] ++ es.drop (vals.length + 1)), ⟨by simp; omega, by simp; omega, es_step p3 (by omega), ?_, ?_, by simpa using p6⟩, by simp; omega, ?_⟩
      · intro v hvm
        simp only [List.mem_append, List.mem_cons, List.not_mem_nil, or_false] at hvm
        rcases hvm with hvm | rfl
        · exact p4 v hvm
        · omega
      · intro e he
        simp only [List.append_assoc, List.mem_append, List.mem_cons, List.cons_append, List.nil_append] at he
        rcases he with he | rfl | he
        · exact p5 e (List.mem_of_mem_take he)
        · exact ⟨_, rfl⟩
        · exact p5 e (List.mem_of_mem_drop he)
      · have el : (es.take vals.length).length + ((es.drop (vals.length + 1)).length + 1) = es.length := by simp; omega
        refine Weak.cutD ?_ (by simp [evL]) ?_ (evL_sc ?_)
        · simp only [evL, runC, List.append_assoc, el, List.length_append, List.length_cons, List.length_nil, Nat.zero_add, List.drop_succ_cons, List.drop_zero, List.cons_append, List.nil_append]
        · simp [envOk, lk, D.sc, gatesD, evL]
        · intro e he
          simp only [List.append_assoc, List.mem_append, List.mem_cons, List.cons_append, List.nil_append] at he
          rcases he with he | rfl | he
          · exact p5 e (List.mem_of_mem_take he)
          · exact ⟨_, rfl⟩
          · exact p5 e (List.mem_of_mem_drop he)
    · have hx' : gateV input vals c.gates[vals.length] = 4611686018427387904 := by simpa using hx
      rw [if_pos hx'] at p6
      simp only [wp, stepL_true, doI, quietI, isCallI, wantedD, LSt.put, LSt.putO, qL, evD, boolD, litD, litV, lk, pickC_true, Lx.cellsO, cells_lit, oneV, fillD, putD, binV, intBin, Option.map_some, cond_true, beq_self_eq_true, Nat.reduceEqDiff, Nat.reduceLT, Nat.reduceLeDiff, Bool.not_false, and_self, if_true, if_false, List.length_cons, List.length_nil, List.cons_append, List.nil_append, Nat.zero_add, List.drop_zero, List.drop_succ_cons, List.take_zero, List.map_cons, List.map_nil, reduceCtorEq, hx, eev]
      exact EvL.panic rfl rfl ⟨p6.symm, ⟨_, _, rfl⟩, rfl⟩
  · have hlt : decide ((vals.length : Int) < (c.gates.length : Int)) = false := by simp; omega
    rw [List.drop_of_length_le (by omega), evalGo] at p6
    simp only [wp, stepL_true, doI, quietI, isCallI, wantedD, LSt.put, LSt.putO, qL, evD, boolD, litD, litV, lk, pickC_false, binV, intBin, Option.map_some, cond_true, beq_self_eq_true, Nat.reduceEqDiff, Nat.reduceLT, Bool.not_false, if_true, if_false, reduceCtorEq, hlt]
    exact ⟨_, rfl, vals, es, p6.symm, by omega, p4, p2, p3, p5, rfl⟩
end Go.Proofs.Ytbjfkbkmoeibdaa.C
