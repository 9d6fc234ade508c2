/-
  Contracts: newRun, Eval. Conditions: none.
-/
import Derived.Test.YtbjfkbkmoeibdaaDeCc7
import Derived.Test.YtbjfkbkmoeibdaaDe3
namespace Go.Proofs.Ytbjfkbkmoeibdaa.C
open Go Go.Mx Go.Lx
set_option linter.unusedSimpArgs false
set_option linter.unusedVariables false
set_option maxRecDepth 100000
def gateV (input vals : List Int) (g : Gate) : Int :=
  if g.kind = 1 then g.n else if g.kind = 2 then isV input g else if g.kind = 3 then (g.args.map (valAt vals)).foldl addT 0 else (g.args.map (valAt vals)).foldl mulT 1
def evalGo (input : List Int) : List Int → List Gate → Option (List Int)
  | vals, [] => some vals
  | vals, g :: r => if gateV input vals g = 4611686018427387904 then none else evalGo input (vals ++ [gateV input vals g]) r
theorem foldl_bnd {op : Int → Int → Int} (hop : ∀ a b, 0 ≤ a → 0 ≤ b → a ≤ 4611686018427387904 → 0 ≤ op a b ∧ op a b ≤ 4611686018427387904) : ∀ (l : List Int) (u : Int), (∀ x ∈ l, 0 ≤ x) → 0 ≤ u → u ≤ 4611686018427387904 → 0 ≤ l.foldl op u ∧ l.foldl op u ≤ 4611686018427387904
  | [], u, _, h1, h2 => ⟨h1, h2⟩
  | x :: r, u, hx, h1, h2 => by
    obtain ⟨g1, g2⟩ := hop u x h1 (hx x (by simp)) h2
    exact foldl_bnd hop r _ (fun y hy => hx y (by simp [hy])) g1 g2
theorem gate_kinds {cards : List Int} {i : Int} {g : Gate} (h : gateB cards i g = true) :
    (g.kind = 1 ∧ 0 ≤ g.n ∧ g.n < 4611686018427387904) ∨ (g.kind = 2 ∧ 0 ≤ g.var ∧ g.var < cards.length ∧ 0 ≤ g.val) ∨ ((g.kind = 3 ∨ g.kind = 4) ∧ ∀ a ∈ g.args, 0 ≤ a ∧ a < i) := by
  unfold gateB at h
  split at h
  · rename_i h1
    simp only [Bool.and_eq_true, decide_eq_true_eq] at h
    exact .inl ⟨by simpa using h1, h.1, by omega⟩
  · split at h
    · rename_i h1
      simp only [Bool.and_eq_true, decide_eq_true_eq] at h
      exact .inr (.inl ⟨by simpa using h1, h.1, h.2.1, h.2.2.1⟩)
    · split at h
      · rename_i h1
        simp only [Bool.and_eq_true] at h
        refine .inr (.inr ⟨by simpa using h1, fun a ha => ?_⟩)
        have := incr_ge h.2.2.2.2 a ha
        omega
      · cases h
def rulesC : List D := [.lit .nilFunc, .clo 71 [.ptr 2 0] [], .clo 72 [.ptr 2 0] [], .clo 73 [.ptr 2 0] [], .clo 74 [.ptr 2 0] []]
theorem gate_ok {c : Circ} {input vals : List Int} {β : Nat} {es : List (List D)} {L : List LB} (h : RunIn c input vals β es L) (g : Gate) (hl : g.args.length < 1000000) (hi : input.length = c.cards.length) (hg : gateB c.cards vals.length g = true) :
    (0 ≤ gateV input vals g ∧ gateV input vals g ≤ 4611686018427387904) ∧ (0 ≤ g.kind ∧ g.kind < 5) ∧ ∃ f, rulesC[g.kind.toNat]? = some (.clo f [.ptr 2 0] []) ∧ CallL mC false f [.ptr 2 0, .agg (gateC false g)] L (fun d L' => d = dI (gateV input vals g) ∧ L' = L) fun _ _ => False := by
  have hv : ∀ a ∈ g.args, 0 ≤ a ∧ a < vals.length → 0 ≤ valAt vals a := fun a _ h1 => (h.val h1.1 h1.2).2.1
  rcases gate_kinds hg with ⟨e, h1, h2⟩ | ⟨e, h1, h2, h3⟩ | ⟨e, h1⟩
  · have ev : gateV input vals g = g.n := by unfold gateV; rw [if_pos e]
    rw [ev, e]
    exact ⟨⟨h1, by omega⟩, ⟨by omega, by omega⟩, 71, rfl, number_ok h.sc g _⟩
  · have ev : gateV input vals g = isV input g := by unfold gateV; rw [if_neg (by omega), if_pos e]
    rw [ev, e]
    refine ⟨?_, ⟨by omega, by omega⟩, 72, rfl, is_ok h g h1 (by omega)⟩
    unfold isV
    split <;> omega
  · rcases e with e | e
    · have ev : gateV input vals g = (g.args.map (valAt vals)).foldl addT 0 := by unfold gateV; rw [if_neg (by omega), if_neg (by omega), if_pos e]
      rw [ev, e]
      refine ⟨foldl_bnd (fun a b q1 q2 q3 => addT_bnd q1 q2 q3) _ _ (fun x hx => ?_) (by omega) (by omega), ⟨by omega, by omega⟩, 73, rfl, sumG_ok h g hl h1⟩
      obtain ⟨a, q1, rfl⟩ := List.mem_map.1 hx
      exact hv a q1 (h1 a q1)
    · have ev : gateV input vals g = (g.args.map (valAt vals)).foldl mulT 1 := by unfold gateV; rw [if_neg (by omega), if_neg (by omega), if_neg (by omega)]
      rw [ev, e]
      refine ⟨foldl_bnd (fun a b q1 q2 q3 => mulT_bnd q1 q2) _ _ (fun x hx => ?_) (by omega) (by omega), ⟨by omega, by omega⟩, 74, rfl, productG_ok h g hl h1⟩
      obtain ⟨a, q1, rfl⟩ := List.mem_map.1 hx
      exact hv a q1 (h1 a q1)
theorem gatesB_get {cards : List Int} : ∀ {gs : List Gate} {i : Int}, gatesB cards i gs = true → ∀ (k : Nat) (h : k < gs.length), gateB cards (i + k) gs[k] = true
  | [], i, _, k, h => by simp at h
  | g :: r, i, hb, k, h => by
    simp only [gatesB, Bool.and_eq_true] at hb
    cases k with
    | zero => simpa using hb.1
    | succ k =>
      have := gatesB_get hb.2 k (by simpa using h)
      rw [show i + 1 + (k : Int) = i + ((k + 1 : Nat) : Int) by omega] at this
      simpa using this
theorem validB_get {c : Circ} (h : validB c = true) (k : Nat) (hk : k < c.gates.length) : gateB c.cards k c.gates[k] = true := by
  simp only [validB, Bool.and_eq_true] at h
  have := gatesB_get h.2.2.2 k hk
  rwa [Int.zero_add] at this
theorem validB_len {c : Circ} (h : validB c = true) : 1 ≤ c.gates.length ∧ c.gates.length ≤ 4000 := by
  simp only [validB, Bool.and_eq_true, decide_eq_true_eq] at h
  exact ⟨h.2.1, h.2.2.1⟩
theorem has51 : mC.has 51 fn51 := ⟨rfl, fun _ _ _ => rfl⟩
theorem es_step {vals : List Int} {es : List (List D)} {x : Int} (h : ∀ i (hi : i < vals.length), es[i]? = some [dI vals[i]]) (hl : vals.length < es.length) : ∀ i (hi : i < (vals ++ [x]).length), (es.take vals.length ++ [[dI x]] ++ es.drop (vals.length + 1))[i]? = some [dI (vals ++ [x])[i]] := by
  intro i hi
  simp only [List.length_append, List.length_cons, List.length_nil] at hi
  have hlt : (es.take vals.length).length = vals.length := by simp; omega
  by_cases hc : i < vals.length
  · rw [List.append_assoc, List.getElem?_append_left (by omega), List.getElem?_take, if_pos hc, h i hc, List.getElem_append_left hc]
  · have : i = vals.length := by omega
    subst this
    rw [List.append_assoc, List.getElem?_append_right (by omega), hlt]
    simp
/-- Memory while gates are evaluated. -/
def evL (c : Circ) (input vals : List Int) (es : List (List D)) : List LB := [.cells (circC false c), .cells (circC false c), .cells (runC c input (.sl 5 0 1 vals.length (some es.length) es.length)), .cells [dI 0], .cells rulesC, .els 1 es]
theorem evL_run {c : Circ} {input vals : List Int} {es : List (List D)} {x : LB} (h1 : ∀ i (h : i < vals.length), es[i]? = some [dI vals[i]]) (h2 : ∀ v ∈ vals, 0 ≤ v ∧ v < 4611686018427387904) (h3 : vals.length ≤ es.length) (h4 : ∀ e ∈ es, ∃ n, e = [dI n]) (hx : x.sc 7) : RunIn c input vals 5 es (evL c input vals es ++ [x]) := by
  refine ⟨rfl, rfl, h1, h2, h3, ?_⟩
  have hes : ∀ e ∈ es, D.scs 7 e := fun e he => by obtain ⟨n, rfl⟩ := h4 e he; exact ⟨trivial, trivial⟩
  simp only [evL, scAll, List.cons_append, List.nil_append, List.length_cons, List.length_nil, LB.sc, D.scs, D.sc, runC, rulesC, circC, ints, gatesD, and_true, true_and, Nat.reduceLT, Nat.reduceAdd]
  exact ⟨hes, hx⟩
theorem evL_sc {c : Circ} {input vals : List Int} {es : List (List D)} (h4 : ∀ e ∈ es, ∃ n, e = [dI n]) : scAll 6 (evL c input vals es) := by
  have hes : ∀ e ∈ es, D.scs 6 e := fun e he => by obtain ⟨n, rfl⟩ := h4 e he; exact ⟨trivial, trivial⟩
  simp only [evL, scAll, LB.sc, D.scs, D.sc, runC, rulesC, circC, ints, gatesD, and_true, true_and, Nat.reduceLT]
  exact hes
set_option maxHeartbeats 4000000 in
theorem evaluate_ok (c : Circ) (input : List Int) (hv : validB c = true) (ha : ∀ g ∈ c.gates, g.args.length < 1000000) (hi : input.length = c.cards.length) :
    CallL mC false 51 [.ptr 2 0] [.cells (circC false c), .cells (circC false c), .cells (runC c input (.lit (.slice none 0 0))), .cells [dI 0]]
      (fun d L' => ∃ vals es, evalGo input [] c.gates = some vals ∧ vals.length = c.gates.length ∧ (∀ v ∈ vals, 0 ≤ v ∧ v < 4611686018427387904) ∧ es.length = c.gates.length ∧ (∀ i (h : i < vals.length), es[i]? = some [dI vals[i]]) ∧ (∀ e ∈ es, ∃ n, e = [dI n]) ∧ L' = evL c input vals es)
      fun d L' => evalGo input [] c.gates = none ∧ (∃ t r, d = .ifc t r) ∧ L'[3]? = some (.cells [dI 0]) := by
  refine CallL.code has51 rfl (by simp [fn51]) ?_
  obtain ⟨hn1, hn2⟩ := validB_len hv
  have er : runC c input (.lit (.slice none 0 0)) = [ints false c.cards, gatesD false c.gates, ints false input, (.lit (.slice none 0 0))] := rfl
  have hm : (c.gates.length : Int) * 8 ≤ (maxBytes : Int) := by show _ ≤ (140737488355328 : Int); omega
  have hm' : ((c.gates.length : Int) * ((8 : Nat) : Int)) ≤ (maxBytes : Int) := hm
  simp only [wp, stepL_true, doI, quietI, isCallI, wantedD, LSt.put, LSt.putO, LSt.putE, qL, effL, evD, evDs, intD, lk, loadD_ptr, fldD, takeD, Lx.cellsO, cells_agg, cells_sl, cells_clo, fillD, putD, storeD, argsE, Nat.reduceEqDiff, Nat.reduceLT, Nat.reduceAdd, Nat.reduceLeDiff, Bool.not_false, and_self, if_true, if_false, List.getElem?_cons_zero, List.getElem?_cons_succ, List.length_cons, List.length_nil, List.cons_append, List.nil_append, Nat.zero_add, Nat.add_zero, List.drop_zero, List.drop_succ_cons, List.take_succ_cons, List.take_zero, List.map_cons, List.map_nil, List.set_cons_zero, List.set_cons_succ, reduceCtorEq, fn51, er, len_gates, Int.natCast_nonneg, hm', Int.toNat_natCast, Int.toNat_zero, Int.le_refl]
  refine EvL.loop (α := List Int × List (List D)) (fun a => ⟨58, [(0, .ptr 2 0), (2, .ptr 4 0), (29, gatesD false c.gates), (30, dI c.gates.length), (31, dI a.1.length)], evL c input a.1 a.2⟩)
    (fun a => a.1.length ≤ c.gates.length ∧ a.2.length = c.gates.length ∧ (∀ i (h : i < a.1.length), a.2[i]? = some [dI a.1[i]]) ∧ (∀ v ∈ a.1, 0 ≤ v ∧ v < 4611686018427387904) ∧ (∀ e ∈ a.2, ∃ n, e = [dI n]) ∧ evalGo input a.1 (c.gates.drop a.1.length) = evalGo input [] c.gates) (fun a => c.gates.length - a.1.length) ([], List.replicate c.gates.length [dI 0])
    (by simp only [evL, runC, rulesC, List.length_replicate, List.length_nil]; exact Weak.sub (by simp [envSub, lk])) ⟨by simp, by simp, by simp, by simp, fun e he => ⟨0, (List.mem_replicate.1 he).2⟩, by simp⟩ ?_
  rintro ⟨vals, es⟩ ⟨p1, p2, p3, p4, p5, p6⟩
  simp only at p1 p2 p3 p4 p5 p6
  refine wp_sound ?_
  have eev : evL c input vals es = [.cells (circC false c), .cells (circC false c), .cells [ints false c.cards, gatesD false c.gates, ints false input, .sl 5 0 1 vals.length (some es.length) es.length], .cells [dI 0], .cells rulesC, .els 1 es] := rfl
  by_cases hk : vals.length < c.gates.length
  · have hlt : decide ((vals.length : Int) < (c.gates.length : Int)) = true := by simp; omega
    have hw2 : IntKind.i64.wrap ((vals.length : Int) + 1) = ((vals.length + 1 : Nat) : Int) := by rw [wrap64 (by omega) (by omega)]; rfl
    have hgc : gateC false c.gates[vals.length] = [dI c.gates[vals.length].kind, dI c.gates[vals.length].var, dI c.gates[vals.length].val, dI c.gates[vals.length].n, ints false c.gates[vals.length].args] := rfl
    have hR := evL_run (c := c) (input := input) (x := .cells (gateC false c.gates[vals.length])) p3 p4 (by omega) p5 (by simp [LB.sc, D.scs, D.sc, gateC, ints])
    obtain ⟨⟨g1, g2⟩, ⟨g3, g4⟩, f, g5, g6⟩ := gate_ok hR c.gates[vals.length] (ha _ (List.getElem_mem hk)) hi (validB_get hv _ hk)
    have g4' : c.gates[vals.length].kind < ((5 : Nat) : Int) := g4
    rw [drop_cons hk, evalGo] at p6
    simp only [wp, stepL_true, doI, quietI, isCallI, wantedD, LSt.put, LSt.putO, LSt.putE, qL, effL, evD, intD, boolD, litD, litV, lk, pickC_true, loadD_ptr, loadD_fptr, fldD, takeD, slotD, Lx.cellsO, cells_agg, putD, storeD, binV, intBin, Option.map_some, cond_true, beq_self_eq_true, Nat.reduceEqDiff, Nat.reduceLT, Nat.reduceAdd, Nat.reduceLeDiff, Bool.not_true, Bool.not_false, and_self, if_true, if_false, List.getElem?_cons_zero, List.getElem?_cons_succ, List.length_cons, List.length_nil, List.cons_append, List.nil_append, Nat.zero_add, Nat.add_zero, List.drop_zero, List.drop_succ_cons, List.take_succ_cons, List.take_zero, List.map_cons, List.map_nil, List.set_cons_zero, List.set_cons_succ, reduceCtorEq, hlt, idx_gates _ _ hk, eev, hgc, g3, g4', g5, Nat.mul_one]
    refine EvL.callv (f := f) (first := [.ptr 2 0]) (cap := []) (ds := [.agg (gateC false c.gates[vals.length])]) rfl rfl rfl g6 ?_ (fun _ _ (h : False) => False.elim h)
    rintro r L' ⟨rfl, rfl⟩
    cases hx : (gateV input vals c.gates[vals.length] == 4611686018427387904)
    · have hx' : gateV input vals c.gates[vals.length] ≠ 4611686018427387904 := by simpa using hx
      rw [if_neg hx'] at p6
      have hq1 : vals.length + 1 ≤ es.length := by omega
      simp only [wp, stepL_true, doI, quietI, isCallI, wantedD, LSt.put, LSt.putO, LSt.putE, qL, effL, evD, boolD, litD, litV, lk, pickC_false, loadD_ptr, fldD, takeD, esOf, Lx.cellsO, cells_lit, cells_sl, oneV, fillE, putD, srcD_sl, storeD, appD, binV, intBin, Option.map_some, cond_true, beq_self_eq_true, Nat.reduceEqDiff, Nat.reduceLT, Nat.reduceAdd, Nat.reduceLeDiff, Bool.not_false, true_and, and_self, if_true, if_false, List.getElem?_cons_zero, List.getElem?_cons_succ, List.length_cons, List.length_nil, List.append_assoc, List.cons_append, List.nil_append, Nat.zero_add, List.drop_zero, List.drop_succ_cons, List.take_succ_cons, List.take_zero, List.map_cons, List.map_nil, List.set_cons_zero, List.set_cons_succ, List.replicate_succ, List.replicate_zero, reduceCtorEq, hx, eev, hq1, hw2]
      refine ⟨(vals ++ [gateV input vals c.gates[vals.length]], es.take vals.length ++ [[dI (gateV input vals c.gates[vals.length])]] ++ es.drop (vals.length + 1)), ⟨by simp; omega, by simp; omega, es_step p3 (by omega), ?_, ?_, by simpa using p6⟩, by simp; omega, ?_⟩
      · intro v hvm
        simp only [List.mem_append, List.mem_cons, List.not_mem_nil, or_false] at hvm
        rcases hvm with hvm | rfl
        · exact p4 v hvm
        · omega
      · intro e he
        simp only [List.append_assoc, List.mem_append, List.mem_cons, List.cons_append, List.nil_append] at he
        rcases he with he | rfl | he
        · exact p5 e (List.mem_of_mem_take he)
        · exact ⟨_, rfl⟩
        · exact p5 e (List.mem_of_mem_drop he)
      · have el : (es.take vals.length).length + ((es.drop (vals.length + 1)).length + 1) = es.length := by simp; omega
        refine Weak.cutD ?_ (by simp [evL]) ?_ (evL_sc ?_)
        · simp only [evL, runC, List.append_assoc, el, List.length_append, List.length_cons, List.length_nil, Nat.zero_add, List.drop_succ_cons, List.drop_zero, List.cons_append, List.nil_append]
        · simp [envOk, lk, D.sc, gatesD, evL]
        · intro e he
          simp only [List.append_assoc, List.mem_append, List.mem_cons, List.cons_append, List.nil_append] at he
          rcases he with he | rfl | he
          · exact p5 e (List.mem_of_mem_take he)
          · exact ⟨_, rfl⟩
          · exact p5 e (List.mem_of_mem_drop he)
    · have hx' : gateV input vals c.gates[vals.length] = 4611686018427387904 := by simpa using hx
      rw [if_pos hx'] at p6
      simp only [wp, stepL_true, doI, quietI, isCallI, wantedD, LSt.put, LSt.putO, qL, evD, boolD, litD, litV, lk, pickC_true, Lx.cellsO, cells_lit, oneV, fillD, putD, binV, intBin, Option.map_some, cond_true, beq_self_eq_true, Nat.reduceEqDiff, Nat.reduceLT, Nat.reduceLeDiff, Bool.not_false, and_self, if_true, if_false, List.length_cons, List.length_nil, List.cons_append, List.nil_append, Nat.zero_add, List.drop_zero, List.drop_succ_cons, List.take_zero, List.map_cons, List.map_nil, reduceCtorEq, hx, eev]
      exact EvL.panic rfl rfl ⟨p6.symm, ⟨_, _, rfl⟩, rfl⟩
  · have hlt : decide ((vals.length : Int) < (c.gates.length : Int)) = false := by simp; omega
    rw [List.drop_of_length_le (by omega), evalGo] at p6
    simp only [wp, stepL_true, doI, quietI, isCallI, wantedD, LSt.put, LSt.putO, qL, evD, boolD, litD, litV, lk, pickC_false, binV, intBin, Option.map_some, cond_true, beq_self_eq_true, Nat.reduceEqDiff, Nat.reduceLT, Bool.not_false, if_true, if_false, reduceCtorEq, hlt]
    exact ⟨_, rfl, vals, es, p6.symm, by omega, p4, p2, p3, p5, rfl⟩
end Go.Proofs.Ytbjfkbkmoeibdaa.C
namespace Go.Proofs.Ytbjfkbkmoeibdaa.C
open Go Go.Mx Go.Lx
set_option linter.unusedSimpArgs false
set_option linter.unusedVariables false
set_option maxRecDepth 100000
theorem has50 : mC.has 50 fn50 := ⟨rfl, fun _ _ _ => rfl⟩
theorem fns70 : mC.fns 70 = some fn70 := rfl
theorem dcall_eq (n B f : Nat) (args : List V) (pv : Option V) (h : Heap) : (mC.run (n + 1)).dcall B f args pv h = callD (mC.run n) mC.fns B f args pv h := rfl
theorem nb13 : Nat.ble 1 3 = true := rfl
theorem nb11 : Nat.ble 1 1 = true := rfl
theorem nb16 : Nat.ble 1 6 = true := rfl
theorem dcall_none (n B b : Nat) (h : Heap) : (mC.run (n + 1)).dcall B 70 [.ptr b 0] none h = some (none, h) := by
  rw [dcall_eq]
  unfold callD
  rw [fns70]
  simp [fn70, execD, exec, opsD, isRec, isRecI, wanted, St.put, quietI, q, ev, evB, resAll, undefV, List.replicate, nb13]
theorem dcall_some (n B b : Nat) (h : Heap) (t : TypeId) (u : V) (hB : B ≤ b) (hb : h[b]? = some (.blk [.lit (.int .i64 0)])) : (mC.run (n + 1)).dcall B 70 [.ptr b 0] (some (.ifc t u)) h = some (none, h.set b (.blk [.lit (.int .i64 6)])) := by
  rw [dcall_eq]
  unfold callD
  rw [fns70]
  have hbk : blkAt h b = some [.lit (.int .i64 0)] := by simp [blkAt, hb]
  simp [fn70, execD, opsD, runOps, stepO, isRec, isRecI, wanted, St.put, quietI, q, Mx.eff, ev, evB, resAll, undefV, List.replicate, V.cells, oneV, hbk, Nat.ble_eq_true_of_le hB, putAt, nb13, nb11]
theorem try_run {B : Nat} {h : Heap} {f : Nat} {us ws : List V} {Q : CR → Heap → Prop} (hB : B ≤ h.length)
    (hc : EvF mC B f (us ++ [] ++ ws) (h ++ [.blk [.lit (.int .i64 0)]]) fun cr H' => H'[h.length]? = some (.blk [.lit (.int .i64 0)]) ∧ match cr with
      | .ret v => Q (.ret (.lit (.int .i64 0))) (H'.set h.length (.blk [.lit (.int .i64 0)]))
      | .pan v => (∃ t u, v = .ifc t u) ∧ Q (.ret (.lit (.int .i64 6))) (H'.set h.length (.blk [.lit (.int .i64 6)]))) : EvF mC B 50 [.clo f us ws] h Q := by
  obtain ⟨N, cr, H', h1, h2, h3⟩ := hc
  have hbk : blkAt H' h.length = some [.lit (.int .i64 0)] := by simp [blkAt, h2]
  have hlt : h.length < H'.length := (List.getElem?_eq_some_iff.1 h2).1
  have hset : ∀ l, blkAt (H'.set h.length (.blk l)) h.length = some l := fun l => by simp [blkAt, hlt]
  rw [List.append_nil] at h1
  cases cr with
  | ret v =>
    refine ⟨N + 3, _, _, fun n hn => ?_, h3⟩
    obtain ⟨m, rfl⟩ : ∃ m, n = m + 2 := ⟨n - 2, by omega⟩
    rw [Mach.call_eq has50]
    unfold callF
    rw [has50.1]
    have hh := h1 (m + 1) (by omega)
    have hdc := dcall_none m B h.length (H'.set h.length (.blk [.lit (.int .i64 0)]))
    simp [fn50, body, exec, runOps, stepO, wanted, St.put, quietI, q, Mx.eff, ev, evs, undefV, List.replicate, V.cells, oneV, Nat.ble_eq_true_of_le hB, putAt, callV, finO, hh, hbk, fin, leave, hdc, resAll, resOne, hset, takeN, mkRes, nb11, nb16]
  | pan v =>
    obtain ⟨⟨t, u, rfl⟩, h3⟩ := h3
    refine ⟨N + 3, _, _, fun n hn => ?_, h3⟩
    obtain ⟨m, rfl⟩ : ∃ m, n = m + 2 := ⟨n - 2, by omega⟩
    rw [Mach.call_eq has50]
    unfold callF
    rw [has50.1]
    have hh := h1 (m + 1) (by omega)
    have hdc := dcall_some m B h.length H' t u hB h2
    simp [fn50, body, exec, runOps, stepO, wanted, St.put, quietI, q, Mx.eff, ev, evs, undefV, List.replicate, V.cells, oneV, Nat.ble_eq_true_of_le hB, putAt, callV, finO, hh, fin, leave, hdc, resAll, resOne, hset, takeN, mkRes, nb16]
theorem le_trans' {c c' c'' : Cx} (h : c.le c') (h' : c'.le c'') : c.le c'' where
  za b cs hb := h'.za b cs (h.za b cs hb)
  zf b cs hb := h'.zf b cs (h.zf b cs hb)
  ρ β x hx := by
    obtain ⟨x', h1, h2⟩ := h.ρ β x hx
    obtain ⟨x'', h3, h4⟩ := h'.ρ β x' h1
    exact ⟨x'', h3, h2.trans h4⟩
  apart := h'.apart
theorem one_rs {c : Cx} {v : Value} {vs : List V} (h : Rs c [.lit v] vs) : vs = [.lit v] := by
  obtain ⟨u, us, rfl, h1, h2⟩ := h.inv
  cases litR h1
  have := h2.1
  cases us with
  | nil => rfl
  | cons _ _ => simp at this
theorem lit_rs (c : Cx) (v : Value) : Rs c [.lit v] [.lit v] := (Rs.nil c).cons (.lit v)
theorem try_ok {L : List LB} {f : Nat} {first cap : List D} {Q1 Qp1 : D → List LB → Prop} (hc : CallL mC false f (first ++ [] ++ cap) (L ++ [.cells [dI 0]]) Q1 Qp1) (hq : ∀ d L', Q1 d L' → L'[L.length]? = some (.cells [dI 0]))
    (hp : ∀ d L', Qp1 d L' → (∃ t r, d = .ifc t r) ∧ L'[L.length]? = some (.cells [dI 0])) :
    CallL mC false 50 [.clo f first cap] L (fun d L' => (d = dI 0 ∧ ∃ r, Q1 r L') ∨ (d = dI 6 ∧ ∃ r L0, Qp1 r L0 ∧ L' = L0.set L.length (.cells [dI 6]))) fun _ _ => False := by
  intro c B H vs hH hB hr
  obtain ⟨v, vs', rfl, h1, h2⟩ := hr.inv
  have hvs : vs' = [] := List.eq_nil_of_length_eq_zero h2.1.symm
  subst hvs
  cases h1 with
  | clo q1 q2 q3 q4 =>
    rename_i us ws
    obtain ⟨g1, g2, g3⟩ := hH.new (x := .cell H.length) (lb := .cells [dI 0]) (o := [.blk [.lit (.int .i64 0)]]) (.inr ⟨_, rfl, rfl⟩) fun c' hle hρ => ⟨H.length, [.lit (.int .i64 0)], hρ, by simp, lit_rs _ _⟩
    show EvF mC B 50 [.clo f us ws] H _
    have hBl : B ≤ H.length := Nat.le_trans hB hH.base
    have hrs : Rs (c.put L.length (.cell H.length)) (first ++ [] ++ cap) (us ++ [] ++ ws) := (Rs.append (Rs.append ⟨q1, q3⟩ (Rs.nil _)) ⟨q2, q4⟩).mono g3
    refine try_run hBl (EvF.mono (hc _ B _ _ g1 hB hrs) ?_)
    rintro cr H' ⟨c', d, L', k1, k2, k3, k4⟩
    have key : ∀ (hL' : L'[L.length]? = some (.cells [dI 0])), c'.ρ L.length = some (.cell H.length) ∧ H'[H.length]? = some (.blk [.lit (.int .i64 0)]) := by
      intro hL'
      obtain ⟨b, vs', w1, w2, w3⟩ := k2.obj _ _ hL'
      obtain ⟨x', w4, w5⟩ := k3.ρ L.length _ (put_self c L.length (.cell H.length))
      cases w5
      rw [w4] at w1
      cases w1
      rw [one_rs w3] at w2
      exact ⟨w4, w2⟩
    have wr : ∀ (n : Int), c'.ρ L.length = some (.cell H.length) → RelH c' (L'.set L.length (.cells [dI n])) (H'.set H.length (.blk [.lit (.int .i64 n)])) ∧ Step c' H' c' (H'.set H.length (.blk [.lit (.int .i64 n)])) := fun n hρ =>
      k2.write hρ rfl fun H'' hb => ⟨H.length, _, hρ, hb, lit_rs _ _⟩
    cases cr with
    | ret v =>
      have hL' := hq d L' k4.2
      obtain ⟨w1, w2⟩ := key hL'
      obtain ⟨r1, r2⟩ := wr 0 w1
      rw [set_same hL'] at r1
      exact ⟨w2, c', dI 0, L', (g2.trans k1).trans r2, r1, le_trans' g3 k3, .lit _, .inl ⟨rfl, d, k4.2⟩⟩
    | pan v =>
      obtain ⟨⟨t, r, rfl⟩, hL'⟩ := hp d L' k4.2
      obtain ⟨w1, w2⟩ := key hL'
      obtain ⟨r1, r2⟩ := wr 6 w1
      have hv : ∃ t u, v = .ifc t u := by
        cases k4.1 with
        | ifc _ => exact ⟨_, _, rfl⟩
      exact ⟨w2, hv, c', dI 6, _, (g2.trans k1).trans r2, r1, le_trans' g3 k3, .lit _, .inr ⟨rfl, _, L', k4.2, rfl⟩⟩
end Go.Proofs.Ytbjfkbkmoeibdaa.C
namespace Go.Proofs.Ytbjfkbkmoeibdaa.C
open Go Go.Mx Go.Lx
set_option linter.unusedSimpArgs false
set_option linter.unusedVariables false
set_option maxRecDepth 100000
def inGo : List Int → List Int → Bool
  | card :: r, x :: s => !(decide (x < -1)) && !(decide (card ≤ x)) && inGo r s
  | _, _ => true
def inputB (cards input : List Int) : Bool := (((input.length : Int) == (cards.length : Int))) && inGo cards input
structure Circ.Small (c : Circ) : Prop where
  cards : c.cards.length < 1000000
  gates : c.gates.length < 1000000
  args : ∀ g ∈ c.gates, g.args.length < 1000000
abbrev nilP : D := .lit (.pointer none)
theorem has49 : mC.has 49 fn49 := ⟨rfl, fun _ _ _ => rfl⟩
theorem has20 : mC.has 20 fn20 := ⟨rfl, fun _ _ _ => rfl⟩
set_option maxHeartbeats 4000000 in
theorem newRun_ok (c : Circ) (hs : c.Small) (input : List Int) (hl : input.length < 1000000) : CallL mC false 49 [.agg (circC false c), ints false input] [.cells (circC false c)]
    (fun d L' => (validB c = false ∧ d = .tup [nilP, dI 150]) ∨ (validB c = true ∧ inputB c.cards input = false ∧ d = .tup [nilP, dI 2]) ∨
      (validB c = true ∧ inputB c.cards input = true ∧ d = .tup [.ptr 2 0, dI 0] ∧ L' = [.cells (circC false c), .cells (circC false c), .cells (runC c input (.lit (.slice none 0 0)))])) fun _ _ => False := by
  refine CallL.code has49 rfl (by simp [fn49]) ?_
  have hcirc : circC false c = [ints false c.cards, gatesD false c.gates] := rfl
  simp only [wp, stepL_true, doI, quietI, isCallI, wantedD, LSt.put, LSt.putO, LSt.putE, qL, effL, evD, lk, loadD_ptr, takeD, slotD, Lx.cellsO, cells_agg, argsE, Nat.reduceEqDiff, Nat.reduceLT, Nat.reduceAdd, Nat.reduceLeDiff, Bool.not_false, if_true, if_false, List.getElem?_cons_zero, List.getElem?_cons_succ, List.length_cons, List.length_nil, List.cons_append, List.nil_append, Nat.zero_add, List.drop_zero, List.take_succ_cons, List.take_zero, reduceCtorEq, fn49, hcirc]
  refine EvL.fn (Check_ok c hs.cards hs.gates hs.args) rfl rfl (.cons (snp_circ _ _ _) .nil) ?_
  cases hv : validB c
  · simp only [wp, stepL_true, doI, quietI, isCallI, wantedD, LSt.put, LSt.putO, qL, evD, boolD, litD, litV, lk, pickC_true, binV, intBin, Option.map_some, cond_true, beq_self_eq_true, Nat.reduceEqDiff, Nat.reduceLT, Bool.not_false, Bool.false_eq_true, true_and, if_true, if_false, reduceCtorEq, Int.reduceBNe]
    exact ⟨_, rfl, .inl rfl⟩
  cases h1 : ((input.length : Int) == (c.cards.length : Int))
  · have hib : inputB c.cards input = false := by unfold inputB; rw [h1]; rfl
    simp only [wp, stepL_true, doI, quietI, isCallI, wantedD, LSt.put, LSt.putO, qL, evD, boolD, litD, litV, lk, pickC_true, pickC_false, loadD_ptr, fldD, takeD, binV, intBin, Option.map_some, cond_true, beq_self_eq_true, Nat.reduceEqDiff, Nat.reduceLT, Bool.not_true, Bool.not_false, Bool.true_eq_false, true_and, if_true, if_false, List.getElem?_cons_zero, List.getElem?_cons_succ, Nat.add_zero, reduceCtorEq, len_ints, bneq, h1]
    exact ⟨_, rfl, .inr (.inl ⟨hib, rfl⟩)⟩
  have hib : inputB c.cards input = inGo c.cards input := by unfold inputB; rw [h1]; rfl
  have hlen : input.length = c.cards.length := by simpa [Int.ofNat_inj] using h1
  rw [hib]
  simp only [wp, stepL_true, doI, quietI, isCallI, wantedD, LSt.put, LSt.putO, qL, evD, boolD, litD, litV, lk, pickC_false, loadD_ptr, fldD, takeD, binV, intBin, Option.map_some, cond_true, beq_self_eq_true, Nat.reduceEqDiff, Nat.reduceLT, Bool.not_true, Bool.not_false, Bool.true_eq_false, true_and, if_true, if_false, List.getElem?_cons_zero, List.getElem?_cons_succ, Nat.add_zero, reduceCtorEq, len_ints, bneq, h1]
  refine EvL.loop (α := Nat) (fun a => ⟨43, [(1, ints false input), (2, .ptr 1 0), (20, ints false input), (21, dI input.length), (22, dI a)], [.cells [ints false c.cards, gatesD false c.gates], .cells [ints false c.cards, gatesD false c.gates]]⟩) (fun a => a ≤ input.length ∧ inGo (c.cards.drop a) (input.drop a) = inGo c.cards input) (fun a => input.length - a) 0 (Weak.sub (by simp [envSub, lk])) (by simp) ?_
  rintro k ⟨p1, p2⟩
  refine wp_sound ?_
  by_cases hk : k < input.length
  · have hlt : decide ((k : Int) < (input.length : Int)) = true := by simp; omega
    have hkc : k < c.cards.length := by omega
    have hw2 : IntKind.i64.wrap ((k : Int) + 1) = ((k + 1 : Nat) : Int) := by rw [wrap64 (by omega) (by omega)]; rfl
    rw [drop_cons hk, drop_cons hkc, inGo] at p2
    cases e1 : decide (input[k] < -1)
    · cases e2 : decide (c.cards[k] ≤ input[k])
      · rw [e1, e2] at p2
        simp only [wp, stepL_true, doI, quietI, isCallI, wantedD, wantD, LSt.put, LSt.putO, qL, evD, intD, boolD, litD, litV, lk, pickC_true, pickC_false, loadD_ptr, loadD_fptr, fldD, takeD, binV, intBin, Option.map_some, cond_true, cond_false, beq_self_eq_true, Nat.reduceEqDiff, Nat.reduceLT, Bool.not_false, if_true, if_false, List.getElem?_cons_zero, List.getElem?_cons_succ, Nat.add_zero, hlt, idx_ints _ _ hk, idx_ints _ _ hkc, e1, e2, hw2]
        exact ⟨k + 1, ⟨by omega, by simpa using p2⟩, by omega, Weak.sub (by simp [envSub, lk])⟩
      · rw [e1, e2] at p2
        simp only [wp, stepL_true, doI, quietI, isCallI, wantedD, wantD, LSt.put, LSt.putO, qL, evD, intD, boolD, litD, litV, lk, pickC_true, loadD_ptr, loadD_fptr, fldD, takeD, binV, intBin, Option.map_some, cond_true, cond_false, beq_self_eq_true, Nat.reduceEqDiff, Nat.reduceLT, Bool.not_false, if_true, if_false, List.getElem?_cons_zero, List.getElem?_cons_succ, Nat.add_zero, hlt, idx_ints _ _ hk, idx_ints _ _ hkc, e1, e2]
        exact ⟨_, rfl, .inr (.inl ⟨by rw [← p2]; rfl, rfl⟩)⟩
    · rw [e1] at p2
      simp only [wp, stepL_true, stepL_false, doI, quietI, isCallI, wantedD, wantD, undefD, LSt.put, LSt.putO, qL, evD, intD, boolD, litD, litV, lk, pickC_true, loadD_fptr, takeD, binV, intBin, Option.map_some, cond_true, cond_false, beq_self_eq_true, Nat.reduceEqDiff, Nat.reduceLT, Bool.not_true, Bool.not_false, if_true, if_false, List.getElem?_cons_zero, hlt, idx_ints _ _ hk, e1]
      exact ⟨_, rfl, .inr (.inl ⟨by rw [← p2]; rfl, rfl⟩)⟩
  · have hlt : decide ((k : Int) < (input.length : Int)) = false := by simp; omega
    rw [List.drop_of_length_le (by omega), List.drop_of_length_le (by omega), inGo] at p2
    simp only [wp, stepL_true, doI, quietI, isCallI, wantedD, LSt.put, LSt.putO, LSt.putE, qL, effL, evD, boolD, litD, litV, lk, pickC_false, loadD_ptr, takeD, slotD, Lx.cellsO, cells_agg, fillD, putD, binV, intBin, Option.map_some, cond_true, beq_self_eq_true, Nat.reduceEqDiff, Nat.reduceLT, Nat.reduceAdd, Nat.reduceLeDiff, Bool.not_false, and_self, if_true, if_false, List.getElem?_cons_zero, List.getElem?_cons_succ, List.length_cons, List.length_nil, List.cons_append, List.nil_append, Nat.zero_add, List.drop_zero, List.drop_succ_cons, List.take_succ_cons, List.take_zero, List.map_cons, List.map_nil, hlt, cells_ints]
    · exact ⟨_, rfl, .inr (.inr ⟨p2.symm, rfl, rfl⟩)⟩
    · intro a b r s h1 h2; cases h1
def evalR (c : Circ) (input : List Int) : Int × Int :=
  if validB c = false then (0, 150) else if inputB c.cards input = false then (0, 2) else match evalGo input [] c.gates with
    | none => (0, 6)
    | some vals => (valAt vals ((vals.length - 1 : Nat) : Int), 0)
theorem inputB_len {cards input : List Int} (h : inputB cards input = true) : input.length = cards.length := by
  simp only [inputB, Bool.and_eq_true, beq_iff_eq] at h
  omega
set_option maxHeartbeats 4000000 in
theorem Eval_ok (c : Circ) (hs : c.Small) (input : List Int) (hl : input.length < 1000000) : Lx.Fn mC 20 [.agg (circC false c), ints false input] (.tup [dI (evalR c input).1, dI (evalR c input).2]) := by
  refine Lx.Fn.intro has20 (by simp [fn20]) (fun _ => rfl) ?_
  have hcirc : circC false c = [ints false c.cards, gatesD false c.gates] := rfl
  simp only [wp, stepL_true, doI, quietI, isCallI, wantedD, LSt.put, LSt.putO, LSt.putE, qL, effL, evD, lk, loadD_ptr, takeD, slotD, Lx.cellsO, cells_agg, argsE, Nat.reduceEqDiff, Nat.reduceLT, Nat.reduceAdd, Nat.reduceLeDiff, Bool.not_false, if_true, if_false, List.getElem?_cons_zero, List.length_cons, List.length_nil, List.nil_append, Nat.zero_add, List.drop_zero, List.take_succ_cons, List.take_zero, reduceCtorEq, fn20, hcirc]
  refine EvL.call rfl rfl (newRun_ok c hs input hl) ?_ (fun _ _ (h : False) => False.elim h)
  rintro r L' (⟨h1, rfl⟩ | ⟨h1, h2, rfl⟩ | ⟨h1, h2, rfl, rfl⟩)
  · unfold evalR
    rw [if_pos h1]
    simp only [wp, stepL_true, doI, quietI, isCallI, wantedD, LSt.put, LSt.putO, qL, evD, boolD, litD, litV, lk, pickC_true, binV, intBin, Option.map_some, cond_true, beq_self_eq_true, Nat.reduceEqDiff, Nat.reduceLT, Bool.not_false, if_true, if_false, List.getElem?_cons_zero, List.getElem?_cons_succ, reduceCtorEq, Int.reduceBNe]
    exact RetQ.pl rfl rfl
  · unfold evalR
    rw [if_neg (by rw [h1]; simp), if_pos h2]
    simp only [wp, stepL_true, doI, quietI, isCallI, wantedD, LSt.put, LSt.putO, qL, evD, boolD, litD, litV, lk, pickC_true, binV, intBin, Option.map_some, cond_true, beq_self_eq_true, Nat.reduceEqDiff, Nat.reduceLT, Bool.not_false, if_true, if_false, List.getElem?_cons_zero, List.getElem?_cons_succ, reduceCtorEq, Int.reduceBNe]
    exact RetQ.pl rfl rfl
  · unfold evalR
    rw [if_neg (by rw [h1]; simp), if_neg (by rw [h2]; simp)]
    simp only [wp, stepL_true, doI, quietI, isCallI, wantedD, LSt.put, LSt.putO, qL, evD, evDs, boolD, litD, litV, lk, pickC_false, binV, intBin, Option.map_some, cond_true, beq_self_eq_true, Nat.reduceEqDiff, Nat.reduceLT, Bool.not_false, if_true, if_false, List.getElem?_cons_zero, List.getElem?_cons_succ, reduceCtorEq, Int.reduceBNe]
    have hev := evaluate_ok c input h1 hs.args (inputB_len h2)
    refine EvL.call rfl rfl (try_ok (L := [.cells (circC false c), .cells (circC false c), .cells (runC c input (.lit (.slice none 0 0)))]) (first := [.ptr 2 0]) (cap := []) hev ?_ ?_) ?_ (fun _ _ (h : False) => False.elim h)
    · rintro d L' ⟨vals, es, _, _, _, _, _, _, rfl⟩; rfl
    · rintro d L' ⟨_, q1, q2⟩; exact ⟨q1, q2⟩
    · rintro r L' (⟨rfl, d, vals, es, q1, q2, q3, q4, q5, q6, rfl⟩ | ⟨rfl, d, L0, ⟨q1, _, _⟩, rfl⟩)
      · rw [q1]
        have hn := (validB_len h1).1
        have eev : evL c input vals es = [.cells (circC false c), .cells (circC false c), .cells [ints false c.cards, gatesD false c.gates, ints false input, .sl 5 0 1 vals.length (some es.length) es.length], .cells [dI 0], .cells rulesC, .els 1 es] := rfl
        have hw : IntKind.i64.wrap ((vals.length : Int) - 1) = ((vals.length - 1 : Nat) : Int) := by
          have := hs.gates
          rw [wrap64 (by omega) (by omega)]; omega
        have hlt : ((vals.length - 1 : Nat) : Int) < (vals.length : Int) := by omega
        have hlt' : vals.length - 1 < vals.length := by omega
        have hva : valAt vals ((vals.length - 1 : Nat) : Int) = vals[vals.length - 1] := by
          obtain ⟨hh, e⟩ := valAt_get (vals := vals) (a := ((vals.length - 1 : Nat) : Int)) (by omega) hlt
          rw [e]; simp
        simp only []
        rw [hva]
        simp only [wp, stepL_true, doI, quietI, isCallI, wantedD, LSt.put, LSt.putO, qL, evD, intD, boolD, litD, litV, lk, pickC_false, lenD_sl, idxD_sl, loadD_ptr, loadD_eptr, fldD, takeD, esOf, binV, intBin, Option.map_some, cond_true, beq_self_eq_true, Nat.reduceEqDiff, Nat.reduceLT, Bool.not_true, Bool.not_false, and_self, if_true, if_false, List.getElem?_cons_zero, List.getElem?_cons_succ, Nat.zero_add, reduceCtorEq, Int.reduceBNe, eev, hw, hlt, Int.natCast_nonneg, Int.toNat_natCast, q5 _ hlt']
        exact RetQ.pl rfl rfl
      · rw [q1]
        simp only [wp, stepL_true, doI, quietI, isCallI, wantedD, LSt.put, LSt.putO, qL, evD, boolD, litD, litV, lk, pickC_true, binV, intBin, Option.map_some, cond_true, beq_self_eq_true, Nat.reduceEqDiff, Nat.reduceLT, Nat.reduceAdd, Bool.not_false, if_true, if_false, List.length_cons, List.length_nil, Nat.zero_add, reduceCtorEq, Int.reduceBNe]
        exact RetQ.pl rfl rfl
end Go.Proofs.Ytbjfkbkmoeibdaa.C
