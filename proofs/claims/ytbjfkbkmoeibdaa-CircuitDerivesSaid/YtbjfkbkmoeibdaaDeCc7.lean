/-
  Contracts: the value of one gate, in a run. Conditions: none.
-/
import Derived.Test.YtbjfkbkmoeibdaaDeCc6
namespace Go.Proofs.Ytbjfkbkmoeibdaa.C
open Go Go.Mx Go.Lx
set_option linter.unusedSimpArgs false
set_option linter.unusedVariables false
set_option maxRecDepth 100000
def runC (c : Circ) (input : List Int) (vs : D) : List D := [ints false c.cards, gatesD false c.gates, ints false input, vs]
def valAt (vals : List Int) (a : Int) : Int := vals.getD a.toNat 0
/-- A run in memory: the values found so far. -/
structure RunIn (c : Circ) (input vals : List Int) (β : Nat) (es : List (List D)) (L : List LB) : Prop where
  run : L[2]? = some (.cells (runC c input (.sl β 0 1 vals.length (some es.length) es.length)))
  els : L[β]? = some (.els 1 es)
  at_ : ∀ i (h : i < vals.length), es[i]? = some [dI vals[i]]
  bnd : ∀ v ∈ vals, 0 ≤ v ∧ v < 4611686018427387904
  room : vals.length ≤ es.length
  sc : scAll L.length L
theorem get_l {α : Type} {L : List α} {i : Nat} {x : α} (h : L[i]? = some x) (R' : List α) : (L ++ R')[i]? = some x := by
  rw [List.getElem?_append_left (List.getElem?_eq_some_iff.1 h).1]; exact h
theorem get_e {α : Type} (L : List α) (x : α) : (L ++ [x])[L.length]? = some x := by simp
theorem valAt_get {vals : List Int} {a : Int} (h0 : 0 ≤ a) (h : a < vals.length) : ∃ hh : a.toNat < vals.length, valAt vals a = vals[a.toNat] := ⟨by omega, by simp [valAt, show a.toNat < vals.length by omega]⟩
theorem RunIn.val {c : Circ} {input vals : List Int} {β : Nat} {es : List (List D)} {L : List LB} (h : RunIn c input vals β es L) {a : Int} (h0 : 0 ≤ a) (ha : a < vals.length) : es[a.toNat]? = some [dI (valAt vals a)] ∧ 0 ≤ valAt vals a ∧ valAt vals a < 4611686018427387904 := by
  obtain ⟨hh, e⟩ := valAt_get h0 ha
  rw [e]
  exact ⟨h.at_ _ hh, h.bnd _ (List.getElem_mem hh)⟩
theorem mulT_bnd {a b : Int} (ha : 0 ≤ a) (hb : 0 ≤ b) : 0 ≤ mulT a b ∧ mulT a b ≤ 4611686018427387904 := by
  unfold mulT
  have := Int.mul_nonneg ha hb
  split <;> omega
theorem addT_bnd {a b : Int} (ha : 0 ≤ a) (hb : 0 ≤ b) (ha' : a ≤ 4611686018427387904) : 0 ≤ addT a b ∧ addT a b ≤ 4611686018427387904 := by
  unfold addT
  split <;> omega
theorem has71 : mC.has 71 fn71 := ⟨rfl, fun _ _ _ => rfl⟩
theorem has72 : mC.has 72 fn72 := ⟨rfl, fun _ _ _ => rfl⟩
theorem has73 : mC.has 73 fn73 := ⟨rfl, fun _ _ _ => rfl⟩
theorem has74 : mC.has 74 fn74 := ⟨rfl, fun _ _ _ => rfl⟩
theorem Q_ret {rs : List RX} {S' : LSt} {Q1 : D → List LB → Prop} {d : D} {L : List LB} (h : (resDs S'.heap S'.env rs).map mkResD = some d) (hL : S'.heap = L) (hq : Q1 d L) : ∃ ds, resDs S'.heap S'.env rs = some ds ∧ Q1 (mkResD ds) S'.heap := by
  cases hr : resDs S'.heap S'.env rs with
  | none => rw [hr] at h; cases h
  | some ds =>
    rw [hr] at h
    simp only [Option.map_some, Option.some.injEq] at h
    exact ⟨ds, rfl, by rw [h, hL]; exact hq⟩
theorem keep_cut {f : Nat} {args : List D} {L : List LB} {x : LB} {r : D} (hs : scAll L.length L) (hr : r.pl = true) (h : CallL mC false f args L (fun d L' => d = r ∧ L' = L ++ [x]) fun _ _ => False) : CallL mC false f args L (fun d L' => d = r ∧ L' = L) fun _ _ => False := by
  refine CallL.cut h ?_ (fun _ _ h => h)
  rintro d L' ⟨rfl, rfl⟩
  refine ⟨L, [x], rfl, Nat.le_refl _, ?_, hs, rfl, rfl⟩
  have aux : ∀ ds : List D, D.pls ds = true → D.scs L.length ds := by
    intro ds
    induction ds with
    | nil => intro _; trivial
    | cons d r ih =>
      intro hp
      cases d <;> first | (cases hp; done) | skip
      exact ⟨trivial, ih (by simpa [D.pls] using hp)⟩
  cases d <;> first | (cases hr; done) | skip
  · trivial
  · exact aux _ (by simpa [D.pl] using hr)
  · exact aux _ (by simpa [D.pl] using hr)
theorem number_ok {L : List LB} (hs : scAll L.length L) (g : Gate) (p : D) : CallL mC false 71 [p, .agg (gateC false g)] L (fun d L' => d = dI g.n ∧ L' = L) fun _ _ => False := by
  refine keep_cut (x := .cells (gateC false g)) hs rfl (CallL.code has71 rfl (by simp [fn71]) ?_)
  have e1 : (L ++ [LB.cells (gateC false g)])[L.length]? = some (LB.cells [dI g.kind, dI g.var, dI g.val, dI g.n, ints false g.args]) := get_e _ _
  simp only [wp, stepL_true, doI, quietI, isCallI, wantedD, LSt.put, LSt.putO, LSt.putE, qL, effL, evD, lk, loadD_ptr, fldD, takeD, Lx.cellsO, cells_agg, argsE, Nat.reduceEqDiff, Nat.reduceLT, Bool.not_false, and_true, if_true, if_false, List.getElem?_cons_zero, List.getElem?_cons_succ, Nat.zero_add, reduceCtorEq, fn71, e1]
  exact ⟨_, rfl, rfl⟩
/-- The value of an indicator. -/
def isV (input : List Int) (g : Gate) : Int := if 0 ≤ valAt input g.var ∧ valAt input g.var ≠ g.val then 0 else 1
theorem is_ok {c : Circ} {input vals : List Int} {β : Nat} {es : List (List D)} {L : List LB} (h : RunIn c input vals β es L) (g : Gate) (h0 : 0 ≤ g.var) (hv : g.var < input.length) : CallL mC false 72 [.ptr 2 0, .agg (gateC false g)] L (fun d L' => d = dI (isV input g) ∧ L' = L) fun _ _ => False := by
  refine keep_cut (x := .cells (gateC false g)) h.sc rfl (CallL.code has72 rfl (by simp [fn72]) ?_)
  have e1 : (L ++ [LB.cells (gateC false g)])[L.length]? = some (LB.cells [dI g.kind, dI g.var, dI g.val, dI g.n, ints false g.args]) := get_e _ _
  have e2 := get_l h.run [LB.cells (gateC false g)]
  have e3 : runC c input (.sl β 0 1 vals.length (some es.length) es.length) = [ints false c.cards, gatesD false c.gates, ints false input, (.sl β 0 1 vals.length (some es.length) es.length)] := rfl
  have e5 : ∀ L, idxD L 1 g.var (ints false input) = some (.fptr false [dI (valAt input g.var)]) := fun L => by
    obtain ⟨hh, e⟩ := valAt_get h0 hv
    rw [e]
    exact idx_intsZ _ _ h0 hh
  unfold isV
  cases h1 : decide (0 ≤ valAt input g.var)
  · rw [if_neg (fun hc => of_decide_eq_false h1 hc.1)]
    simp only [wp, stepL_true, stepL_false, doI, quietI, isCallI, wantedD, wantD, undefD, LSt.put, LSt.putO, LSt.putE, qL, effL, evD, intD, boolD, litD, litV, lk, pickC_false, loadD_ptr, loadD_fptr, fldD, takeD, Lx.cellsO, cells_agg, binV, intBin, argsE, Option.map_some, cond_true, beq_self_eq_true, Nat.reduceEqDiff, Nat.reduceLT, Bool.not_true, Bool.not_false, and_true, if_true, if_false, List.getElem?_cons_zero, List.getElem?_cons_succ, Nat.zero_add, reduceCtorEq, fn72, e1, e2, e3, e5, h1]
    exact ⟨_, rfl, rfl⟩
  · cases h2 : (valAt input g.var == g.val)
    · rw [if_pos ⟨of_decide_eq_true h1, by simpa using h2⟩]
      simp only [wp, stepL_true, doI, quietI, isCallI, wantedD, wantD, LSt.put, LSt.putO, LSt.putE, qL, effL, evD, intD, boolD, litD, litV, lk, pickC_true, loadD_ptr, loadD_fptr, fldD, takeD, Lx.cellsO, cells_agg, binV, intBin, argsE, Option.map_some, cond_true, beq_self_eq_true, Nat.reduceEqDiff, Nat.reduceLT, Bool.not_true, Bool.not_false, and_true, if_true, if_false, List.getElem?_cons_zero, List.getElem?_cons_succ, Nat.zero_add, reduceCtorEq, fn72, e1, e2, e3, e5, h1, bneq, h2]
      exact ⟨_, rfl, rfl⟩
    · rw [if_neg (fun hc => hc.2 (by simpa using h2))]
      simp only [wp, stepL_true, doI, quietI, isCallI, wantedD, wantD, LSt.put, LSt.putO, LSt.putE, qL, effL, evD, intD, boolD, litD, litV, lk, pickC_false, loadD_ptr, loadD_fptr, fldD, takeD, Lx.cellsO, cells_agg, binV, intBin, argsE, Option.map_some, cond_true, beq_self_eq_true, Nat.reduceEqDiff, Nat.reduceLT, Bool.not_true, Bool.not_false, and_true, if_true, if_false, List.getElem?_cons_zero, List.getElem?_cons_succ, Nat.zero_add, reduceCtorEq, fn72, e1, e2, e3, e5, h1, bneq, h2]
      exact ⟨_, rfl, rfl⟩
theorem sumG_ok {c : Circ} {input vals : List Int} {β : Nat} {es : List (List D)} {L : List LB} (h : RunIn c input vals β es L) (g : Gate) (hl : g.args.length < 1000000) (ha : ∀ a ∈ g.args, 0 ≤ a ∧ a < vals.length) :
    CallL mC false 73 [.ptr 2 0, .agg (gateC false g)] L (fun d L' => d = dI ((g.args.map (valAt vals)).foldl addT 0) ∧ L' = L) fun _ _ => False := by
  refine keep_cut (x := .cells (gateC false g)) h.sc rfl (CallL.code has73 rfl (by simp [fn73]) ?_)
  have e1 : (L ++ [LB.cells (gateC false g)])[L.length]? = some (LB.cells [dI g.kind, dI g.var, dI g.val, dI g.n, ints false g.args]) := get_e _ _
  have e2 := get_l h.run [LB.cells (gateC false g)]
  have e3 : runC c input (.sl β 0 1 vals.length (some es.length) es.length) = [ints false c.cards, gatesD false c.gates, ints false input, (.sl β 0 1 vals.length (some es.length) es.length)] := rfl
  have e4 := get_l h.els [LB.cells (gateC false g)]
  simp only [wp, stepL_true, doI, quietI, isCallI, wantedD, LSt.put, LSt.putO, LSt.putE, qL, effL, evD, lk, loadD_ptr, fldD, takeD, Lx.cellsO, cells_agg, argsE, Nat.reduceEqDiff, Nat.reduceLT, Bool.not_false, if_true, if_false, List.getElem?_cons_zero, List.getElem?_cons_succ, Nat.zero_add, reduceCtorEq, fn73, e1, len_ints]
  refine EvL.loop (α := Nat × Int) (fun a => ⟨26, [(0, .ptr 2 0), (5, dI a.2), (9, ints false g.args), (10, dI g.args.length), (11, dI a.1)], L ++ [.cells (gateC false g)]⟩) (fun a => a.1 ≤ g.args.length ∧ 0 ≤ a.2 ∧ a.2 ≤ 4611686018427387904 ∧ ((g.args.drop a.1).map (valAt vals)).foldl addT a.2 = (g.args.map (valAt vals)).foldl addT 0) (fun a => g.args.length - a.1) (0, 0) (Weak.sub (by simp [envSub, lk])) (by simp) ?_
  rintro ⟨k, s⟩ ⟨p1, p2, p3, p4⟩
  simp only at p1 p2 p3 p4
  refine wp_sound ?_
  by_cases hk : k < g.args.length
  · have hlt : decide ((k : Int) < (g.args.length : Int)) = true := by simp; omega
    have hw2 : IntKind.i64.wrap ((k : Int) + 1) = ((k + 1 : Nat) : Int) := by rw [wrap64 (by omega) (by omega)]; rfl
    obtain ⟨q1, q2⟩ := ha g.args[k] (List.getElem_mem hk)
    obtain ⟨q3, q4, q5⟩ := h.val q1 q2
    rw [drop_cons hk, List.map_cons, List.foldl_cons] at p4
    simp only [wp, stepL_true, doI, quietI, isCallI, wantedD, LSt.put, LSt.putO, qL, evD, intD, boolD, litD, litV, lk, pickC_true, idxD_sl, loadD_ptr, loadD_eptr, loadD_fptr, fldD, takeD, esOf, binV, intBin, Option.map_some, cond_true, beq_self_eq_true, Nat.reduceEqDiff, Nat.reduceLT, Bool.not_false, and_self, if_true, if_false, List.getElem?_cons_zero, List.getElem?_cons_succ, Nat.zero_add, reduceCtorEq, hlt, idx_ints _ _ hk, e2, e3, e4, q1, q2, q3]
    refine EvL.fn (plus_ok s (valAt vals g.args[k]) p2 p3 q4 (by omega)) rfl rfl (.cons (.lit _) (.cons (.lit _) .nil)) ?_
    simp only [wp, stepL_true, doI, quietI, isCallI, wantedD, LSt.put, LSt.putO, qL, evD, litD, litV, lk, binV, intBin, Option.map_some, cond_true, beq_self_eq_true, Nat.reduceEqDiff, Nat.reduceLT, Bool.not_false, if_true, if_false, reduceCtorEq, hw2]
    exact ⟨(k + 1, addT s (valAt vals g.args[k])), ⟨by simp; omega, (addT_bnd p2 q4 p3).1, (addT_bnd p2 q4 p3).2, p4⟩, by simp; omega, Weak.sub (by simp [envSub, lk])⟩
  · have hlt : decide ((k : Int) < (g.args.length : Int)) = false := by simp; omega
    rw [List.drop_of_length_le (by omega)] at p4
    simp only [wp, stepL_true, doI, quietI, isCallI, wantedD, LSt.put, LSt.putO, qL, evD, boolD, litD, litV, lk, pickC_false, binV, intBin, Option.map_some, cond_true, beq_self_eq_true, Nat.reduceEqDiff, Nat.reduceLT, Bool.not_false, and_true, if_true, if_false, reduceCtorEq, hlt]
    exact ⟨_, rfl, by rw [← p4]; rfl⟩
theorem productG_ok {c : Circ} {input vals : List Int} {β : Nat} {es : List (List D)} {L : List LB} (h : RunIn c input vals β es L) (g : Gate) (hl : g.args.length < 1000000) (ha : ∀ a ∈ g.args, 0 ≤ a ∧ a < vals.length) :
    CallL mC false 74 [.ptr 2 0, .agg (gateC false g)] L (fun d L' => d = dI ((g.args.map (valAt vals)).foldl mulT 1) ∧ L' = L) fun _ _ => False := by
  refine keep_cut (x := .cells (gateC false g)) h.sc rfl (CallL.code has74 rfl (by simp [fn74]) ?_)
  have e1 : (L ++ [LB.cells (gateC false g)])[L.length]? = some (LB.cells [dI g.kind, dI g.var, dI g.val, dI g.n, ints false g.args]) := get_e _ _
  have e2 := get_l h.run [LB.cells (gateC false g)]
  have e3 : runC c input (.sl β 0 1 vals.length (some es.length) es.length) = [ints false c.cards, gatesD false c.gates, ints false input, (.sl β 0 1 vals.length (some es.length) es.length)] := rfl
  have e4 := get_l h.els [LB.cells (gateC false g)]
  simp only [wp, stepL_true, doI, quietI, isCallI, wantedD, LSt.put, LSt.putO, LSt.putE, qL, effL, evD, lk, loadD_ptr, fldD, takeD, Lx.cellsO, cells_agg, argsE, Nat.reduceEqDiff, Nat.reduceLT, Bool.not_false, if_true, if_false, List.getElem?_cons_zero, List.getElem?_cons_succ, Nat.zero_add, reduceCtorEq, fn74, e1, len_ints]
  refine EvL.loop (α := Nat × Int) (fun a => ⟨26, [(0, .ptr 2 0), (5, dI a.2), (9, ints false g.args), (10, dI g.args.length), (11, dI a.1)], L ++ [.cells (gateC false g)]⟩) (fun a => a.1 ≤ g.args.length ∧ 0 ≤ a.2 ∧ a.2 ≤ 4611686018427387904 ∧ ((g.args.drop a.1).map (valAt vals)).foldl mulT a.2 = (g.args.map (valAt vals)).foldl mulT 1) (fun a => g.args.length - a.1) (0, 1) (Weak.sub (by simp [envSub, lk])) (by simp) ?_
  rintro ⟨k, s⟩ ⟨p1, p2, p3, p4⟩
  simp only at p1 p2 p3 p4
  refine wp_sound ?_
  by_cases hk : k < g.args.length
  · have hlt : decide ((k : Int) < (g.args.length : Int)) = true := by simp; omega
    have hw2 : IntKind.i64.wrap ((k : Int) + 1) = ((k + 1 : Nat) : Int) := by rw [wrap64 (by omega) (by omega)]; rfl
    obtain ⟨q1, q2⟩ := ha g.args[k] (List.getElem_mem hk)
    obtain ⟨q3, q4, q5⟩ := h.val q1 q2
    rw [drop_cons hk, List.map_cons, List.foldl_cons] at p4
    simp only [wp, stepL_true, doI, quietI, isCallI, wantedD, LSt.put, LSt.putO, qL, evD, intD, boolD, litD, litV, lk, pickC_true, idxD_sl, loadD_ptr, loadD_eptr, loadD_fptr, fldD, takeD, esOf, binV, intBin, Option.map_some, cond_true, beq_self_eq_true, Nat.reduceEqDiff, Nat.reduceLT, Bool.not_false, and_self, if_true, if_false, List.getElem?_cons_zero, List.getElem?_cons_succ, Nat.zero_add, reduceCtorEq, hlt, idx_ints _ _ hk, e2, e3, e4, q1, q2, q3]
    refine EvL.fn (times_ok s (valAt vals g.args[k]) p2 p3 q4 (by omega)) rfl rfl (.cons (.lit _) (.cons (.lit _) .nil)) ?_
    simp only [wp, stepL_true, doI, quietI, isCallI, wantedD, LSt.put, LSt.putO, qL, evD, litD, litV, lk, binV, intBin, Option.map_some, cond_true, beq_self_eq_true, Nat.reduceEqDiff, Nat.reduceLT, Bool.not_false, if_true, if_false, reduceCtorEq, hw2]
    exact ⟨(k + 1, mulT s (valAt vals g.args[k])), ⟨by simp; omega, (mulT_bnd p2 q4).1, (mulT_bnd p2 q4).2, p4⟩, by simp; omega, Weak.sub (by simp [envSub, lk])⟩
  · have hlt : decide ((k : Int) < (g.args.length : Int)) = false := by simp; omega
    rw [List.drop_of_length_le (by omega)] at p4
    simp only [wp, stepL_true, doI, quietI, isCallI, wantedD, LSt.put, LSt.putO, qL, evD, boolD, litD, litV, lk, pickC_false, binV, intBin, Option.map_some, cond_true, beq_self_eq_true, Nat.reduceEqDiff, Nat.reduceLT, Bool.not_false, and_true, if_true, if_false, reduceCtorEq, hlt]
    exact ⟨_, rfl, by rw [← p4]; rfl⟩
end Go.Proofs.Ytbjfkbkmoeibdaa.C
