/-
  Contracts: a circuit is bent. Conditions: none.
-/
import Derived.Test.YtbjfkbkmoeibdaaDeCcE
import Derived.Test.YtbjfkbkmoeibdaaDeLx13
namespace Go.Proofs.Ytbjfkbkmoeibdaa.C
open Go Go.Mx Go.Lx
set_option linter.unusedSimpArgs false
set_option linter.unusedVariables false
set_option maxRecDepth 100000
theorem has39 : mC.has 39 fn39 := ⟨rfl, fun _ _ _ => rfl⟩
def fewG (g : Gate) : Gate := { g with args := g.args.take 10 }
def fewC (c : Circ) : Circ := ⟨c.cards.take 10, (c.gates.take 40).map fewG⟩
theorem slc_fz (L : List LB) (t : Bool) (n : Nat) {els : List (List D)} {k : Nat} (h : k ≤ els.length) : slcD L n none (some (k : Int)) none (.fz t n els) = some (.fz t n (els.take k)) := by
  simp [slcD, slcF, bounds, topOf, h]
theorem slc_ints (L : List LB) (t : Bool) {xs : List Int} {k : Nat} (h : k ≤ xs.length) : slcD L 1 none (some (k : Int)) none (ints t xs) = some (ints t (xs.take k)) := by
  unfold ints
  rw [slc_fz L t 1 (by simpa using h), List.map_take]
theorem slc_gates (L : List LB) (t : Bool) {xs : List Gate} {k : Nat} (h : k ≤ xs.length) : slcD L 5 none (some (k : Int)) none (gatesD t xs) = some (gatesD t (xs.take k)) := by
  unfold gatesD
  rw [slc_fz L t 5 (by simpa using h), List.map_take]
theorem snp_own_map {α : Type} {L : List LB} {t : Bool} {β n st : Nat} {cap : Option Nat} {f f' : α → List D} {xs : List α} (h : esOf L β n st = some (xs.map f)) (hc : ∀ k, cap = some k → xs.length ≤ k) (hp : ∀ x ∈ xs, Snps L t (f x) (f' x)) : Snp L t (.sl β 0 n xs.length cap st) (.fz t n (xs.map f')) := by
  refine .sl h (by simp) hc (by simp) (fun i cells cells' h1 h2 => ?_) fun i k cells cells' d d' h1 h2 h3 h4 => ?_
  · rw [Nat.zero_add] at h1
    simp only [List.getElem?_map, Option.map_eq_some_iff] at h1 h2
    obtain ⟨x, q1, rfl⟩ := h1
    obtain ⟨y, q2, rfl⟩ := h2
    rw [q1] at q2
    cases q2
    exact (hp x (List.mem_of_getElem? q1)).len
  · rw [Nat.zero_add] at h1
    simp only [List.getElem?_map, Option.map_eq_some_iff] at h1 h2
    obtain ⟨x, q1, rfl⟩ := h1
    obtain ⟨y, q2, rfl⟩ := h2
    rw [q1] at q2
    cases q2
    exact (hp x (List.mem_of_getElem? q1)).get k d d' h3 h4
theorem minI (a b : Nat) : (if (b : Int) < (a : Int) then (b : Int) else (a : Int)) = ((min a b : Nat) : Int) := by split <;> omega
theorem min10 (a : Nat) : (if (10 : Int) < (a : Int) then (10 : Int) else (a : Int)) = ((min a 10 : Nat) : Int) := by split <;> omega
theorem min40 (a : Nat) : (if (40 : Int) < (a : Int) then (40 : Int) else (a : Int)) = ((min a 40 : Nat) : Int) := by split <;> omega
theorem take_min {α : Type} (xs : List α) (k : Nat) : xs.take (min xs.length k) = xs.take k := by
  rcases Nat.le_total xs.length k with h | h
  · rw [Nat.min_eq_left h, List.take_length, List.take_of_length_le h]
  · rw [Nat.min_eq_right h]
def fwE (G : List Gate) (k : Nat) : List (Nat × D) := [(1, .ptr 0 0), (2, .ptr 1 0), (3, .ptr 2 0), (20, gatesD false G), (21, dI G.length), (22, dI k)]
def fwL (raw : Circ) (gs : List Gate) : List LB := [.cells [ints false raw.cards, gatesD false raw.gates], .cells [.lit (.slice none 0 0), .lit (.slice none 0 0)], .cells [ints false (raw.cards.take 10), .sl 3 0 5 gs.length none gs.length], .grow 5 (gs.map (gateC false))]
theorem fwL_sc (raw : Circ) (gs : List Gate) : scAll 4 (fwL raw gs) := by
  refine ⟨by simp [LB.sc, D.scs, D.sc, ints, gatesD], by simp [LB.sc, D.scs, D.sc], by simp [LB.sc, D.scs, D.sc, ints], fun cells h => ?_, trivial⟩
  obtain ⟨g, _, rfl⟩ := List.mem_map.1 h
  simp [D.scs, D.sc, gateC, ints]
set_option maxHeartbeats 8000000 in
theorem few_ok (raw : Circ) : FnA mC 39 [.agg (circC false raw)] (.agg (circC false (fewC raw))) := by
  refine FnA.intro has39 (by simp [fn39]) rfl ?_
  have hcirc : circC false raw = [ints false raw.cards, gatesD false raw.gates] := rfl
  have h1 : ∀ L, slcD L 1 none (some ((min raw.cards.length 10 : Nat) : Int)) none (ints false raw.cards) = some (ints false (raw.cards.take 10)) := fun L => by rw [slc_ints L false (by omega), take_min]
  have h2 : ∀ L, slcD L 5 none (some ((min raw.gates.length 40 : Nat) : Int)) none (gatesD false raw.gates) = some (gatesD false (raw.gates.take 40)) := fun L => by rw [slc_gates L false (by omega), take_min]
  simp only [wp, stepL_true, doI, quietI, isCallI, wantedD, LSt.put, LSt.putO, LSt.putE, qL, effL, evD, evDs, intD, litV, litDs, evDOI, lk, loadD_ptr, fldD, takeD, Lx.cellsO, cells_agg, fillD, putD, storeD, mms, mm2, argsE, cond_true, cond_false, beq_self_eq_true, Nat.reduceEqDiff, Nat.reduceLT, Nat.reduceAdd, Nat.reduceLeDiff, Bool.not_false, and_self, if_true, if_false, List.getElem?_cons_zero, List.getElem?_cons_succ, List.length_cons, List.length_nil, List.cons_append, List.nil_append, Nat.zero_add, Nat.add_zero, List.drop_zero, List.drop_succ_cons, List.take_zero, List.map_cons, List.map_nil, List.set_cons_zero, List.set_cons_succ, reduceCtorEq, fn39, hcirc, len_ints, len_gates, min10, min40, h1, h2, cells_ints]
  generalize hG : raw.gates.take 40 = G
  have hGl : G.length ≤ 40 := by rw [← hG]; simp; omega
  refine EvL.loop (α := Nat) (fun k => ⟨42, fwE G k, fwL raw ((G.take k).map fewG)⟩) (fun k => k ≤ G.length) (fun k => G.length - k) 0 ?_ (by simp) ?_
  · refine (Weak.sub (E' := [(1, .ptr 0 0), (2, .ptr 1 0), (3, .ptr 2 0), (20, gatesD false G), (21, dI G.length), (22, dI 0)]) (by simp [envSub, lk])).trans ?_
    exact Weak.ghostC (N := 42) (n := 5) (β := 2) (o := 1) (L := [.cells [ints false raw.cards, gatesD false raw.gates], .cells [.lit (.slice none 0 0), .lit (.slice none 0 0)], .cells [ints false (raw.cards.take 10), .lit (.slice none 0 0)]]) (ds := [ints false (raw.cards.take 10), .lit (.slice none 0 0)]) (by simp) rfl rfl
  · intro k p1
    refine wp_sound ?_
    have hgl : ((G.take k).map fewG).length = k := by simp; omega
    by_cases hk : k < G.length
    · have hlt : decide ((k : Int) < (G.length : Int)) = true := by simp; omega
      have hw2 : IntKind.i64.wrap ((k : Int) + 1) = ((k + 1 : Nat) : Int) := by rw [wrap64 (by omega) (by omega)]; rfl
      have hidx : ∀ L, idxD L 5 (k : Int) (gatesD false G) = some (.fptr false (gateC false G[k])) := fun L => idx_gates L false hk
      have htk : (G.take (k + 1)).map fewG = (G.take k).map fewG ++ [fewG G[k]] := by rw [List.take_succ_eq_append_getElem hk, List.map_append]; rfl
      have efL : fwL raw ((G.take k).map fewG) = [.cells [ints false raw.cards, gatesD false raw.gates], .cells [.lit (.slice none 0 0), .lit (.slice none 0 0)], .cells [ints false (raw.cards.take 10), .sl 3 0 5 ((G.take k).map fewG).length none ((G.take k).map fewG).length], .grow 5 (((G.take k).map fewG).map (gateC false))] := rfl
      have efE : fwE G k = [(1, .ptr 0 0), (2, .ptr 1 0), (3, .ptr 2 0), (20, gatesD false G), (21, dI G.length), (22, dI k)] := rfl
      generalize (G.take k).map fewG = gs at *
      generalize G[k] = g at *
      have hgc : gateC false g = [dI g.kind, dI g.var, dI g.val, dI g.n, ints false g.args] := rfl
      have h3 : ∀ L, slcD L 1 none (some ((min g.args.length 10 : Nat) : Int)) none (ints false g.args) = some (ints false (g.args.take 10)) := fun L => by rw [slc_ints L false (by omega), take_min]
      simp only [wp, stepL_true, doI, quietI, isCallI, wantedD, LSt.put, LSt.putO, LSt.putE, qL, effL, evD, evDs, intD, boolD, litD, litV, litDs, evDOI, lk, pickC_true, loadD_ptr, loadD_fptr, fldD, takeD, slotD, esOf, Lx.cellsO, cells_agg, cells_sl, fillE, putD, srcD_sl, storeD, appD, binV, intBin, mms, mm2, Option.map_some, cond_true, cond_false, beq_self_eq_true, Nat.reduceEqDiff, Nat.reduceLT, Nat.reduceAdd, Nat.reduceLeDiff, Bool.not_false, and_self, if_true, if_false, List.getElem?_cons_zero, List.getElem?_cons_succ, List.length_cons, List.length_nil, List.cons_append, List.nil_append, Nat.zero_add, List.drop_zero, List.drop_succ_cons, List.take_succ_cons, List.take_zero, List.map_cons, List.map_nil, List.set_cons_zero, List.set_cons_succ, List.replicate_succ, List.replicate_zero, efE, efL, hlt, hidx, hgc, len_ints, min10, h3, cells_ints, hgl, List.length_map, mb56 (show k < 1000000 by omega), hw2]
      refine ⟨k + 1, by omega, by omega, ?_⟩
      rw [htk]
      refine Weak.cutD (L0 := fwL raw (gs ++ [fewG g])) ?_ (by simp) ?_ (fwL_sc _ _)
      · simp [fwL, fewG, gateC, hgl]
      · simp [envOk, lk, D.sc, fwE, gatesD, fwL]
    · have hlt : decide ((k : Int) < (G.length : Int)) = false := by simp; omega
      have hk' : G.take k = G := List.take_of_length_le (by omega)
      rw [hk']
      have hfc : fewC raw = ⟨raw.cards.take 10, G.map fewG⟩ := by rw [← hG]; rfl
      simp only [wp, stepL_true, doI, quietI, isCallI, wantedD, LSt.put, LSt.putO, LSt.putE, qL, effL, evD, boolD, litD, litV, lk, pickC_false, loadD_ptr, takeD, slotD, Lx.cellsO, cells_agg, putD, storeD, binV, intBin, Option.map_some, cond_true, beq_self_eq_true, Nat.reduceEqDiff, Nat.reduceLT, Nat.reduceAdd, Nat.reduceLeDiff, Bool.not_false, and_self, if_true, if_false, List.getElem?_cons_zero, List.getElem?_cons_succ, List.length_cons, List.length_nil, List.cons_append, List.nil_append, Nat.zero_add, List.drop_zero, List.drop_succ_cons, List.take_succ_cons, List.take_zero, List.set_cons_zero, List.set_cons_succ, fwE, fwL, hlt]
      refine RetA.ret rfl (.aggs (.cons ?_ (.cons ?_ .nil)))
      · rw [hfc]; exact snp_ints _ _ _
      · rw [hfc]
        exact snp_own_map (f := gateC false) (by simp [esOf]) (fun k h => by cases h) fun g _ => snps_gate _ _ g
theorem ints_fr (xs : List Int) : (ints false xs).fr := ⟨rfl, frss_map _ fun x _ => ⟨trivial, trivial⟩⟩
theorem gateC_fr (g : Gate) : D.frs (gateC false g) := ⟨trivial, trivial, trivial, trivial, ints_fr _, trivial⟩
theorem circC_fr (c : Circ) : D.frs (circC false c) := ⟨ints_fr _, ⟨rfl, frss_map _ fun g _ => gateC_fr g⟩, trivial⟩
end Go.Proofs.Ytbjfkbkmoeibdaa.C
namespace Go.Proofs.Ytbjfkbkmoeibdaa.C
open Go Go.Mx Go.Lx
set_option linter.unusedSimpArgs false
set_option linter.unusedVariables false
set_option maxRecDepth 100000
theorem has38 : mC.has 38 fn38 := ⟨rfl, fun _ _ _ => rfl⟩
def gate0 : Gate := ⟨0, 0, 0, 0, []⟩
def bendC (w a : Nat) (n : Int) (c : Circ) : Circ :=
  if c.gates.length = 0 ∨ c.cards.length = 0 then c else
    let j := a % c.gates.length
    let g := c.gates.getD j gate0
    if w % 9 = 0 then ⟨c.cards, c.gates.set j { g with kind := n }⟩ else if w % 9 = 1 then ⟨c.cards, c.gates.set j { g with var := n }⟩ else if w % 9 = 2 then ⟨c.cards, c.gates.set j { g with val := n }⟩ else
    if w % 9 = 3 then ⟨c.cards, c.gates.set j { g with n := n }⟩ else if w % 9 = 4 then ⟨c.cards, c.gates.set j { g with args := g.args ++ [n] }⟩ else if w % 9 = 5 then ⟨c.cards, c.gates.set j { g with args := g.args.drop 1 }⟩ else
    if w % 9 = 6 then ⟨c.cards.set (a % c.cards.length) n, c.gates⟩ else if w % 9 = 7 then ⟨c.cards, c.gates.take (c.gates.length - 1)⟩ else ⟨c.cards ++ [n], c.gates⟩
abbrev nilS : D := .lit (.slice none 0 0)
def bdG (g : Gate) : List D := [dI g.kind, dI g.var, dI g.val, dI g.n, .sl 5 0 1 g.args.length none g.args.length]
def bdL (w a : Nat) (n : Int) (c : Circ) (es : List (List D)) : List LB := [.cells [dU8 w, dU8 a, dI n], .cells [ints false c.cards, gatesD false c.gates], .cells [nilS, nilS], .grow 5 es]
def bdL6 (w a : Nat) (n : Int) (c : Circ) (gj : Gate) (es : List (List D)) : List LB := [.cells [dU8 w, dU8 a, dI n], .cells [ints false c.cards, gatesD false c.gates], .cells [nilS, nilS], .grow 5 es, .cells (bdG gj), .grow 1 (intsE gj.args)]
def bdE (i : Nat) : List (Nat × D) := [(2, .ptr 0 0), (3, .ptr 1 0), (4, .ptr 2 0), (5, .sl 3 0 5 i none i), (6, dI i)]
theorem src_ints (L : List LB) (t : Bool) (xs : List Int) : srcD L 1 (ints t xs) = some (intsE xs) := rfl
theorem cells_gates (t : Bool) (xs : List Gate) : D.cells (gatesD t xs) = some [gatesD t xs] := rfl
theorem mb8' {k : Nat} (h : k < 1000000) : k * 8 ≤ maxBytes := by show _ ≤ 140737488355328; omega
/-- Phase A: the gate's arguments are laid still. -/
theorem bdA {w a : Nat} {n : Int} {c : Circ} {gs : List Gate} {g : Gate} {N : Nat} {E E' : List (Nat × D)} {x : LB} (hE : envOk E 6 E') (hE2 : envOk E' 4 E') (ha : envAv 5 E') :
    Weak 0 ⟨N, E, bdL w a n c (gatesE gs ++ [bdG g]) ++ [.cells (bdG g), .grow 1 (intsE g.args), x]⟩ ⟨N, E', bdL w a n c (gatesE (gs ++ [g]))⟩ := by
  have h1 : Weak 0 ⟨N, E, bdL w a n c (gatesE gs ++ [bdG g]) ++ [.cells (bdG g), .grow 1 (intsE g.args), x]⟩ ⟨N, E', bdL w a n c (gatesE gs ++ [bdG g]) ++ [.cells (bdG g), .grow 1 (intsE g.args)]⟩ := by
    refine Weak.cut (L := bdL w a n c (gatesE gs ++ [bdG g]) ++ [.cells (bdG g), .grow 1 (intsE g.args)]) (R' := [x]) (Nat.zero_le _) hE ?_
    refine ⟨by simp [LB.sc, D.scs, D.sc], by simp [LB.sc, D.scs, D.sc, ints, gatesD], by simp [LB.sc, D.scs, D.sc], fun cells h => ?_, by simp [LB.sc, D.scs, D.sc, bdG, bdL], intsE_sc _ _, trivial⟩
    rcases List.mem_append.1 h with h | h
    · exact gatesE_sc gs _ cells h
    · simp at h; subst h; simp [D.scs, D.sc, bdG, bdL]
  have h2 : Weak 0 ⟨N, E', bdL w a n c (gatesE gs ++ [bdG g]) ++ [.cells (bdG g), .grow 1 (intsE g.args)]⟩ ⟨N, E', bdL w a n c (gatesE gs ++ [gateC true g]) ++ [.cells (gateC true g), .gone]⟩ := by
    refine Weak.frz (β := 5) (n := 1) (es := intsE g.args) (by simp) (.inr rfl) (intsE_tr _) ha ?_
    have hf : Frz 5 1 (intsE g.args) (.sl 5 0 1 g.args.length none g.args.length) (ints true g.args) := by
      have := Frz.sl (β := 5) (n := 1) (es := intsE g.args) (s := 0) (len := g.args.length) (cap := none) (st := g.args.length) (intsE_len _).symm (by rw [intsE_len]; omega) (fun k h => by cases h)
      rw [show ((intsE g.args).drop 0).take g.args.length = intsE g.args by rw [← intsE_len]; exact take_all _] at this
      exact this
    have hg := gate_frz (β := 5) (n := 1) (es := intsE g.args) g.kind g.var g.val g.n hf
    exact .there (by decide) (.same (by simp [LB.av, D.avs, D.av])) (.there (by decide) (.same (by simp [LB.av, D.avs, D.av, ints, gatesD])) (.there (by decide) (.same (by simp [LB.av, D.avs, D.av])) (.there (by decide) (FrzB.app (gatesE_av gs 5) rfl hg) (.there (by decide) (.cells rfl hg) (.here (.nil _))))))
  refine (h1.trans h2).trans ?_
  rw [gatesE_app]
  refine Weak.cut (L := bdL w a n c (gatesE (gs ++ [g]))) (R' := [.cells (gateC true g), .gone]) (by simp) hE2 ?_
  exact ⟨by simp [LB.sc, D.scs, D.sc], by simp [LB.sc, D.scs, D.sc, ints, gatesD], by simp [LB.sc, D.scs, D.sc], gatesE_sc _ _, trivial⟩
def bdG7 (g : Gate) : List D := [dI g.kind, dI g.var, dI g.val, dI g.n, .sl 7 0 1 g.args.length none g.args.length]
theorem bdG_mem {gs : List Gate} {j : Nat} {gj : Gate} {cells : List D} (h : cells ∈ (gatesE gs).set j (bdG gj)) : cells ∈ gatesE gs ∨ cells = bdG gj := by
  exact List.mem_or_eq_of_mem_set h
/-- Phase B: likewise; the bent gate's own arguments stay. -/
theorem bdB {w a : Nat} {n : Int} {c : Circ} {gj : Gate} {gs : List Gate} {j : Nat} {es : List (List D)} {g : Gate} {N : Nat} {E E' : List (Nat × D)} {x : LB} (hes : es = (gatesE gs).set j (bdG gj)) (hE : envOk E 8 E') (hE2 : envOk E' 6 E') (ha : envAv 7 E') :
    Weak 0 ⟨N, E, bdL6 w a n c gj (es ++ [bdG7 g]) ++ [.cells (bdG7 g), .grow 1 (intsE g.args), x]⟩ ⟨N, E', bdL6 w a n c gj (es ++ [gateC true g])⟩ := by
  have hsc : ∀ m, 5 < m → ∀ cells ∈ es, D.scs m cells := by
    intro m hm cells h
    rw [hes] at h
    rcases bdG_mem h with h | rfl
    · exact gatesE_sc gs _ cells h
    · simp [D.scs, D.sc, bdG]; omega
  have hav : ∀ cells ∈ es, D.avs 7 cells := by
    intro cells h
    rw [hes] at h
    rcases bdG_mem h with h | rfl
    · exact gatesE_av gs _ cells h
    · simp [D.avs, D.av, bdG]
  have h1 : Weak 0 ⟨N, E, bdL6 w a n c gj (es ++ [bdG7 g]) ++ [.cells (bdG7 g), .grow 1 (intsE g.args), x]⟩ ⟨N, E', bdL6 w a n c gj (es ++ [bdG7 g]) ++ [.cells (bdG7 g), .grow 1 (intsE g.args)]⟩ := by
    refine Weak.cut (L := bdL6 w a n c gj (es ++ [bdG7 g]) ++ [.cells (bdG7 g), .grow 1 (intsE g.args)]) (R' := [x]) (Nat.zero_le _) hE ?_
    refine ⟨by simp [LB.sc, D.scs, D.sc], by simp [LB.sc, D.scs, D.sc, ints, gatesD], by simp [LB.sc, D.scs, D.sc], fun cells h => ?_, by simp [LB.sc, D.scs, D.sc, bdG, bdL6], intsE_sc _ _, by simp [LB.sc, D.scs, D.sc, bdG7, bdL6], intsE_sc _ _, trivial⟩
    rcases List.mem_append.1 h with h | h
    · exact hsc _ (by simp [bdL6]) cells h
    · simp at h; subst h; simp [D.scs, D.sc, bdG7, bdL6]
  have h2 : Weak 0 ⟨N, E', bdL6 w a n c gj (es ++ [bdG7 g]) ++ [.cells (bdG7 g), .grow 1 (intsE g.args)]⟩ ⟨N, E', bdL6 w a n c gj (es ++ [gateC true g]) ++ [.cells (gateC true g), .gone]⟩ := by
    refine Weak.frz (β := 7) (n := 1) (es := intsE g.args) (by simp) (.inr rfl) (intsE_tr _) ha ?_
    have hf : Frz 7 1 (intsE g.args) (.sl 7 0 1 g.args.length none g.args.length) (ints true g.args) := by
      have := Frz.sl (β := 7) (n := 1) (es := intsE g.args) (s := 0) (len := g.args.length) (cap := none) (st := g.args.length) (intsE_len _).symm (by rw [intsE_len]; omega) (fun k h => by cases h)
      rw [show ((intsE g.args).drop 0).take g.args.length = intsE g.args by rw [← intsE_len]; exact take_all _] at this
      exact this
    have hg := gate_frz (β := 7) (n := 1) (es := intsE g.args) g.kind g.var g.val g.n hf
    exact .there (by decide) (.same (by simp [LB.av, D.avs, D.av])) (.there (by decide) (.same (by simp [LB.av, D.avs, D.av, ints, gatesD])) (.there (by decide) (.same (by simp [LB.av, D.avs, D.av])) (.there (by decide) (FrzB.app hav rfl hg) (.there (by decide) (.same (by simp [LB.av, D.avs, D.av, bdG])) (.there (by decide) (.same (by
      intro cells h
      obtain ⟨x, _, rfl⟩ := List.mem_map.1 h
      exact ⟨trivial, trivial⟩)) (.there (by decide) (.cells rfl hg) (.here (.nil _))))))))
  refine (h1.trans h2).trans ?_
  refine Weak.cut (L := bdL6 w a n c gj (es ++ [gateC true g])) (R' := [.cells (gateC true g), .gone]) (by simp) hE2 ?_
  refine ⟨by simp [LB.sc, D.scs, D.sc], by simp [LB.sc, D.scs, D.sc, ints, gatesD], by simp [LB.sc, D.scs, D.sc], fun cells h => ?_, by simp [LB.sc, D.scs, D.sc, bdG, bdL6], intsE_sc _ _, trivial⟩
  rcases List.mem_append.1 h with h | h
  · exact hsc _ (by simp [bdL6]) cells h
  · simp at h; subst h; simp [D.scs, D.sc, gateC, ints]
theorem snp_rows {L : List LB} {β n s len st : Nat} {cap : Option Nat} {es els : List (List D)} (h : esOf L β n st = some es) (hl : s + len ≤ es.length) (hlen : len = els.length) (hcap : ∀ k, cap = some k → len ≤ k)
    (hp : ∀ (k : Nat) e, els[k]? = some e → ∃ cells, es[s + k]? = some cells ∧ Snps L true cells e) : Snp L true (.sl β s n len cap st) (.fz true n els) := by
  refine .sl h hl hcap hlen (fun i cells cells' h1 h2 => ?_) fun i k cells cells' d d' h1 h2 h3 h4 => ?_
  · obtain ⟨x, q1, q2⟩ := hp i cells' h2
    rw [h1] at q1
    cases q1
    exact q2.len
  · obtain ⟨x, q1, q2⟩ := hp i cells' h2
    rw [h1] at q1
    cases q1
    exact q2.get k d d' h3 h4
theorem gate_same (L : List LB) (g : Gate) : Snps L true (gateC true g) (gateC true g) := .cons (.lit _) (.cons (.lit _) (.cons (.lit _) (.cons (.lit _) (.cons (.same _ _ rfl) .nil))))
/-- The gates, one of them bent. -/
theorem bdSnp {L : List LB} {st len j : Nat} {gs : List Gate} {g' : Gate} {X : List D} (h : esOf L 3 5 st = some ((gatesE gs).set j X)) (hj : j < gs.length) (hl : len ≤ gs.length) (hX : Snps L true X (gateC true g')) : Snp L true (.sl 3 0 5 len none st) (gatesD true ((gs.set j g').take len)) := by
  refine snp_rows h (by simp [gatesE_len]; omega) (by simp; omega) (fun k h => by cases h) fun k e he => ?_
  rw [Nat.zero_add]
  simp only [List.getElem?_map, Option.map_eq_some_iff] at he
  obtain ⟨g, h1, rfl⟩ := he
  rw [List.getElem?_take] at h1
  split at h1
  · rw [List.getElem?_set] at h1 ⊢
    split at h1
    · rename_i hjk
      subst hjk
      cases h1
      rw [if_pos rfl, if_pos (by rw [gatesE_len]; exact hj)]
      exact ⟨X, rfl, hX⟩
    · rename_i hjk
      rw [if_neg hjk]
      refine ⟨gateC true g, by simp [gatesE, h1], gate_same L g⟩
  · cases h1
theorem bdSnpAll {L : List LB} {st j : Nat} {gs : List Gate} {g' : Gate} {X : List D} (h : esOf L 3 5 st = some ((gatesE gs).set j X)) (hj : j < gs.length) (hX : Snps L true X (gateC true g')) : Snp L true (.sl 3 0 5 gs.length none st) (gatesD true (gs.set j g')) := by
  have := bdSnp h hj (Nat.le_refl _) hX
  rwa [List.take_of_length_le (by simp)] at this
theorem bdSnpSame {L : List LB} {st j : Nat} {gs : List Gate} {g' : Gate} {X : List D} (he : gs.set j g' = gs) (h : esOf L 3 5 st = some ((gatesE gs).set j X)) (hj : j < gs.length) (hX : Snps L true X (gateC true g')) : Snp L true (.sl 3 0 5 gs.length none st) (gatesD true gs) := by
  have := bdSnpAll h hj hX
  rwa [he] at this
theorem bdSnpTake {L : List LB} {st j len : Nat} {gs : List Gate} {g' : Gate} {X : List D} (he : gs.set j g' = gs) (h : esOf L 3 5 st = some ((gatesE gs).set j X)) (hj : j < gs.length) (hl : len ≤ gs.length) (hX : Snps L true X (gateC true g')) : Snp L true (.sl 3 0 5 len none st) (gatesD true (gs.take len)) := by
  have := bdSnp h hj hl hX
  rwa [he] at this
theorem intsE_set' (ys : List Int) (k : Nat) (x : Int) : (intsE ys).set k [dI x] = intsE (ys.set k x) := by simp [intsE]
theorem snp_own_s {L : List LB} {β s len st : Nat} {xs : List Int} (h : esOf L β 1 st = some (intsE xs)) (hl : s + len ≤ xs.length) : Snp L true (.sl β s 1 len none st) (ints true ((xs.drop s).take len)) := by
  refine snp_rows h (by rw [intsE_len]; exact hl) (by simp; omega) (fun k h => by cases h) fun k e he => ?_
  simp only [List.getElem?_map, Option.map_eq_some_iff] at he
  obtain ⟨x, h1, rfl⟩ := he
  rw [List.getElem?_take] at h1
  split at h1
  · rw [List.getElem?_drop] at h1
    exact ⟨[dI x], by simp [intsE, h1], .cons (.lit _) .nil⟩
  · cases h1
theorem bnd1 (m : Nat) (h : 0 < m) : bounds m none (some 1) none none = some (1, m, none) := by
  have h1 : (1 : Int) ≤ (m : Int) := by omega
  simp [bounds, topOf, h1]
theorem bndT (m k : Nat) (h : k ≤ m) : bounds m none none (some (k : Int)) none = some (0, k, none) := by
  have h1 : (k : Int) ≤ (m : Int) := by omega
  simp [bounds, topOf, h1]
theorem bend_neg {w a : Nat} {n : Int} {c : Circ} (h : ¬ (c.gates.length = 0 ∨ c.cards.length = 0)) : bendC w a n c =
    (if w % 9 = 0 then ⟨c.cards, c.gates.set (a % c.gates.length) { c.gates.getD (a % c.gates.length) gate0 with kind := n }⟩ else if w % 9 = 1 then ⟨c.cards, c.gates.set (a % c.gates.length) { c.gates.getD (a % c.gates.length) gate0 with var := n }⟩ else if w % 9 = 2 then ⟨c.cards, c.gates.set (a % c.gates.length) { c.gates.getD (a % c.gates.length) gate0 with val := n }⟩ else
    if w % 9 = 3 then ⟨c.cards, c.gates.set (a % c.gates.length) { c.gates.getD (a % c.gates.length) gate0 with n := n }⟩ else if w % 9 = 4 then ⟨c.cards, c.gates.set (a % c.gates.length) { c.gates.getD (a % c.gates.length) gate0 with args := (c.gates.getD (a % c.gates.length) gate0).args ++ [n] }⟩ else if w % 9 = 5 then ⟨c.cards, c.gates.set (a % c.gates.length) { c.gates.getD (a % c.gates.length) gate0 with args := (c.gates.getD (a % c.gates.length) gate0).args.drop 1 }⟩ else
    if w % 9 = 6 then ⟨c.cards.set (a % c.cards.length) n, c.gates⟩ else if w % 9 = 7 then ⟨c.cards, c.gates.take (c.gates.length - 1)⟩ else ⟨c.cards ++ [n], c.gates⟩) := by
  unfold bendC
  rw [if_neg h]
def bdSt (w a : Nat) (n : Int) (c : Circ) (i : Nat) : LSt :=
  if i ≤ a % c.gates.length then ⟨149, bdE i, bdL w a n c (gatesE (c.gates.take i))⟩ else ⟨149, bdE i, bdL6 w a n c (c.gates.getD (a % c.gates.length) gate0) ((gatesE (c.gates.take i)).set (a % c.gates.length) (bdG (c.gates.getD (a % c.gates.length) gate0)))⟩
theorem set_self {gs : List Gate} {j : Nat} (hj : j < gs.length) : gs.set j (gs.getD j gate0) = gs := by
  rw [List.getD_eq_getElem?_getD, List.getElem?_eq_getElem hj]
  simp
set_option maxHeartbeats 16000000 in
theorem Bend_ok (w a : Nat) (n : Int) (ha : a < 256) (hw : w < 256) (c : Circ) (hs : c.Small) : Lx.Fn mC 38 [.agg [dU8 w, dU8 a, dI n], .agg (circC false c)] (.agg (circC true (bendC w a n c))) := by
  refine Lx.Fn.intro has38 (by simp [fn38]) (fun h => by cases h) ?_
  have hcirc : circC false c = [ints false c.cards, gatesD false c.gates] := rfl
  have hgl := hs.gates
  have hcl := hs.cards
  simp only [wp, stepL_true, doI, quietI, isCallI, wantedD, LSt.put, LSt.putO, LSt.putE, qL, effL, evD, lk, Lx.cellsO, cells_agg, argsE, Nat.reduceEqDiff, Nat.reduceLT, Nat.reduceAdd, Bool.not_false, if_true, if_false, List.length_cons, List.length_nil, List.cons_append, List.nil_append, Nat.zero_add, List.map_cons, List.map_nil, reduceCtorEq, fn38, hcirc]
  refine EvL.loop (α := Nat) (bdSt w a n c) (fun i => i ≤ c.gates.length) (fun i => c.gates.length - i) 0 ?_ (by simp) ?_
  · unfold bdSt
    rw [if_pos (by omega)]
    exact (Weak.ghost (k := 5) (n := 5) (by simp) (by simp [lk])).trans (Weak.sub (by simp [envSub, lk, bdE]))
  intro i p1
  refine wp_sound ?_
  have ebE : bdE i = [(2, .ptr 0 0), (3, .ptr 1 0), (4, .ptr 2 0), (5, .sl 3 0 5 i none i), (6, dI i)] := rfl
  by_cases hk : i < c.gates.length
  · have hlt : decide ((i : Int) < (c.gates.length : Int)) = true := by simp; omega
    have hw2 : IntKind.i64.wrap ((i : Int) + 1) = ((i + 1 : Nat) : Int) := by rw [wrap64 (by omega) (by omega)]; rfl
    have hidx : ∀ L, idxD L 5 (i : Int) (gatesD false c.gates) = some (.fptr false (gateC false c.gates[i])) := fun L => idx_gates L false hk
    have hga := hs.args _ (List.getElem_mem hk)
    have htk : c.gates.take (i + 1) = c.gates.take i ++ [c.gates[i]] := List.take_succ_eq_append_getElem hk
    have hgi : c.gates.getD i gate0 = c.gates[i] := by rw [List.getD_eq_getElem?_getD, List.getElem?_eq_getElem hk]; rfl
    generalize hg : c.gates[i] = g at *
    have hgc : gateC false g = [dI g.kind, dI g.var, dI g.val, dI g.n, ints false g.args] := rfl
    have hgl2 : (gatesE (c.gates.take i)).length = i := by rw [gatesE_len]; simp; omega
    rcases Nat.lt_trichotomy i (a % c.gates.length) with hlt3 | heq3 | hgt3
    · have e1 : bdSt w a n c i = ⟨149, [(2, .ptr 0 0), (3, .ptr 1 0), (4, .ptr 2 0), (5, .sl 3 0 5 i none i), (6, dI i)], [.cells [dU8 w, dU8 a, dI n], .cells [ints false c.cards, gatesD false c.gates], .cells [nilS, nilS], .grow 5 (gatesE (c.gates.take i))]⟩ := by unfold bdSt; rw [if_pos (by omega)]; rfl
      simp only [wp, stepL_true, doI, quietI, isCallI, wantedD, LSt.put, LSt.putO, LSt.putE, qL, effL, evD, intD, boolD, litD, litV, lk, pickC_true, loadD_ptr, loadD_fptr, fldD, takeD, slotD, esOf, Lx.cellsO, cells_agg, cells_sl, fillE, putD, srcD_sl, storeD, appD, binV, intBin, Option.map_some, cond_true, beq_self_eq_true, Nat.reduceEqDiff, Nat.reduceLT, Nat.reduceAdd, Nat.reduceLeDiff, Bool.not_false, and_self, if_true, if_false, List.getElem?_cons_zero, List.getElem?_cons_succ, List.length_cons, List.length_nil, List.cons_append, List.nil_append, Nat.zero_add, List.drop_zero, List.drop_succ_cons, List.take_succ_cons, List.take_zero, List.map_cons, List.map_nil, List.set_cons_zero, List.set_cons_succ, List.replicate_succ, List.replicate_zero, e1, len_gates, hlt, hidx, hgc, src_ints, intsE_len, mb8' hga, hgl2, mb56 (show i < 1000000 by omega), hw2]
      refine ⟨i + 1, by omega, by omega, ?_⟩
      have e2 : bdSt w a n c (i + 1) = ⟨149, bdE (i + 1), bdL w a n c (gatesE (c.gates.take i ++ [g]))⟩ := by unfold bdSt; rw [if_pos (by omega), htk]
      rw [e2]
      exact bdA (by simp [envOk, bdE, lk, D.sc]) (by simp [envOk, bdE, lk, D.sc]) (by simp [envAv, bdE, D.av])
    · have e1 : bdSt w a n c i = ⟨149, [(2, .ptr 0 0), (3, .ptr 1 0), (4, .ptr 2 0), (5, .sl 3 0 5 i none i), (6, dI i)], [.cells [dU8 w, dU8 a, dI n], .cells [ints false c.cards, gatesD false c.gates], .cells [nilS, nilS], .grow 5 (gatesE (c.gates.take i))]⟩ := by unfold bdSt; rw [if_pos (by omega)]; rfl
      simp only [wp, stepL_true, doI, quietI, isCallI, wantedD, LSt.put, LSt.putO, LSt.putE, qL, effL, evD, intD, boolD, litD, litV, lk, pickC_true, loadD_ptr, loadD_fptr, fldD, takeD, slotD, esOf, Lx.cellsO, cells_agg, cells_sl, fillE, putD, srcD_sl, storeD, appD, binV, intBin, Option.map_some, cond_true, beq_self_eq_true, Nat.reduceEqDiff, Nat.reduceLT, Nat.reduceAdd, Nat.reduceLeDiff, Bool.not_false, and_self, if_true, if_false, List.getElem?_cons_zero, List.getElem?_cons_succ, List.length_cons, List.length_nil, List.cons_append, List.nil_append, Nat.zero_add, List.drop_zero, List.drop_succ_cons, List.take_succ_cons, List.take_zero, List.map_cons, List.map_nil, List.set_cons_zero, List.set_cons_succ, List.replicate_succ, List.replicate_zero, e1, len_gates, hlt, hidx, hgc, src_ints, intsE_len, mb8' hga, hgl2, mb56 (show i < 1000000 by omega), hw2]
      refine ⟨i + 1, by omega, by omega, ?_⟩
      have e2 : bdSt w a n c (i + 1) = ⟨149, bdE (i + 1), bdL6 w a n c g (gatesE (c.gates.take i) ++ [bdG g])⟩ := by
        unfold bdSt
        rw [if_neg (by omega), ← heq3, hgi, htk, ← gatesE_app, List.set_append_right _ _ (by omega), hgl2, Nat.sub_self]
        rfl
      rw [e2]
      refine Weak.cut (L := bdL6 w a n c g (gatesE (c.gates.take i) ++ [bdG g])) (R' := [_]) (Nat.zero_le _) (by simp [envOk, bdE, lk, D.sc, bdL6]) ?_
      refine ⟨by simp [LB.sc, D.scs, D.sc], by simp [LB.sc, D.scs, D.sc, ints, gatesD], by simp [LB.sc, D.scs, D.sc], fun cells h => ?_, by simp [LB.sc, D.scs, D.sc, bdG, bdL6], intsE_sc _ _, trivial⟩
      rcases List.mem_append.1 h with h | h
      · exact gatesE_sc _ _ cells h
      · simp at h; subst h; simp [D.scs, D.sc, bdG, bdL6]
    · have hjl : a % c.gates.length < (gatesE (c.gates.take i)).length := by omega
      have e0 : (gatesE (c.gates.take (i + 1))).set (a % c.gates.length) (bdG (c.gates.getD (a % c.gates.length) gate0)) = (gatesE (c.gates.take i)).set (a % c.gates.length) (bdG (c.gates.getD (a % c.gates.length) gate0)) ++ [gateC true g] := by
        rw [htk, ← gatesE_app, List.set_append_left _ _ hjl]
      generalize hes : (gatesE (c.gates.take i)).set (a % c.gates.length) (bdG (c.gates.getD (a % c.gates.length) gate0)) = es at *
      have hesl : es.length = i := by rw [← hes]; simp [hgl2]
      have e1 : bdSt w a n c i = ⟨149, [(2, .ptr 0 0), (3, .ptr 1 0), (4, .ptr 2 0), (5, .sl 3 0 5 i none i), (6, dI i)], [.cells [dU8 w, dU8 a, dI n], .cells [ints false c.cards, gatesD false c.gates], .cells [nilS, nilS], .grow 5 es, .cells (bdG (c.gates.getD (a % c.gates.length) gate0)), .grow 1 (intsE (c.gates.getD (a % c.gates.length) gate0).args)]⟩ := by
        unfold bdSt; rw [if_neg (by omega), hes]; rfl
      simp only [wp, stepL_true, doI, quietI, isCallI, wantedD, LSt.put, LSt.putO, LSt.putE, qL, effL, evD, intD, boolD, litD, litV, lk, pickC_true, loadD_ptr, loadD_fptr, fldD, takeD, slotD, esOf, Lx.cellsO, cells_agg, cells_sl, fillE, putD, srcD_sl, storeD, appD, binV, intBin, Option.map_some, cond_true, beq_self_eq_true, Nat.reduceEqDiff, Nat.reduceLT, Nat.reduceAdd, Nat.reduceLeDiff, Bool.not_false, and_self, if_true, if_false, List.getElem?_cons_zero, List.getElem?_cons_succ, List.length_cons, List.length_nil, List.cons_append, List.nil_append, Nat.zero_add, List.drop_zero, List.drop_succ_cons, List.take_succ_cons, List.take_zero, List.map_cons, List.map_nil, List.set_cons_zero, List.set_cons_succ, List.replicate_succ, List.replicate_zero, e1, len_gates, hlt, hidx, hgc, src_ints, intsE_len, mb8' hga, hesl, mb56 (show i < 1000000 by omega), hw2]
      refine ⟨i + 1, by omega, by omega, ?_⟩
      have e2 : bdSt w a n c (i + 1) = ⟨149, bdE (i + 1), bdL6 w a n c (c.gates.getD (a % c.gates.length) gate0) (es ++ [gateC true g])⟩ := by unfold bdSt; rw [if_neg (by omega), e0]
      rw [e2]
      exact bdB hes.symm (by simp [envOk, bdE, lk, D.sc]) (by simp [envOk, bdE, lk, D.sc]) (by simp [envAv, bdE, D.av])
  · have hlt : decide ((i : Int) < (c.gates.length : Int)) = false := by simp; omega
    have hi : i = c.gates.length := by omega
    subst hi
    by_cases h0 : c.gates.length = 0
    · have hnil : c.gates = [] := List.eq_nil_of_length_eq_zero h0
      have hbc : bendC w a n c = c := by unfold bendC; rw [if_pos (.inl h0)]
      have e1 : bdSt w a n c c.gates.length = ⟨149, [(2, .ptr 0 0), (3, .ptr 1 0), (4, .ptr 2 0), (5, .sl 3 0 5 0 none 0), (6, dI c.gates.length)], [.cells [dU8 w, dU8 a, dI n], .cells [ints false c.cards, gatesD false c.gates], .cells [nilS, nilS], .grow 5 []]⟩ := by unfold bdSt; rw [if_pos (by omega)]; simp [bdE, bdL, hnil, gatesE]
      simp only [wp, stepL_true, stepL_false, doI, quietI, isCallI, wantedD, wantD, undefD, LSt.put, LSt.putO, LSt.putE, qL, effL, evD, boolD, litD, litV, lk, pickC_true, pickC_false, lenD_sl, loadD_ptr, fldD, takeD, slotD, esOf, Lx.cellsO, cells_agg, cells_sl, putD, storeD, appD, binV, intBin, Option.map_some, cond_true, cond_false, beq_self_eq_true, Nat.reduceEqDiff, Nat.reduceLT, Nat.reduceAdd, Nat.reduceLeDiff, Bool.not_true, Bool.not_false, and_self, if_true, if_false, List.getElem?_cons_zero, List.getElem?_cons_succ, List.length_cons, List.length_nil, List.cons_append, List.nil_append, Nat.zero_add, Nat.add_zero, List.drop_zero, List.drop_succ_cons, List.take_succ_cons, List.take_zero, List.set_cons_zero, List.set_cons_succ, e1, len_gates, hlt, src_ints, intsE_len, mb8' hcl, Int.cast_ofNat_Int]
      refine RetQ.ret rfl ?_
      rw [hbc]
      refine .aggs (.cons (snp_own (by simp [esOf, intsE_len]) (fun k h => by cases h)) (.cons ?_ .nil))
      show Snp _ true _ (gatesD true c.gates)
      rw [hnil]
      exact snp_rows (es := []) (by simp [esOf]) (by simp) rfl (fun k h => by cases h) (fun k e h => by simp at h)
    · have hj : a % c.gates.length < c.gates.length := Nat.mod_lt _ (by omega)
      have hn0 : ((c.gates.length : Int) == 0) = false := beq_eq_false_iff_ne.2 (by omega)
      have hset : c.gates.set (a % c.gates.length) (c.gates.getD (a % c.gates.length) gate0) = c.gates := set_self hj
      generalize hgj : c.gates.getD (a % c.gates.length) gate0 = gj at *
      have hga : gj.args.length < 1000000 := by
        rw [← hgj, List.getD_eq_getElem?_getD, List.getElem?_eq_getElem hj]
        exact hs.args _ (List.getElem_mem hj)
      have e1 : bdSt w a n c c.gates.length = ⟨149, [(2, .ptr 0 0), (3, .ptr 1 0), (4, .ptr 2 0), (5, .sl 3 0 5 c.gates.length none c.gates.length), (6, dI c.gates.length)], [.cells [dU8 w, dU8 a, dI n], .cells [ints false c.cards, gatesD false c.gates], .cells [nilS, nilS], .grow 5 ((gatesE c.gates).set (a % c.gates.length) (bdG gj)), .cells (bdG gj), .grow 1 (intsE gj.args)]⟩ := by
        unfold bdSt; rw [if_neg (by omega), hgj, List.take_length]; rfl
      have hesl : ((gatesE c.gates).set (a % c.gates.length) (bdG gj)).length = c.gates.length := by simp [gatesE_len]
      have hesj : ((gatesE c.gates).set (a % c.gates.length) (bdG gj))[a % c.gates.length]? = some [dI gj.kind, dI gj.var, dI gj.val, dI gj.n, .sl 5 0 1 gj.args.length none gj.args.length] := by rw [List.getElem?_set_self (by rw [gatesE_len]; exact hj)]; rfl
      have hsetset : ∀ X, ((gatesE c.gates).set (a % c.gates.length) (bdG gj)).set (a % c.gates.length) X = (gatesE c.gates).set (a % c.gates.length) X := fun X => List.set_set ..
      have hown : ∀ (L : List LB) (xs : List Int) (β k : Nat), esOf L β 1 k = some (intsE xs) → k = xs.length → Snp L true (.sl β 0 1 k none k) (ints true xs) := fun L xs β k h1 h2 => by subst h2; exact snp_own h1 (fun k h => by cases h)
      have hX : ∀ (L : List LB), L[5]? = some (.grow 1 (intsE gj.args)) → Snp L true (.sl 5 0 1 gj.args.length none gj.args.length) (ints true gj.args) := fun L h => snp_own (by simp [esOf, h, intsE_len]) (fun k h => by cases h)
      by_cases hc0 : c.cards.length = 0
      · have hc0' : ((c.cards.length : Int) == 0) = true := by simp [hc0]
        have hbc : bendC w a n c = c := by unfold bendC; rw [if_pos (.inr hc0)]
        simp only [wp, stepL_true, doI, quietI, isCallI, wantedD, wantD, LSt.put, LSt.putO, LSt.putE, qL, effL, evD, boolD, litD, litV, lk, pickC_true, pickC_false, lenD_sl, loadD_ptr, fldD, takeD, slotD, esOf, Lx.cellsO, cells_agg, cells_sl, putD, storeD, appD, binV, intBin, Option.map_some, cond_true, cond_false, beq_self_eq_true, Nat.reduceEqDiff, Nat.reduceLT, Nat.reduceAdd, Nat.reduceLeDiff, Bool.not_false, and_self, if_true, if_false, List.getElem?_cons_zero, List.getElem?_cons_succ, List.length_cons, List.length_nil, List.cons_append, List.nil_append, Nat.zero_add, Nat.add_zero, List.drop_zero, List.drop_succ_cons, List.take_succ_cons, List.take_zero, List.set_cons_zero, List.set_cons_succ, e1, len_gates, hlt, src_ints, intsE_len, mb8' hcl, hn0, hesl, hc0']
        refine RetQ.ret rfl ?_
        rw [hbc]
        refine .aggs (.cons (snp_own (by simp [esOf, intsE_len]) (fun k h => by cases h)) (.cons ?_ .nil))
        show Snp _ true _ (gatesD true c.gates)
        rw [← hset]
        have := bdSnpAll (L := [.cells [dU8 w, dU8 a, dI n], .cells [.sl 6 0 1 c.cards.length none c.cards.length, .sl 3 0 5 c.gates.length none c.gates.length], .cells [.sl 6 0 1 c.cards.length none c.cards.length, .sl 3 0 5 c.gates.length none c.gates.length], .grow 5 ((gatesE c.gates).set (a % c.gates.length) (bdG gj)), .cells (bdG gj), .grow 1 (intsE gj.args), .grow 1 (intsE c.cards)]) (st := c.gates.length) (j := a % c.gates.length) (gs := c.gates) (g' := gj) (X := bdG gj) (by simp [esOf, gatesE_len]) hj (.cons (.lit _) (.cons (.lit _) (.cons (.lit _) (.cons (.lit _) (.cons (hX _ rfl) .nil)))))
        rwa [hset] at this ⊢
      · have hc0' : ((c.cards.length : Int) == 0) = false := beq_eq_false_iff_ne.2 (by omega)
        have hne : ¬ (c.gates.length = 0 ∨ c.cards.length = 0) := by omega
        have wa : IntKind.i64.wrap (a : Int) = (a : Int) := wrapN (by omega)
        have hrem : ∀ m : Nat, Int.tmod (a : Int) (m : Int) = ((a % m : Nat) : Int) := fun m => rfl
        have hrem9 : Int.tmod (w : Int) 9 = ((w % 9 : Nat) : Int) := rfl
        have hjI : (((a % c.gates.length : Nat) : Int) < (c.gates.length : Int)) = True := by simp; omega
        have hjc : a % c.cards.length < c.cards.length := Nat.mod_lt _ (by omega)
        have hjcI : (((a % c.cards.length : Nat) : Int) < (c.cards.length : Int)) = True := by simp; omega
        have h9 : w % 9 = 0 ∨ w % 9 = 1 ∨ w % 9 = 2 ∨ w % 9 = 3 ∨ w % 9 = 4 ∨ w % 9 = 5 ∨ w % 9 = 6 ∨ w % 9 = 7 ∨ w % 9 = 8 := by omega
        rcases h9 with h9 | h9 | h9 | h9 | h9 | h9 | h9 | h9 | h9 <;> rw [h9] at hrem9
        · have hb : bendC w a n c = ⟨c.cards, c.gates.set (a % c.gates.length) { gj with kind := n }⟩ := by rw [bend_neg hne, hgj, h9]; simp
          simp only [wp, stepL_true, doI, quietI, isCallI, wantedD, wantD, LSt.put, LSt.putO, LSt.putE, qL, effL, evD, intD, boolD, litD, litV, lk, pickC_true, pickC_false, lenD_sl, idxD_sl, loadD_ptr, fldD, takeD, slotD, esOf, Lx.cellsO, cells_lit, cells_agg, cells_sl, oneV, putD, storeD, appD, binV, intBin, Option.map_some, cond_true, cond_false, beq_self_eq_true, Nat.reduceEqDiff, Nat.reduceLT, Nat.reduceAdd, Nat.reduceLeDiff, Bool.not_true, Bool.not_false, and_self, if_true, if_false, List.getElem?_cons_zero, List.getElem?_cons_succ, List.length_cons, List.length_nil, List.cons_append, List.nil_append, Nat.zero_add, Nat.add_zero, Int.reduceBEq, List.drop_zero, List.drop_succ_cons, List.take_succ_cons, List.take_zero, List.set_cons_zero, List.set_cons_succ, e1, len_gates, hlt, src_ints, intsE_len, mb8' hcl, hn0, hesl, hc0', wa, hrem, hjI, Int.natCast_nonneg, Int.toNat_natCast, hesj, hrem9, Int.cast_ofNat_Int, hsetset]
          refine RetQ.ret rfl ?_
          rw [hb]
          exact .aggs (.cons (snp_own (by simp [esOf, intsE_len]) (fun k h => by cases h)) (.cons (bdSnpAll (X := [dI n, dI gj.var, dI gj.val, dI gj.n, .sl 5 0 1 gj.args.length none gj.args.length]) (by simp [esOf, gatesE_len]) hj (.cons (.lit _) (.cons (.lit _) (.cons (.lit _) (.cons (.lit _) (.cons (hX _ rfl) .nil)))))) .nil))
        · have hb : bendC w a n c = ⟨c.cards, c.gates.set (a % c.gates.length) { gj with var := n }⟩ := by rw [bend_neg hne, hgj, h9]; simp
          simp only [wp, stepL_true, doI, quietI, isCallI, wantedD, wantD, LSt.put, LSt.putO, LSt.putE, qL, effL, evD, intD, boolD, litD, litV, lk, pickC_true, pickC_false, lenD_sl, idxD_sl, loadD_ptr, fldD, takeD, slotD, esOf, Lx.cellsO, cells_lit, cells_agg, cells_sl, oneV, putD, storeD, appD, binV, intBin, Option.map_some, cond_true, cond_false, beq_self_eq_true, Nat.reduceEqDiff, Nat.reduceLT, Nat.reduceAdd, Nat.reduceLeDiff, Bool.not_true, Bool.not_false, and_self, if_true, if_false, List.getElem?_cons_zero, List.getElem?_cons_succ, List.length_cons, List.length_nil, List.cons_append, List.nil_append, Nat.zero_add, Nat.add_zero, Int.reduceBEq, List.drop_zero, List.drop_succ_cons, List.take_succ_cons, List.take_zero, List.set_cons_zero, List.set_cons_succ, e1, len_gates, hlt, src_ints, intsE_len, mb8' hcl, hn0, hesl, hc0', wa, hrem, hjI, Int.natCast_nonneg, Int.toNat_natCast, hesj, hrem9, Int.cast_ofNat_Int, hsetset]
          refine RetQ.ret rfl ?_
          rw [hb]
          exact .aggs (.cons (snp_own (by simp [esOf, intsE_len]) (fun k h => by cases h)) (.cons (bdSnpAll (X := [dI gj.kind, dI n, dI gj.val, dI gj.n, .sl 5 0 1 gj.args.length none gj.args.length]) (by simp [esOf, gatesE_len]) hj (.cons (.lit _) (.cons (.lit _) (.cons (.lit _) (.cons (.lit _) (.cons (hX _ rfl) .nil)))))) .nil))
        · have hb : bendC w a n c = ⟨c.cards, c.gates.set (a % c.gates.length) { gj with val := n }⟩ := by rw [bend_neg hne, hgj, h9]; simp
          simp only [wp, stepL_true, doI, quietI, isCallI, wantedD, wantD, LSt.put, LSt.putO, LSt.putE, qL, effL, evD, intD, boolD, litD, litV, lk, pickC_true, pickC_false, lenD_sl, idxD_sl, loadD_ptr, fldD, takeD, slotD, esOf, Lx.cellsO, cells_lit, cells_agg, cells_sl, oneV, putD, storeD, appD, binV, intBin, Option.map_some, cond_true, cond_false, beq_self_eq_true, Nat.reduceEqDiff, Nat.reduceLT, Nat.reduceAdd, Nat.reduceLeDiff, Bool.not_true, Bool.not_false, and_self, if_true, if_false, List.getElem?_cons_zero, List.getElem?_cons_succ, List.length_cons, List.length_nil, List.cons_append, List.nil_append, Nat.zero_add, Nat.add_zero, Int.reduceBEq, List.drop_zero, List.drop_succ_cons, List.take_succ_cons, List.take_zero, List.set_cons_zero, List.set_cons_succ, e1, len_gates, hlt, src_ints, intsE_len, mb8' hcl, hn0, hesl, hc0', wa, hrem, hjI, Int.natCast_nonneg, Int.toNat_natCast, hesj, hrem9, Int.cast_ofNat_Int, hsetset]
          refine RetQ.ret rfl ?_
          rw [hb]
          exact .aggs (.cons (snp_own (by simp [esOf, intsE_len]) (fun k h => by cases h)) (.cons (bdSnpAll (X := [dI gj.kind, dI gj.var, dI n, dI gj.n, .sl 5 0 1 gj.args.length none gj.args.length]) (by simp [esOf, gatesE_len]) hj (.cons (.lit _) (.cons (.lit _) (.cons (.lit _) (.cons (.lit _) (.cons (hX _ rfl) .nil)))))) .nil))
        · have hb : bendC w a n c = ⟨c.cards, c.gates.set (a % c.gates.length) { gj with n := n }⟩ := by rw [bend_neg hne, hgj, h9]; simp
          simp only [wp, stepL_true, doI, quietI, isCallI, wantedD, wantD, LSt.put, LSt.putO, LSt.putE, qL, effL, evD, intD, boolD, litD, litV, lk, pickC_true, pickC_false, lenD_sl, idxD_sl, loadD_ptr, fldD, takeD, slotD, esOf, Lx.cellsO, cells_lit, cells_agg, cells_sl, oneV, putD, storeD, appD, binV, intBin, Option.map_some, cond_true, cond_false, beq_self_eq_true, Nat.reduceEqDiff, Nat.reduceLT, Nat.reduceAdd, Nat.reduceLeDiff, Bool.not_true, Bool.not_false, and_self, if_true, if_false, List.getElem?_cons_zero, List.getElem?_cons_succ, List.length_cons, List.length_nil, List.cons_append, List.nil_append, Nat.zero_add, Nat.add_zero, Int.reduceBEq, List.drop_zero, List.drop_succ_cons, List.take_succ_cons, List.take_zero, List.set_cons_zero, List.set_cons_succ, e1, len_gates, hlt, src_ints, intsE_len, mb8' hcl, hn0, hesl, hc0', wa, hrem, hjI, Int.natCast_nonneg, Int.toNat_natCast, hesj, hrem9, Int.cast_ofNat_Int, hsetset]
          refine RetQ.ret rfl ?_
          rw [hb]
          exact .aggs (.cons (snp_own (by simp [esOf, intsE_len]) (fun k h => by cases h)) (.cons (bdSnpAll (X := [dI gj.kind, dI gj.var, dI gj.val, dI n, .sl 5 0 1 gj.args.length none gj.args.length]) (by simp [esOf, gatesE_len]) hj (.cons (.lit _) (.cons (.lit _) (.cons (.lit _) (.cons (.lit _) (.cons (hX _ rfl) .nil)))))) .nil))
        · have hb : bendC w a n c = ⟨c.cards, c.gates.set (a % c.gates.length) { gj with args := gj.args ++ [n] }⟩ := by rw [bend_neg hne, hgj, h9]; simp
          simp only [wp, stepL_true, doI, quietI, isCallI, wantedD, wantD, LSt.put, LSt.putO, LSt.putE, qL, effL, evD, intD, boolD, litD, litV, lk, pickC_true, pickC_false, lenD_sl, idxD_sl, loadD_ptr, loadD_eptr, fldD, takeD, slotD, esOf, Lx.cellsO, cells_lit, cells_agg, cells_sl, oneV, fillE, putD, srcD_sl, storeD, appD, binV, intBin, Option.map_some, cond_true, cond_false, beq_self_eq_true, Nat.reduceEqDiff, Nat.reduceLT, Nat.reduceAdd, Nat.reduceLeDiff, Bool.not_true, Bool.not_false, and_self, if_true, if_false, List.getElem?_cons_zero, List.getElem?_cons_succ, List.length_cons, List.length_nil, List.cons_append, List.nil_append, Nat.zero_add, Nat.add_zero, Int.reduceBEq, List.drop_zero, List.drop_succ_cons, List.take_succ_cons, List.take_zero, List.map_cons, List.map_nil, List.set_cons_zero, List.set_cons_succ, List.replicate_succ, List.replicate_zero, e1, len_gates, hlt, src_ints, intsE_len, mb8' hcl, hn0, hesl, hc0', wa, hrem, hjI, Int.natCast_nonneg, Int.toNat_natCast, hesj, hrem9, Int.cast_ofNat_Int, hsetset, mb8 hga]
          refine RetQ.ret rfl ?_
          rw [hb]
          exact .aggs (.cons (snp_own (by simp [esOf, intsE_len]) (fun k h => by cases h)) (.cons (bdSnpAll (X := [dI gj.kind, dI gj.var, dI gj.val, dI gj.n, .sl 5 0 1 (gj.args.length + 1) none (gj.args.length + 1)]) (by simp [esOf, gatesE_len]) hj (.cons (.lit _) (.cons (.lit _) (.cons (.lit _) (.cons (.lit _) (.cons (hown _ (gj.args ++ [n]) 5 _ (by simp [esOf, intsE]) (by simp)) .nil)))))) .nil))
        · by_cases hg0 : gj.args.length = 0
          · have hg0' : decide ((0 : Int) < (gj.args.length : Int)) = false := decide_eq_false (by omega)
            have hb : bendC w a n c = c := by
              rw [bend_neg hne, hgj, h9]
              have : gj.args.drop 1 = gj.args := by rw [List.eq_nil_of_length_eq_zero hg0]; rfl
              simp only [this, hset, Nat.reduceEqDiff, if_false, if_true]
            simp only [wp, stepL_true, doI, quietI, isCallI, wantedD, wantD, LSt.put, LSt.putO, LSt.putE, qL, effL, evD, intD, boolD, litD, litV, lk, pickC_true, pickC_false, lenD_sl, idxD_sl, loadD_ptr, loadD_eptr, fldD, takeD, slotD, esOf, Lx.cellsO, cells_agg, cells_sl, putD, storeD, appD, binV, intBin, Option.map_some, cond_true, cond_false, beq_self_eq_true, Nat.reduceEqDiff, Nat.reduceLT, Nat.reduceAdd, Nat.reduceLeDiff, Bool.not_true, Bool.not_false, and_self, if_true, if_false, List.getElem?_cons_zero, List.getElem?_cons_succ, List.length_cons, List.length_nil, List.cons_append, List.nil_append, Nat.zero_add, Nat.add_zero, Int.reduceBEq, List.drop_zero, List.drop_succ_cons, List.take_succ_cons, List.take_zero, List.set_cons_zero, List.set_cons_succ, e1, len_gates, hlt, src_ints, intsE_len, mb8' hcl, hn0, hesl, hc0', wa, hrem, hjI, Int.natCast_nonneg, Int.toNat_natCast, hesj, hrem9, Int.cast_ofNat_Int, hg0']
            refine RetQ.ret rfl ?_
            rw [hb]
            refine .aggs (.cons (snp_own (by simp [esOf, intsE_len]) (fun k h => by cases h)) (.cons ?_ .nil))
            show Snp _ true _ (gatesD true c.gates)
            exact bdSnpSame hset (X := bdG gj) (by simp [esOf, gatesE_len]) hj (.cons (.lit _) (.cons (.lit _) (.cons (.lit _) (.cons (.lit _) (.cons (hX _ rfl) .nil)))))
          · have hg0' : decide ((0 : Int) < (gj.args.length : Int)) = true := decide_eq_true (by omega)
            have hb : bendC w a n c = ⟨c.cards, c.gates.set (a % c.gates.length) { gj with args := gj.args.drop 1 }⟩ := by rw [bend_neg hne, hgj, h9]; simp
            simp only [wp, stepL_true, doI, quietI, isCallI, wantedD, wantD, LSt.put, LSt.putO, LSt.putE, qL, effL, evD, intD, boolD, litD, litV, evDOI, lk, pickC_true, pickC_false, lenD_sl, idxD_sl, loadD_ptr, loadD_eptr, fldD, takeD, slotD, slcD_sl, esOf, Lx.cellsO, cells_agg, cells_sl, putD, storeD, appD, binV, intBin, Option.map_some, cond_true, cond_false, beq_self_eq_true, Nat.reduceEqDiff, Nat.reduceLT, Nat.reduceAdd, Nat.reduceLeDiff, Bool.not_true, Bool.not_false, and_self, if_true, if_false, List.getElem?_cons_zero, List.getElem?_cons_succ, List.length_cons, List.length_nil, List.cons_append, List.nil_append, Nat.zero_add, Nat.add_zero, Int.reduceBEq, List.drop_zero, List.drop_succ_cons, List.take_succ_cons, List.take_zero, List.set_cons_zero, List.set_cons_succ, e1, len_gates, hlt, src_ints, intsE_len, mb8' hcl, hn0, hesl, hc0', wa, hrem, hjI, Int.natCast_nonneg, Int.toNat_natCast, hesj, hrem9, Int.cast_ofNat_Int, hsetset, hg0', bnd1 _ (show 0 < gj.args.length by omega)]
            refine RetQ.ret rfl ?_
            rw [hb]
            refine .aggs (.cons (snp_own (by simp [esOf, intsE_len]) (fun k h => by cases h)) (.cons (bdSnpAll (X := [dI gj.kind, dI gj.var, dI gj.val, dI gj.n, .sl 5 1 1 (gj.args.length - 1) none gj.args.length]) (by simp [esOf, gatesE_len]) hj (.cons (.lit _) (.cons (.lit _) (.cons (.lit _) (.cons (.lit _) (.cons ?_ .nil)))))) .nil))
            have := snp_own_s (L := [.cells [dU8 w, dU8 a, dI n], .cells [.sl 6 0 1 c.cards.length none c.cards.length, .sl 3 0 5 c.gates.length none c.gates.length], .cells [.sl 6 0 1 c.cards.length none c.cards.length, .sl 3 0 5 c.gates.length none c.gates.length], .grow 5 ((gatesE c.gates).set (a % c.gates.length) [dI gj.kind, dI gj.var, dI gj.val, dI gj.n, .sl 5 1 1 (gj.args.length - 1) none gj.args.length]), .cells (bdG gj), .grow 1 (intsE gj.args), .grow 1 (intsE c.cards)]) (β := 5) (s := 1) (len := gj.args.length - 1) (st := gj.args.length) (xs := gj.args) (by simp [esOf, intsE_len]) (by omega)
            rw [List.take_of_length_le (by simp)] at this
            exact this
        · have hb : bendC w a n c = ⟨c.cards.set (a % c.cards.length) n, c.gates⟩ := by rw [bend_neg hne, hgj, h9]; simp
          have hgc : (intsE c.cards)[a % c.cards.length]? = some [dI c.cards[a % c.cards.length]] := by simp [intsE, hjc]
          simp only [wp, stepL_true, doI, quietI, isCallI, wantedD, wantD, LSt.put, LSt.putO, LSt.putE, qL, effL, evD, intD, boolD, litD, litV, lk, pickC_true, pickC_false, lenD_sl, idxD_sl, loadD_ptr, fldD, takeD, slotD, esOf, Lx.cellsO, cells_lit, cells_agg, cells_sl, oneV, putD, storeD, appD, binV, intBin, Option.map_some, cond_true, cond_false, beq_self_eq_true, Nat.reduceEqDiff, Nat.reduceLT, Nat.reduceAdd, Nat.reduceLeDiff, Bool.not_true, Bool.not_false, and_self, if_true, if_false, List.getElem?_cons_zero, List.getElem?_cons_succ, List.length_cons, List.length_nil, List.cons_append, List.nil_append, Nat.zero_add, Nat.add_zero, Int.reduceBEq, List.drop_zero, List.drop_succ_cons, List.take_succ_cons, List.take_zero, List.set_cons_zero, List.set_cons_succ, e1, len_gates, hlt, src_ints, intsE_len, mb8' hcl, hn0, hesl, hc0', wa, hrem, hjI, Int.natCast_nonneg, Int.toNat_natCast, hrem9, Int.cast_ofNat_Int, hjcI, hgc, intsE_set']
          refine RetQ.ret rfl ?_
          rw [hb]
          refine .aggs (.cons (hown _ _ _ _ (by simp [esOf, intsE_len]) (by simp)) (.cons ?_ .nil))
          show Snp _ true _ (gatesD true c.gates)
          exact bdSnpSame hset (X := bdG gj) (by simp [esOf, gatesE_len]) hj (.cons (.lit _) (.cons (.lit _) (.cons (.lit _) (.cons (.lit _) (.cons (hX _ rfl) .nil)))))
        · have hb : bendC w a n c = ⟨c.cards, c.gates.take (c.gates.length - 1)⟩ := by rw [bend_neg hne, hgj, h9]; simp
          have hw1 : IntKind.i64.wrap ((c.gates.length : Int) - 1) = ((c.gates.length - 1 : Nat) : Int) := by rw [wrap64 (by omega) (by omega)]; omega
          simp only [wp, stepL_true, doI, quietI, isCallI, wantedD, wantD, LSt.put, LSt.putO, LSt.putE, qL, effL, evD, intD, boolD, litD, litV, evDOI, lk, pickC_true, pickC_false, lenD_sl, idxD_sl, loadD_ptr, fldD, takeD, slotD, slcD_sl, esOf, Lx.cellsO, cells_agg, cells_sl, putD, storeD, appD, binV, intBin, Option.map_some, cond_true, cond_false, beq_self_eq_true, Nat.reduceEqDiff, Nat.reduceLT, Nat.reduceAdd, Nat.reduceLeDiff, Bool.not_true, Bool.not_false, and_self, if_true, if_false, List.getElem?_cons_zero, List.getElem?_cons_succ, List.length_cons, List.length_nil, List.cons_append, List.nil_append, Nat.zero_add, Nat.add_zero, Int.reduceBEq, List.drop_zero, List.drop_succ_cons, List.take_succ_cons, List.take_zero, List.set_cons_zero, List.set_cons_succ, e1, len_gates, hlt, src_ints, intsE_len, mb8' hcl, hn0, hesl, hc0', wa, hrem, hjI, Int.natCast_nonneg, Int.toNat_natCast, hrem9, Int.cast_ofNat_Int, hw1, bndT _ _ (show c.gates.length - 1 ≤ c.gates.length by omega)]
          refine RetQ.ret rfl ?_
          rw [hb]
          refine .aggs (.cons (snp_own (by simp [esOf, intsE_len]) (fun k h => by cases h)) (.cons ?_ .nil))
          exact bdSnpTake hset (X := bdG gj) (by simp [esOf, gatesE_len]) hj (by omega) (.cons (.lit _) (.cons (.lit _) (.cons (.lit _) (.cons (.lit _) (.cons (hX _ rfl) .nil)))))
        · have hb : bendC w a n c = ⟨c.cards ++ [n], c.gates⟩ := by rw [bend_neg hne, hgj, h9]; simp
          simp only [wp, stepL_true, doI, quietI, isCallI, wantedD, wantD, LSt.put, LSt.putO, LSt.putE, qL, effL, evD, intD, boolD, litD, litV, lk, pickC_false, lenD_sl, idxD_sl, loadD_ptr, fldD, takeD, slotD, esOf, Lx.cellsO, cells_lit, cells_agg, cells_sl, oneV, fillE, putD, srcD_sl, storeD, appD, binV, intBin, Option.map_some, cond_true, cond_false, beq_self_eq_true, Nat.reduceEqDiff, Nat.reduceLT, Nat.reduceAdd, Nat.reduceLeDiff, Bool.not_true, Bool.not_false, and_self, if_true, if_false, List.getElem?_cons_zero, List.getElem?_cons_succ, List.length_cons, List.length_nil, List.cons_append, List.nil_append, Nat.zero_add, Nat.add_zero, Int.reduceBEq, List.drop_zero, List.drop_succ_cons, List.take_succ_cons, List.take_zero, List.map_cons, List.map_nil, List.set_cons_zero, List.set_cons_succ, List.replicate_succ, List.replicate_zero, e1, len_gates, hlt, src_ints, intsE_len, mb8' hcl, hn0, hesl, hc0', wa, hrem, hjI, Int.natCast_nonneg, Int.toNat_natCast, hrem9, Int.cast_ofNat_Int, mb8 hcl, intsE_app]
          refine RetQ.ret rfl ?_
          rw [hb]
          refine .aggs (.cons (hown _ _ _ _ (by simp [esOf, intsE_len]) (by simp)) (.cons ?_ .nil))
          show Snp _ true _ (gatesD true c.gates)
          exact bdSnpSame hset (X := bdG gj) (by simp [esOf, gatesE_len]) hj (.cons (.lit _) (.cons (.lit _) (.cons (.lit _) (.cons (.lit _) (.cons (hX _ rfl) .nil)))))
end Go.Proofs.Ytbjfkbkmoeibdaa.C
