/-
  Contracts: Derive of the reference. Conditions: none.
-/
import Derived.Test.YtbjfkbkmoeibdaaDe9
namespace Go.Proofs.Ytbjfkbkmoeibdaa.C
open Go Go.Mx Go.Lx
set_option linter.unusedSimpArgs false
set_option linter.unusedVariables false
set_option maxRecDepth 100000
def rowsD : Option (List (List Int)) → D
  | none => .tup [tblD true [], dI 6]
  | some rows => .tup [tblD true rows, dI 0]
def rfRest : C := sndC (sndC (sndC (sndC (sndC (sndC (sndC fn23.c))))))
abbrev rfE (m : Nat) : List (Nat × D) := [(2, .ptr 0 0), (10, dI m), (11, .sl 1 0 1 m (some m) m)]
abbrev rfL (c : Circ) (d : List Int) : List LB := [.cells [ints false c.cards, gatesD false c.gates], .els 1 (intsE d)]
theorem rfL_sc (c : Circ) (d : List Int) (n : Nat) : scAll n (rfL c d) := ⟨by simp [LB.sc, D.scs, D.sc, ints, gatesD], intsE_sc _ _, trivial⟩
theorem tblE_sc (out : List (List Int)) (n : Nat) : ∀ cells ∈ tblE out, D.scs n cells := by
  intro cells h
  obtain ⟨r, _, rfl⟩ := List.mem_map.1 h
  simp [D.scs, D.sc, ints]
theorem range_drop {n k : Nat} (h : k < n) : (List.range n).drop k = k :: (List.range n).drop (k + 1) := by
  rw [drop_cons (by simpa using h)]
  simp
set_option maxHeartbeats 16000000 in
theorem refRows (c : Circ) (hs : c.Small) (hv : validB c = true) (d : List Int) (hd : DOk c.gates.length d) :
    EvL mC 0 [.code (fstC (sndC (fstC (sndC rfRest)))), .blk 4, .code (sndC (sndC rfRest))] ⟨183, [(22, dI 0), (21, .lit (.slice none 0 0))] ++ rfE c.gates.length, rfL c d⟩ (RetQ [.tmp 4, .tmp 5] (rowsD (rowsOf c.gates d c.cards))) := by
  obtain ⟨hm1, hm2⟩ := validB_len hv
  obtain ⟨hn1, hn2, hn3⟩ := valid_cards hv
  simp only [rfRest, fn23, fstC, sndC, List.cons_append, List.nil_append]
  have hdl := hd.len
  refine EvL.loop (α := Nat × List (List Int)) (fun a => ⟨183, [(22, dI a.1), (21, .sl 2 0 1 a.2.length none a.2.length)] ++ rfE c.gates.length, rfL c d ++ [.grow 1 (tblE a.2)]⟩)
    (fun a => a.1 ≤ c.cards.length ∧ a.2.length = a.1 ∧ optGo (fun v : Nat => rowOf c.gates d v (c.cards.getD v 0).toNat) a.2 ((List.range c.cards.length).drop a.1) = rowsOf c.gates d c.cards) (fun a => c.cards.length - a.1) (0, [])
    ((Weak.ghost (k := 21) (n := 1) (by simp) (by simp [lk])).trans (Weak.sub (by simp [envSub, lk]))) ⟨by simp, rfl, rfl⟩ ?_
  rintro ⟨v, out⟩ ⟨p1, p2, p3⟩
  simp only at p1 p2 p3
  refine wp_sound ?_
  by_cases hvn : v < c.cards.length
  · have hlt : decide ((v : Int) < (c.cards.length : Int)) = true := decide_eq_true (by omega)
    have hwv : IntKind.i64.wrap ((v : Int) + 1) = ((v + 1 : Nat) : Int) := by rw [wrap64 (by omega) (by omega)]; rfl
    obtain ⟨c1, c2⟩ := hn3 _ (List.getElem_mem hvn)
    have hcd : c.cards.getD v 0 = c.cards[v] := by rw [List.getD_eq_getElem?_getD, List.getElem?_eq_getElem hvn]; rfl
    rw [range_drop hvn, optGo, hcd] at p3
    have hidc : ∀ L, idxD L 1 (v : Int) (ints false c.cards) = some (.fptr false [dI c.cards[v]]) := fun L => idx_ints L false hvn
    generalize c.cards[v] = kc at *
    simp only [wp, stepL_true, doI, quietI, isCallI, wantedD, LSt.put, LSt.putO, qL, evD, boolD, litD, litV, lk, pickC_true, loadD_ptr, fldD, takeD, binV, intBin, Option.map_some, cond_true, beq_self_eq_true, Nat.reduceEqDiff, Nat.reduceLT, Bool.not_false, if_true, if_false, List.getElem?_cons_zero, List.cons_append, List.nil_append, Nat.add_zero, rfE, rfL, len_ints, hlt]
    refine EvL.loop (α := Nat × List Int) (fun a => ⟨183, [(24, dI a.1), (23, .sl 3 0 1 a.2.length none a.2.length), (22, dI v), (21, .sl 2 0 1 out.length none out.length)] ++ rfE c.gates.length, rfL c d ++ [.grow 1 (tblE out), .grow 1 (intsE a.2)]⟩)
      (fun a => a.1 ≤ kc.toNat ∧ a.2.length = a.1 ∧ optGo (fun x : Nat => sumGo 0 (isPartsGo v x [] c.gates d)) a.2 ((List.range kc.toNat).drop a.1) = rowOf c.gates d v kc.toNat) (fun a => kc.toNat - a.1) (0, [])
      ((Weak.ghost (k := 23) (n := 1) (by simp) (by simp [lk])).trans (Weak.sub (by simp [envSub, lk]))) ⟨by simp, rfl, rfl⟩ ?_
    rintro ⟨x, row⟩ ⟨r1, r2, r3⟩
    simp only at r1 r2 r3
    refine wp_sound ?_
    by_cases hxk : x < kc.toNat
    · have hltx : decide ((x : Int) < kc) = true := decide_eq_true (by omega)
      have hwx : IntKind.i64.wrap ((x : Int) + 1) = ((x + 1 : Nat) : Int) := by rw [wrap64 (by omega) (by omega)]; rfl
      rw [range_drop hxk, optGo] at r3
      simp only [wp, stepL_true, doI, quietI, isCallI, wantedD, LSt.put, LSt.putO, qL, evD, intD, boolD, litD, litV, lk, pickC_true, loadD_ptr, loadD_fptr, fldD, takeD, binV, intBin, Option.map_some, cond_true, beq_self_eq_true, Nat.reduceEqDiff, Nat.reduceLT, Bool.not_false, if_true, if_false, List.getElem?_cons_zero, List.cons_append, List.nil_append, Nat.add_zero, rfE, rfL, hidc, hltx]
      refine EvL.loop (α := Nat × List Int) (fun a => ⟨183, [(26, dI a.1), (25, .sl 4 0 1 a.2.length none a.2.length), (24, dI x), (23, .sl 3 0 1 row.length none row.length), (22, dI v), (21, .sl 2 0 1 out.length none out.length)] ++ rfE c.gates.length, rfL c d ++ [.grow 1 (tblE out), .grow 1 (intsE row), .grow 1 (intsE a.2)]⟩)
        (fun a => a.1 ≤ c.gates.length ∧ a.2.length ≤ a.1 ∧ isPartsGo v x a.2 (c.gates.drop a.1) (d.drop a.1) = isPartsGo v x [] c.gates d) (fun a => c.gates.length - a.1) (0, [])
        ((Weak.ghost (k := 25) (n := 1) (by simp) (by simp [lk])).trans (Weak.sub (by simp [envSub, lk]))) ⟨by simp, by simp, rfl⟩ ?_
      rintro ⟨i, parts⟩ ⟨q1, q2, q3⟩
      simp only at q1 q2 q3
      refine wp_sound ?_
      by_cases hi : i < c.gates.length
      · have hlti : decide ((i : Int) < (c.gates.length : Int)) = true := decide_eq_true (by omega)
        have hwi : IntKind.i64.wrap ((i : Int) + 1) = ((i + 1 : Nat) : Int) := by rw [wrap64 (by omega) (by omega)]; rfl
        have hid : i < d.length := by omega
        have hltp : ((i : Int) < (c.gates.length : Int)) = True := eq_true (by omega)
        have hgd : (intsE d)[i]? = some [dI d[i]] := intsE_at (List.getElem?_eq_getElem hid)
        have hidx : ∀ L, idxD L 5 (i : Int) (gatesD false c.gates) = some (.fptr false (gateC false c.gates[i])) := fun L => idx_gates L false hi
        rw [drop_cons hi, drop_cons hid, isPartsGo] at q3
        generalize c.gates[i] = g at *
        generalize d[i] = y at *
        have hgc : gateC false g = [dI g.kind, dI g.var, dI g.val, dI g.n, ints false g.args] := rfl
        have skip : ¬ (g.kind = 2 ∧ g.var = (v : Int) ∧ g.val = (x : Int)) → isPartsGo v x parts (c.gates.drop (i + 1)) (d.drop (i + 1)) = isPartsGo v x [] c.gates d := fun h => by rw [if_neg h] at q3; exact q3
        have wsk : ∀ {E : List (Nat × D)} {X : List LB}, envOk E 5 ([(26, dI (i + 1 : Nat)), (25, .sl 4 0 1 parts.length none parts.length), (24, dI x), (23, .sl 3 0 1 row.length none row.length), (22, dI v), (21, .sl 2 0 1 out.length none out.length)] ++ rfE c.gates.length) →
            Weak 0 ⟨183, E, [LB.cells [ints false c.cards, gatesD false c.gates], .els 1 (intsE d), .grow 1 (tblE out), .grow 1 (intsE row), .grow 1 (intsE parts)] ++ X⟩ ⟨183, [(26, dI (i + 1 : Nat)), (25, .sl 4 0 1 parts.length none parts.length), (24, dI x), (23, .sl 3 0 1 row.length none row.length), (22, dI v), (21, .sl 2 0 1 out.length none out.length)] ++ rfE c.gates.length, rfL c d ++ [.grow 1 (tblE out), .grow 1 (intsE row), .grow 1 (intsE parts)]⟩ := fun he =>
          Weak.cut (Nat.zero_le _) he ⟨by simp [LB.sc, D.scs, D.sc, ints, gatesD], intsE_sc _ _, tblE_sc _ _, intsE_sc _ _, intsE_sc _ _, trivial⟩
        cases t1 : (g.kind == 2)
        · simp only [wp, stepL_true, stepL_false, doI, quietI, isCallI, wantedD, wantD, undefD, LSt.put, LSt.putO, LSt.putE, qL, effL, evD, intD, boolD, litD, litV, lk, pickC_true, pickC_false, loadD_ptr, loadD_fptr, fldD, takeD, slotD, Lx.cellsO, cells_agg, putD, storeD, binV, intBin, Option.map_some, cond_true, beq_self_eq_true, Nat.reduceEqDiff, Nat.reduceLT, Nat.reduceAdd, Nat.reduceLeDiff, Bool.not_false, and_self, if_true, if_false, List.getElem?_cons_zero, List.getElem?_cons_succ, List.length_cons, List.length_nil, List.cons_append, List.nil_append, Nat.zero_add, Nat.add_zero, List.drop_zero, List.drop_succ_cons, List.take_succ_cons, List.take_zero, List.map_cons, List.map_nil, List.set_cons_zero, List.set_cons_succ, rfE, rfL, hlti, hidx, hgc, t1, hwi]
          exact ⟨(i + 1, parts), ⟨by simp; omega, by simp; omega, skip (by simp at t1; omega)⟩, by simp; omega, wsk (by simp [envOk, lk, D.sc])⟩
        cases t2 : (g.var == (v : Int))
        · simp only [wp, stepL_true, stepL_false, doI, quietI, isCallI, wantedD, wantD, undefD, LSt.put, LSt.putO, LSt.putE, qL, effL, evD, intD, boolD, litD, litV, lk, pickC_true, pickC_false, loadD_ptr, loadD_fptr, fldD, takeD, slotD, Lx.cellsO, cells_agg, putD, storeD, binV, intBin, Option.map_some, cond_true, beq_self_eq_true, Nat.reduceEqDiff, Nat.reduceLT, Nat.reduceAdd, Nat.reduceLeDiff, Bool.not_true, Bool.not_false, and_self, if_true, if_false, List.getElem?_cons_zero, List.getElem?_cons_succ, List.length_cons, List.length_nil, List.cons_append, List.nil_append, Nat.zero_add, Nat.add_zero, List.drop_zero, List.drop_succ_cons, List.take_succ_cons, List.take_zero, List.map_cons, List.map_nil, List.set_cons_zero, List.set_cons_succ, rfE, rfL, hlti, hidx, hgc, t1, t2, hwi]
          exact ⟨(i + 1, parts), ⟨by simp; omega, by simp; omega, skip (by simp at t2; omega)⟩, by simp; omega, wsk (by simp [envOk, lk, D.sc])⟩
        cases t3 : (g.val == (x : Int))
        · simp only [wp, stepL_true, doI, quietI, isCallI, wantedD, wantD, LSt.put, LSt.putO, LSt.putE, qL, effL, evD, intD, boolD, litD, litV, lk, pickC_true, pickC_false, loadD_ptr, loadD_fptr, fldD, takeD, slotD, Lx.cellsO, cells_agg, putD, storeD, binV, intBin, Option.map_some, cond_true, beq_self_eq_true, Nat.reduceEqDiff, Nat.reduceLT, Nat.reduceAdd, Nat.reduceLeDiff, Bool.not_true, Bool.not_false, and_self, if_true, if_false, List.getElem?_cons_zero, List.getElem?_cons_succ, List.length_cons, List.length_nil, List.cons_append, List.nil_append, Nat.zero_add, Nat.add_zero, List.drop_zero, List.drop_succ_cons, List.take_succ_cons, List.take_zero, List.map_cons, List.map_nil, List.set_cons_zero, List.set_cons_succ, rfE, rfL, hlti, hidx, hgc, t1, t2, t3, hwi]
          exact ⟨(i + 1, parts), ⟨by simp; omega, by simp; omega, skip (by simp at t3; omega)⟩, by simp; omega, wsk (by simp [envOk, lk, D.sc])⟩
        · rw [if_pos (by simp at t1 t2 t3; exact ⟨t1, t2, t3⟩)] at q3
          simp only [wp, stepL_true, doI, quietI, isCallI, wantedD, wantD, LSt.put, LSt.putO, LSt.putE, qL, effL, evD, intD, boolD, litD, litV, lk, pickC_true, idxD_sl, loadD_ptr, loadD_eptr, loadD_fptr, fldD, takeD, slotD, esOf, Lx.cellsO, cells_lit, cells_agg, oneV, fillE, putD, srcD_sl, storeD, appD, binV, intBin, Option.map_some, cond_true, beq_self_eq_true, Nat.reduceEqDiff, Nat.reduceLT, Nat.reduceAdd, Nat.reduceLeDiff, Bool.not_true, Bool.not_false, and_self, if_true, if_false, List.getElem?_cons_zero, List.getElem?_cons_succ, List.length_cons, List.length_nil, List.cons_append, List.nil_append, Nat.zero_add, Nat.add_zero, decide_true, List.drop_zero, List.drop_succ_cons, List.take_succ_cons, List.take_zero, List.map_cons, List.map_nil, List.set_cons_zero, List.set_cons_succ, List.replicate_succ, List.replicate_zero, rfE, rfL, hidx, hgc, t1, t2, t3, hltp, Int.natCast_nonneg, Int.toNat_natCast, intsE_len, hdl, hgd, mb8 (show parts.length < 1000000 by omega), intsE_app, hwi]
          refine ⟨(i + 1, parts ++ [y]), ⟨by simp; omega, by simp; omega, q3⟩, by simp; omega, ?_⟩
          refine Weak.cut (L := [.cells [ints false c.cards, gatesD false c.gates], .els 1 (intsE d), .grow 1 (tblE out), .grow 1 (intsE row), .grow 1 (intsE (parts ++ [y]))]) (R' := [_, _]) (Nat.zero_le _) ?_ ⟨by simp [LB.sc, D.scs, D.sc, ints, gatesD], intsE_sc _ _, tblE_sc _ _, intsE_sc _ _, intsE_sc _ _, trivial⟩
          simp [envOk, lk, D.sc]
      · have hlti : decide ((i : Int) < (c.gates.length : Int)) = false := decide_eq_false (by omega)
        rw [List.drop_of_length_le (by omega), isPartsGo] at q3
        · obtain ⟨hb1, hb2⟩ := isPartsGo_bnd (v := v) (x := x) c.gates d [] hd.bnd (fun y hy => by simp at hy)
          rw [← q3] at hb1 hb2 r3
          simp only [List.length_nil] at hb2
          simp only [wp, stepL_true, doI, quietI, isCallI, wantedD, LSt.put, LSt.putO, LSt.putE, qL, effL, evD, boolD, litD, litV, lk, pickC_false, esOf, Lx.cellsO, cells_sl, fillE, srcD_sl, appD, binV, intBin, Option.map_some, cond_true, beq_self_eq_true, Nat.reduceEqDiff, Nat.reduceLT, Nat.reduceAdd, Nat.reduceLeDiff, Bool.not_false, true_and, and_self, if_true, if_false, List.getElem?_cons_zero, List.getElem?_cons_succ, List.length_cons, List.length_nil, List.cons_append, List.nil_append, Nat.zero_add, List.drop_zero, List.take_succ_cons, List.take_zero, List.map_cons, List.map_nil, List.set_cons_zero, List.set_cons_succ, List.replicate_succ, List.replicate_zero, rfE, rfL, hlti]
          refine EvL.fn (Sum_ok parts (by omega) (fun y hy => by have := hb1 y hy; omega)) rfl rfl (.cons (snp_own (by simp [esOf, intsE_len]) (fun k h => by cases h)) .nil) ?_
          cases hsum : sumGo 0 parts with
          | none =>
            rw [hsum] at r3
            have hro : rowOf c.gates d v kc.toNat = none := r3.symm
            rw [hro] at p3
            simp only [wp, stepL_true, doI, quietI, isCallI, wantedD, LSt.put, LSt.putO, qL, evD, boolD, litD, litV, lk, pickC_true, unV, Nat.reduceEqDiff, Nat.reduceLT, Bool.not_false, if_true, if_false, List.getElem?_cons_zero, List.getElem?_cons_succ, Option.isSome_none, Option.getD_none]
            rw [← p3]
            exact RetQ.ret rfl (.tups (.cons (.nil 1) (.cons (.lit _) .nil)))
          | some s =>
            rw [hsum] at r3
            simp only [wp, stepL_true, doI, quietI, isCallI, wantedD, LSt.put, LSt.putO, LSt.putE, qL, effL, evD, boolD, litD, litV, lk, pickC_false, esOf, Lx.cellsO, cells_lit, oneV, fillE, srcD_sl, appD, binV, intBin, unV, Option.map_some, cond_true, beq_self_eq_true, Nat.reduceEqDiff, Nat.reduceLT, Nat.reduceAdd, Nat.reduceLeDiff, Bool.not_true, Bool.not_false, and_self, if_true, if_false, List.getElem?_cons_zero, List.getElem?_cons_succ, List.length_cons, List.length_nil, List.cons_append, List.nil_append, Nat.zero_add, List.drop_zero, List.take_succ_cons, List.take_zero, List.map_cons, List.map_nil, List.set_cons_zero, List.set_cons_succ, List.replicate_succ, List.replicate_zero, Option.isSome_some, Option.getD_some, intsE_len, mb8 (show row.length < 1000000 by omega), intsE_app, hwx]
            refine ⟨(x + 1, row ++ [s]), ⟨by simp; omega, by simp; omega, r3⟩, by simp; omega, ?_⟩
            refine Weak.cut (L := [.cells [ints false c.cards, gatesD false c.gates], .els 1 (intsE d), .grow 1 (tblE out), .grow 1 (intsE (row ++ [s]))]) (R' := [_, _]) (Nat.zero_le _) ?_ ⟨by simp [LB.sc, D.scs, D.sc, ints, gatesD], intsE_sc _ _, tblE_sc _ _, intsE_sc _ _, trivial⟩
            simp [envOk, lk, D.sc]
        · intro g gs y ds h; cases h
    · have hltx : decide ((x : Int) < kc) = false := decide_eq_false (by omega)
      rw [List.drop_of_length_le (by simp; omega), optGo] at r3
      rw [← r3] at p3
      simp only [wp, stepL_true, doI, quietI, isCallI, wantedD, LSt.put, LSt.putO, LSt.putE, qL, effL, evD, intD, boolD, litD, litV, lk, pickC_false, loadD_ptr, loadD_fptr, fldD, takeD, esOf, Lx.cellsO, cells_sl, fillE, srcD_sl, appD, binV, intBin, Option.map_some, cond_true, beq_self_eq_true, Nat.reduceEqDiff, Nat.reduceLT, Nat.reduceAdd, Nat.reduceLeDiff, Bool.not_false, and_self, if_true, if_false, List.getElem?_cons_zero, List.getElem?_cons_succ, List.length_cons, List.length_nil, List.cons_append, List.nil_append, Nat.zero_add, Nat.add_zero, List.drop_zero, List.take_succ_cons, List.take_zero, List.map_cons, List.map_nil, List.set_cons_zero, List.set_cons_succ, List.replicate_succ, List.replicate_zero, rfE, rfL, hidc, hltx, tblE_len, mb24 (show out.length < 1000000 by omega), hwv]
      refine ⟨(v + 1, out ++ [row]), ⟨by simp; omega, by simp; omega, p3⟩, by simp; omega, ?_⟩
      refine tblW rfl ⟨by simp [LB.sc, D.scs, D.sc, ints, gatesD], by simp [LB.sc, D.scs, D.sc, ints, gatesD], by simp [LB.av, D.avs, D.av, ints, gatesD]⟩ ⟨intsE_sc _ _, intsE_sc _ _, ?_⟩ ?_ ?_ ?_
      · intro cells h
        obtain ⟨z, _, rfl⟩ := List.mem_map.1 h
        exact ⟨trivial, trivial⟩
      · simp [envOk, lk, D.sc]
      · simp [envOk, lk, D.sc]
      · simp [envAv, D.av]
  · have hlt : decide ((v : Int) < (c.cards.length : Int)) = false := decide_eq_false (by omega)
    rw [List.drop_of_length_le (by simp; omega), optGo] at p3
    simp only [wp, stepL_true, doI, quietI, isCallI, wantedD, LSt.put, LSt.putO, qL, evD, boolD, litD, litV, lk, pickC_false, loadD_ptr, fldD, takeD, binV, intBin, Option.map_some, cond_true, beq_self_eq_true, Nat.reduceEqDiff, Nat.reduceLT, Bool.not_false, if_true, if_false, List.getElem?_cons_zero, List.cons_append, List.nil_append, Nat.add_zero, rfE, rfL, len_ints, hlt]
    rw [← p3]
    exact RetQ.ret rfl (.tups (.cons (snp_own_map (f := fun r => [ints true r]) (by simp [esOf, tblE]) (fun k h => by cases h) fun r _ => .cons (.same _ _ rfl) .nil) (.cons (.lit _) .nil)))
end Go.Proofs.Ytbjfkbkmoeibdaa.C
namespace Go.Proofs.Ytbjfkbkmoeibdaa.C
open Go Go.Mx Go.Lx
set_option linter.unusedSimpArgs false
set_option linter.unusedVariables false
set_option maxRecDepth 100000
theorem rParts_len {vals : List Int} {i : Int} : ∀ (gs : List Gate) (d acc r : List Int), rPartsGo vals i acc gs d = some r → r.length ≤ acc.length + gs.length
  | [], d, acc, r, h => by simp only [rPartsGo, Option.some.injEq] at h; subst h; simp
  | g :: gs, [], acc, r, h => by simp only [rPartsGo, Option.some.injEq] at h; subst h; simp
  | g :: gs, x :: d, acc, r, h => by
    rw [rPartsGo] at h
    split at h
    · have := rParts_len gs d acc r h; simp; omega
    · split at h
      · cases h
      · have := rParts_len gs d _ r h; simp at this ⊢; omega
theorem getWithout {vals : List Int} {n : Int} {l : List Int} (h : ∀ a ∈ l, 0 ≤ a ∧ a < vals.length) : ∀ a ∈ withoutR l n, 0 ≤ a ∧ a < vals.length := fun a ha => h a (mem_without ha)
theorem ref_zero {c : Circ} {input : List Int} (h : (refR c input).2 = 0) : validB c = true ∧ inputB c.cards input = true ∧ ∃ vals, valuesGo input [] c.gates = some vals := by
  unfold refR at h
  cases hv : validB c with
  | false => rw [hv] at h; simp at h
  | true =>
    rw [hv] at h
    cases hi : inputB c.cards input with
    | false => rw [hi] at h; simp at h
    | true =>
      rw [hi] at h
      cases hr : valuesGo input [] c.gates with
      | none => rw [hr] at h; simp at h
      | some vals => exact ⟨rfl, rfl, vals, rfl⟩
theorem ref_err {c : Circ} {input : List Int} (h : (refR c input).2 ≠ 0) : refDeriveR c input = ([], (refR c input).2) := by
  unfold refR refDeriveR at *
  cases hv : validB c with
  | false => simp
  | true =>
    rw [hv] at h
    cases hi : inputB c.cards input with
    | false => simp
    | true =>
      rw [hi] at h
      cases hr : valuesGo input [] c.gates with
      | none => simp
      | some vals => rw [hr] at h; simp at h
theorem values_bnd {cards input : List Int} : ∀ (gs : List Gate) (vals r : List Int) (i : Int), gatesB cards i gs = true → (∀ v ∈ vals, 0 ≤ v ∧ v < 4611686018427387904) → valuesGo input vals gs = some r → ∀ v ∈ r, 0 ≤ v ∧ v < 4611686018427387904
  | [], vals, r, i, _, hv, h => by simp only [valuesGo, Option.some.injEq] at h; subst h; exact hv
  | g :: gs, vals, r, i, hg, hv, h => by
    rw [gatesB, Bool.and_eq_true] at hg
    rw [valuesGo] at h
    split at h
    · cases h
    · rename_i x hx
      refine values_bnd gs _ r _ hg.2 (fun v hvv => ?_) h
      rcases List.mem_append.1 hvv with hvv | hvv
      · exact hv v hvv
      · simp at hvv; subst hvv; exact gateR_bnd hg.1 hv hx
theorem snp_all {L : List LB} {β : Nat} {xs : List Int} {cap : Option Nat} {k : Nat} (h : esOf L β 1 k = some (intsE xs)) (hk : k = xs.length) (hc : ∀ j, cap = some j → xs.length ≤ j) : Snp L false (.sl β 0 1 k cap k) (ints false xs) := by
  subst hk
  exact snp_own h hc
set_option maxHeartbeats 16000000 in
theorem RefDerive_ok (c : Circ) (hs : c.Small) (input : List Int) (hl : input.length < 1000000) : Lx.Fn mC 23 [.agg (circC false c), ints false input] (.tup [tblD true (refDeriveR c input).1, dI (refDeriveR c input).2]) := by
  refine Lx.Fn.intro has23 (by simp [fn23]) (fun h => by cases h) ?_
  have hcirc : circC false c = [ints false c.cards, gatesD false c.gates] := rfl
  have hrs : fn23.rs = [.tmp 4, .tmp 5] := rfl
  have hrows := fun (d : List Int) (hv : validB c = true) hd => refRows c hs hv d hd
  simp only [rfRest, fn23, fstC, sndC] at hrows
  simp only [wp, stepL_true, doI, quietI, isCallI, wantedD, LSt.put, LSt.putO, LSt.putE, qL, effL, evD, lk, loadD_ptr, takeD, slotD, Lx.cellsO, cells_agg, argsE, Nat.reduceEqDiff, Nat.reduceLT, Nat.reduceAdd, Nat.reduceLeDiff, Bool.not_false, if_true, if_false, List.getElem?_cons_zero, List.length_cons, List.length_nil, List.nil_append, Nat.zero_add, List.drop_zero, List.take_succ_cons, List.take_zero, reduceCtorEq, fn23, hcirc]
  refine EvL.fn (RefEval_ok c hs input hl) rfl rfl (.cons (snp_circ _ _ _) (.cons (snp_ints _ _ _) .nil)) ?_
  cases hz : ((refR c input).2 == 0)
  · have hne : (refR c input).2 ≠ 0 := by simpa using hz
    rw [ref_err hne]
    simp only [wp, stepL_true, doI, quietI, isCallI, wantedD, LSt.put, LSt.putO, qL, evD, boolD, litD, litV, lk, pickC_true, binV, intBin, Option.map_some, cond_true, beq_self_eq_true, Nat.reduceEqDiff, Nat.reduceLT, Bool.not_false, if_true, if_false, List.getElem?_cons_zero, List.getElem?_cons_succ, reduceCtorEq, bneq, hz]
    exact RetQ.ret rfl (.tups (.cons (.nil 1) (.cons (.lit _) .nil)))
  obtain ⟨hv, hi, vals, hvals⟩ := ref_zero (by simpa using hz)
  have hgB : gatesB c.cards 0 c.gates = true := by
    have := hv
    unfold validB at this
    simp only [Bool.and_eq_true] at this
    exact this.2.2.2
  have hvb := values_bnd c.gates [] vals 0 hgB (fun v h => by simp at h) hvals
  have hvl := valuesGo_len _ _ _ _ hvals
  simp only [List.length_nil, Nat.zero_add] at hvl
  have hres : refDeriveR c input = (match refDGo vals c.gates (c.gates.length - 1) (slope0 c.gates.length) with
      | none => ([], 6)
      | some d => match rowsOf c.gates d c.cards with
        | none => ([], 6)
        | some rows => (rows, 0)) := by
    unfold refDeriveR
    rw [hv, hi, hvals]
    rfl
  obtain ⟨hm1, hm2⟩ := validB_len hv
  have hvalid : ∀ {j : Nat} (hj : j < c.gates.length), gateB c.cards j c.gates[j] = true := fun {j} hj => validB_get hv j hj
  have hargs := hs.args
  have hk8 : ((c.gates.length : Int) * ((8 : Nat) : Int)) ≤ (maxBytes : Int) := by show _ ≤ (140737488355328 : Int); omega
  have hw3 : IntKind.i64.wrap ((c.gates.length : Int) - 1) = ((c.gates.length - 1 : Nat) : Int) := by rw [wrap64 (by omega) (by omega)]; omega
  have hw5 : IntKind.i64.wrap ((c.gates.length : Int) - 2) = ((c.gates.length - 1 : Nat) : Int) - 1 := by rw [wrap64 (by omega) (by omega)]; omega
  have hltm : (((c.gates.length - 1 : Nat) : Int) < (c.gates.length : Int)) = True := eq_true (by omega)
  have hz0 : (intsE (List.replicate c.gates.length 0))[c.gates.length - 1]? = some [dI 0] := intsE_at (by rw [List.getElem?_replicate, if_pos (by omega)])
  simp only [wp, stepL_true, doI, quietI, isCallI, wantedD, LSt.put, LSt.putO, qL, evD, boolD, litD, litV, lk, pickC_false, loadD_ptr, takeD, slotD, binV, intBin, Option.map_some, cond_true, beq_self_eq_true, Nat.reduceEqDiff, Nat.reduceLT, Nat.reduceAdd, Nat.reduceLeDiff, Bool.not_true, Bool.not_false, if_true, if_false, List.getElem?_cons_zero, List.getElem?_cons_succ, List.length_cons, List.length_nil, Nat.zero_add, List.drop_zero, List.take_succ_cons, List.take_zero, reduceCtorEq, bneq, hz]
  refine EvL.fn (Values_ok c hs input hl hv hi) rfl rfl (.cons (snp_circ _ _ _) (.cons (snp_ints _ _ _) .nil)) ?_
  rw [hvals]
  simp only [wp, stepL_true, doI, quietI, isCallI, wantedD, LSt.put, LSt.putO, LSt.putE, qL, effL, evD, intD, litD, litV, lk, idxD_sl, loadD_ptr, fldD, takeD, esOf, Lx.cellsO, cells_lit, oneV, putD, storeD, binV, intBin, Option.map_some, cond_true, beq_self_eq_true, Nat.reduceEqDiff, Nat.reduceLT, Nat.reduceLeDiff, Bool.not_false, and_self, if_true, if_false, List.getElem?_cons_zero, List.getElem?_cons_succ, List.length_cons, List.length_nil, List.cons_append, List.nil_append, Nat.zero_add, List.drop_zero, List.drop_succ_cons, List.take_zero, List.map_cons, List.map_nil, List.set_cons_zero, List.set_cons_succ, reduceCtorEq, valuesD, len_gates, Int.natCast_nonneg, Int.le_refl, hk8, Int.toNat_natCast, hw3, hw5, intsE_rep, intsE_len, List.length_replicate, hltm, hz0, intsE_set2]
  refine EvL.loop (α := Nat × List Int) (fun a => ⟨183, [(8, ints true vals), (12, dI ((a.1 : Int) - 1))] ++ rfE c.gates.length, rfL c a.2⟩)
    (fun a => a.1 ≤ c.gates.length - 1 ∧ DOk c.gates.length a.2 ∧ refDGo vals c.gates a.1 a.2 = refDGo vals c.gates (c.gates.length - 1) (slope0 c.gates.length)) (fun a => a.1) (c.gates.length - 1, slope0 c.gates.length)
    (Weak.sub (by simp [envSub, lk])) ⟨Nat.le_refl _, slope0_dok _, rfl⟩ ?_
  rintro ⟨j, d⟩ ⟨p1, p2, p3⟩
  simp only at p1 p2 p3
  refine wp_sound ?_
  have hdl := p2.len
  cases j with
  | zero =>
    have hge : decide ((0 : Int) ≤ ((0 : Nat) : Int) - 1) = false := by decide
    rw [refDGo] at p3
    simp only [wp, stepL_true, doI, quietI, isCallI, wantedD, LSt.put, LSt.putO, qL, evD, boolD, litD, litV, lk, pickC_false, binV, intBin, Option.map_some, cond_true, beq_self_eq_true, Nat.reduceEqDiff, Nat.reduceLT, Bool.not_false, if_true, if_false, List.cons_append, List.nil_append, rfE, rfL, hge]
    refine EvL.mono (EvL.weak (Weak.sub ?_) (hrows d hv p2)) ?_
    · simp [envSub, lk]
    · intro x S' h
      have e : (.tup [tblD true (refDeriveR c input).1, dI (refDeriveR c input).2] : D) = rowsD (rowsOf c.gates d c.cards) := by
        rw [hres, ← p3]
        simp only
        cases rowsOf c.gates d c.cards <;> rfl
      rw [e]
      exact h
  | succ j =>
    have hj : j < c.gates.length := by omega
    have hcast : (((j + 1 : Nat) : Int) - 1) = (j : Int) := by omega
    have hge : decide ((0 : Int) ≤ (j : Int)) = true := by simp
    have hw4 : IntKind.i64.wrap ((j : Int) - 1) = (j : Int) - 1 := wrap64 (by omega) (by omega)
    have hwj : IntKind.i64.wrap ((j : Int) + 1) = ((j + 1 : Nat) : Int) := by rw [wrap64 (by omega) (by omega)]; rfl
    rw [refDGo] at p3
    simp only [wp, stepL_true, doI, quietI, isCallI, wantedD, LSt.put, LSt.putO, qL, evD, boolD, litD, litV, lk, pickC_true, binV, intBin, Option.map_some, cond_true, beq_self_eq_true, Nat.reduceEqDiff, Nat.reduceLT, Bool.not_false, if_true, if_false, List.cons_append, List.nil_append, rfE, rfL, hcast, hge, hwj]
    refine EvL.loop (α := Nat × List Int) (fun a => ⟨183, [(8, ints true vals), (12, dI j), (13, .sl 2 0 1 a.2.length none a.2.length), (14, dI a.1)] ++ rfE c.gates.length, rfL c d ++ [.grow 1 (intsE a.2)]⟩)
      (fun a => j + 1 ≤ a.1 ∧ a.1 ≤ c.gates.length ∧ a.2.length ≤ a.1 ∧ (∀ x ∈ a.2, 0 ≤ x ∧ x < 4611686018427387904) ∧ rPartsGo vals j a.2 (c.gates.drop a.1) (d.drop a.1) = rPartsGo vals j [] (c.gates.drop (j + 1)) (d.drop (j + 1))) (fun a => c.gates.length - a.1) (j + 1, [])
      ((Weak.ghost (k := 13) (n := 1) (by simp) (by simp [lk])).trans (Weak.sub (by simp [envSub, lk]))) ⟨Nat.le_refl _, by simp; omega, by simp, fun x hx => by simp at hx, rfl⟩ ?_
    rintro ⟨k, acc⟩ ⟨q0, q1, q2, q3, q4⟩
    simp only at q0 q1 q2 q3 q4
    refine wp_sound ?_
    by_cases hk : k < c.gates.length
    · have hlt : decide ((k : Int) < (c.gates.length : Int)) = true := decide_eq_true (by omega)
      have hltp : ((k : Int) < (c.gates.length : Int)) = True := eq_true (by omega)
      have hwk : IntKind.i64.wrap ((k : Int) + 1) = ((k + 1 : Nat) : Int) := by rw [wrap64 (by omega) (by omega)]; rfl
      have hkd : k < d.length := by omega
      have hgd : (intsE d)[k]? = some [dI d[k]] := intsE_at (List.getElem?_eq_getElem hkd)
      have hdb := p2.bnd _ (List.getElem_mem hkd)
      have hidx : ∀ L, idxD L 5 (k : Int) (gatesD false c.gates) = some (.fptr false (gateC false c.gates[k])) := fun L => idx_gates L false hk
      have hgv := hvalid hk
      have hga := hargs _ (List.getElem_mem hk)
      rw [drop_cons hk, drop_cons hkd, rPartsGo] at q4
      generalize c.gates[k] = g at *
      generalize d[k] = y at *
      have hgc : gateC false g = [dI g.kind, dI g.var, dI g.val, dI g.n, ints false g.args] := rfl
      have hain : (g.kind = 3 ∨ g.kind = 4) → ∀ a ∈ g.args, 0 ≤ a ∧ a < vals.length := by
        intro hkk a ha
        rcases gate_kinds hgv with ⟨e, _⟩ | ⟨e, _⟩ | ⟨_, h1⟩
        · omega
        · omega
        · have := h1 a ha; omega
      have hwl : (withoutR g.args j).length ≤ g.args.length := List.length_filter_le _ _
      have wsk : ∀ {E : List (Nat × D)} {X : List LB} {r : List Int}, envOk E 3 ([(8, ints true vals), (12, dI j), (13, .sl 2 0 1 r.length none r.length), (14, dI (k + 1 : Nat))] ++ rfE c.gates.length) →
          Weak 0 ⟨183, E, [LB.cells [ints false c.cards, gatesD false c.gates], .els 1 (intsE d), .grow 1 (intsE r)] ++ X⟩ ⟨183, [(8, ints true vals), (12, dI j), (13, .sl 2 0 1 r.length none r.length), (14, dI (k + 1 : Nat))] ++ rfE c.gates.length, rfL c d ++ [.grow 1 (intsE r)]⟩ := fun he =>
        Weak.cut (Nat.zero_le _) he ⟨by simp [LB.sc, D.scs, D.sc, ints, gatesD], intsE_sc _ _, intsE_sc _ _, trivial⟩
      simp only [wp, stepL_true, doI, quietI, isCallI, wantedD, LSt.put, LSt.putO, LSt.putE, qL, effL, evD, intD, boolD, litD, litV, lk, pickC_true, loadD_ptr, loadD_fptr, fldD, takeD, slotD, Lx.cellsO, cells_agg, putD, storeD, binV, intBin, Option.map_some, cond_true, beq_self_eq_true, Nat.reduceEqDiff, Nat.reduceLT, Nat.reduceAdd, Nat.reduceLeDiff, Bool.not_true, Bool.not_false, and_self, if_true, if_false, List.getElem?_cons_zero, List.getElem?_cons_succ, List.length_cons, List.length_nil, List.cons_append, List.nil_append, Nat.zero_add, List.drop_zero, List.drop_succ_cons, List.take_succ_cons, List.take_zero, List.map_cons, List.map_nil, List.set_cons_zero, List.set_cons_succ, rfE, rfL, hlt, hidx, hgc, len_ints]
      refine EvL.fn (without_ok g.args j hga) rfl rfl (.cons (snp_ints _ _ _) (.cons (.lit _) .nil)) ?_
      cases t1 : (((withoutR g.args j).length : Int) == (g.args.length : Int))
      rotate_left
      · rw [if_pos (by simpa [Int.ofNat_inj] using t1)] at q4
        simp only [wp, stepL_true, doI, quietI, isCallI, wantedD, LSt.put, LSt.putO, qL, evD, boolD, litD, litV, lk, pickC_true, binV, intBin, Option.map_some, cond_true, beq_self_eq_true, Nat.reduceEqDiff, Nat.reduceLT, Bool.not_false, if_true, if_false, reduceCtorEq, len_ints, t1, hwk]
        exact ⟨(k + 1, acc), ⟨by simp; omega, by simp; omega, by simp; omega, q3, q4⟩, by simp; omega, wsk (by simp [envOk, lk, D.sc, ints])⟩
      have hlne : (withoutR g.args j).length ≠ g.args.length := by
        intro h
        rw [h] at t1
        simp at t1
      rw [if_neg hlne] at q4
      have hkk : g.kind = 3 ∨ g.kind = 4 := by
        have hne : g.args.length ≠ 0 := by omega
        unfold gateB at hgv
        split at hgv
        · simp only [Bool.and_eq_true, beq_iff_eq] at hgv; omega
        · split at hgv
          · simp only [Bool.and_eq_true, beq_iff_eq] at hgv; omega
          · split at hgv
            · rename_i h; simpa using h
            · cases hgv
      have hwi := getWithout (n := (j : Int)) (hain hkk)
      have hat : ∀ x ∈ (withoutR g.args j).map (valAt vals), 0 ≤ x ∧ x < 4611686018427387904 := by
        intro x hx
        obtain ⟨a, ha, rfl⟩ := List.mem_map.1 hx
        obtain ⟨w1, w2⟩ := hwi a ha
        obtain ⟨hh, e⟩ := valAt_get (vals := vals) w1 w2
        rw [e]; exact hvb _ (List.getElem_mem hh)
      -- what is done with the product
      have fin : ∀ {t : Option Int}, termR vals j g y = t → (∀ p, t = some p → 0 ≤ p ∧ p < 4611686018427387904) := by
        intro t ht p hp
        subst ht
        unfold termR at hp
        refine prodR_bnd (fun x hx => ?_) hp
        rcases List.mem_cons.1 hx with rfl | hx
        · exact hdb.1
        · split at hx
          · exact (hat x hx).1
          · simp at hx
      cases t4 : (g.kind == 4)
      · have hk4 : ¬ g.kind = 4 := by simpa using t4
        have htm : termR vals j g y = prodR [y] := by unfold termR; rw [if_neg hk4]
        rw [htm] at q4
        simp only [wp, stepL_true, doI, quietI, isCallI, wantedD, LSt.put, LSt.putO, LSt.putE, qL, effL, evD, intD, boolD, litD, litV, lk, pickC_false, idxD_sl, loadD_ptr, loadD_eptr, fldD, takeD, esOf, Lx.cellsO, cells_lit, oneV, fillE, binV, intBin, Option.map_some, cond_true, beq_self_eq_true, Nat.reduceEqDiff, Nat.reduceLT, Nat.reduceAdd, Bool.not_false, and_self, if_true, if_false, List.getElem?_cons_zero, List.getElem?_cons_succ, List.length_cons, List.length_nil, List.cons_append, List.nil_append, Nat.zero_add, Nat.add_zero, List.map_cons, List.map_nil, List.set_cons_zero, List.replicate_succ, List.replicate_zero, len_ints, t1, hltp, Int.natCast_nonneg, Int.toNat_natCast, intsE_len, hdl, hgd, t4]
        refine EvL.fn (Product_ok [y] (by simp) (fun x hx => by simp at hx; subst hx; omega)) rfl rfl (.cons (snp_all rfl rfl (fun k h => by cases h; simp)) .nil) ?_
        cases hp : prodR [y] with
        | none =>
          rw [hp] at q4
          rw [← q4] at p3
          simp only [wp, stepL_true, doI, quietI, isCallI, wantedD, LSt.put, LSt.putO, qL, evD, boolD, litD, litV, lk, pickC_true, unV, Nat.reduceEqDiff, Nat.reduceLT, Bool.not_false, if_true, if_false, List.getElem?_cons_zero, List.getElem?_cons_succ, Option.isSome_none, Option.getD_none]
          rw [hres, ← p3]
          exact RetQ.ret rfl (.tups (.cons (.nil 1) (.cons (.lit _) .nil)))
        | some p =>
          rw [hp] at q4
          have hpb := fin htm p hp
          simp only [wp, stepL_true, doI, quietI, isCallI, wantedD, LSt.put, LSt.putO, LSt.putE, qL, effL, evD, boolD, litD, litV, lk, pickC_false, esOf, Lx.cellsO, cells_lit, oneV, fillE, srcD_sl, appD, binV, intBin, unV, Option.map_some, cond_true, beq_self_eq_true, Nat.reduceEqDiff, Nat.reduceLT, Nat.reduceAdd, Nat.reduceLeDiff, Bool.not_true, Bool.not_false, and_self, if_true, if_false, List.getElem?_cons_zero, List.getElem?_cons_succ, List.length_cons, List.length_nil, List.cons_append, List.nil_append, Nat.zero_add, List.drop_zero, List.take_succ_cons, List.take_zero, List.map_cons, List.map_nil, List.set_cons_zero, List.set_cons_succ, List.replicate_succ, List.replicate_zero, Option.isSome_some, Option.getD_some, intsE_len, mb8 (show acc.length < 1000000 by omega), intsE_app, hwk]
          refine ⟨(k + 1, acc ++ [p]), ⟨by simp; omega, by simp; omega, by simp; omega, fun x hx => ?_, q4⟩, by simp; omega, ?_⟩
          · rcases List.mem_append.1 hx with hx | hx
            · exact q3 x hx
            · simp at hx; subst hx; exact hpb
          · exact wsk (by simp [envOk, lk, D.sc, ints])
      · have hk4 : g.kind = 4 := by simpa using t4
        have htm : termR vals j g y = prodR (y :: (withoutR g.args j).map (valAt vals)) := by unfold termR; rw [if_pos hk4]
        rw [htm] at q4
        simp only [wp, stepL_true, doI, quietI, isCallI, wantedD, LSt.put, LSt.putO, LSt.putE, qL, effL, evD, intD, boolD, litD, litV, lk, pickC_true, pickC_false, idxD_sl, loadD_ptr, loadD_eptr, fldD, takeD, esOf, Lx.cellsO, cells_lit, oneV, fillE, binV, intBin, Option.map_some, cond_true, beq_self_eq_true, Nat.reduceEqDiff, Nat.reduceLT, Nat.reduceAdd, Bool.not_false, and_self, if_true, if_false, List.getElem?_cons_zero, List.getElem?_cons_succ, List.length_cons, List.length_nil, List.cons_append, List.nil_append, Nat.zero_add, Nat.add_zero, List.map_cons, List.map_nil, List.set_cons_zero, List.replicate_succ, List.replicate_zero, len_ints, t1, hltp, Int.natCast_nonneg, Int.toNat_natCast, intsE_len, hdl, hgd, t4]
        refine EvL.fn (without_ok g.args j hga) rfl rfl (.cons (snp_ints _ _ _) (.cons (.lit _) .nil)) ?_
        simp only [wp, isCallI, LSt.put, Nat.reduceLT, if_true]
        refine EvL.fn (At_ok vals (withoutR g.args j) (by omega) hwi) rfl rfl (.cons (snp_ints _ _ _) (.cons (snp_ints _ _ _) .nil)) ?_
        have hol : ((withoutR g.args j).map (valAt vals)).length < g.args.length := by rw [List.length_map]; omega
        generalize (withoutR g.args j).map (valAt vals) = oth at *
        have hPok := Product_ok (y :: oth) (by simp; omega) (fun x hx => by
          rcases List.mem_cons.1 hx with rfl | hx
          · omega
          · have := hat x hx; omega)
        by_cases ho : oth.length = 0
        · have hnil : oth = [] := List.eq_nil_of_length_eq_zero ho
          subst hnil
          have hsrc : ∀ L, srcD L 1 (ints true ([] : List Int)) = some [] := fun L => rfl
          simp only [wp, stepL_true, doI, quietI, isCallI, wantedD, LSt.put, LSt.putO, LSt.putE, qL, effL, evD, lk, appD, Nat.reduceEqDiff, Nat.reduceLT, Nat.reduceAdd, Nat.reduceLeDiff, Nat.reduceMul, Bool.not_false, true_and, and_self, if_true, if_false, List.getElem?_cons_zero, List.getElem?_cons_succ, List.length_cons, List.length_nil, List.cons_append, List.nil_append, Nat.zero_add, Nat.add_zero, List.drop_zero, List.drop_succ_cons, List.take_succ_cons, List.take_zero, List.set_cons_zero, List.set_cons_succ, Nat.lt_irrefl, hsrc]
          refine EvL.fn hPok rfl rfl (.cons (snp_all rfl rfl (fun k h => by cases h; simp)) .nil) ?_
          cases hp : prodR [y] with
          | none =>
            rw [hp] at q4
            rw [← q4] at p3
            simp only [wp, stepL_true, doI, quietI, isCallI, wantedD, LSt.put, LSt.putO, qL, evD, boolD, litD, litV, lk, pickC_true, unV, Nat.reduceEqDiff, Nat.reduceLT, Bool.not_false, if_true, if_false, List.getElem?_cons_zero, List.getElem?_cons_succ, Option.isSome_none, Option.getD_none]
            rw [hres, ← p3]
            exact RetQ.ret rfl (.tups (.cons (.nil 1) (.cons (.lit _) .nil)))
          | some p =>
            rw [hp] at q4
            have hpb := fin htm p hp
            simp only [wp, stepL_true, doI, quietI, isCallI, wantedD, LSt.put, LSt.putO, LSt.putE, qL, effL, evD, boolD, litD, litV, lk, pickC_false, esOf, Lx.cellsO, cells_lit, oneV, fillE, srcD_sl, appD, binV, intBin, unV, Option.map_some, cond_true, beq_self_eq_true, Nat.reduceEqDiff, Nat.reduceLT, Nat.reduceAdd, Nat.reduceLeDiff, Bool.not_true, Bool.not_false, and_self, if_true, if_false, List.getElem?_cons_zero, List.getElem?_cons_succ, List.length_cons, List.length_nil, List.cons_append, List.nil_append, Nat.zero_add, List.drop_zero, List.take_succ_cons, List.take_zero, List.map_cons, List.map_nil, List.set_cons_zero, List.set_cons_succ, List.replicate_succ, List.replicate_zero, Option.isSome_some, Option.getD_some, intsE_len, mb8 (show acc.length < 1000000 by omega), intsE_app, hwk]
            refine ⟨(k + 1, acc ++ [p]), ⟨by simp; omega, by simp; omega, by simp; omega, fun x hx => ?_, q4⟩, by simp; omega, ?_⟩
            · rcases List.mem_append.1 hx with hx | hx
              · exact q3 x hx
              · simp at hx; subst hx; exact hpb
            · exact wsk (by simp [envOk, lk, D.sc, ints])
        · have ho1 : (1 + oth.length ≤ 1) = False := eq_false (by omega)
          have ho2 : (0 < oth.length) = True := eq_true (by omega)
          have ho3 : ((1 + oth.length) * 8 ≤ maxBytes) = True := eq_true (by rw [Nat.add_comm]; exact mb8 (by omega))
          have hcons : [[dI y]] ++ intsE oth = intsE (y :: oth) := rfl
          have hcl : [dI y] :: intsE oth = intsE (y :: oth) := rfl
          simp only [wp, stepL_true, doI, quietI, isCallI, wantedD, LSt.put, LSt.putO, LSt.putE, qL, effL, evD, lk, appD, Nat.reduceEqDiff, Nat.reduceLT, Nat.reduceAdd, Bool.not_false, and_self, if_true, if_false, List.getElem?_cons_zero, List.getElem?_cons_succ, List.length_cons, List.length_nil, List.cons_append, List.nil_append, Nat.zero_add, List.drop_zero, List.take_succ_cons, List.take_zero, List.set_cons_zero, List.set_cons_succ, src_ints, intsE_len, ho1, ho2, ho3, Nat.le_refl, hcl]
          refine EvL.fn hPok rfl rfl (.cons (snp_all (by simp [esOf, intsE_len, Nat.add_comm]) (by simp; omega) (fun k h => by cases h)) .nil) ?_
          cases hp : prodR (y :: oth) with
          | none =>
            rw [hp] at q4
            rw [← q4] at p3
            simp only [wp, stepL_true, doI, quietI, isCallI, wantedD, LSt.put, LSt.putO, qL, evD, boolD, litD, litV, lk, pickC_true, unV, Nat.reduceEqDiff, Nat.reduceLT, Bool.not_false, if_true, if_false, List.getElem?_cons_zero, List.getElem?_cons_succ, Option.isSome_none, Option.getD_none]
            rw [hres, ← p3]
            exact RetQ.ret rfl (.tups (.cons (.nil 1) (.cons (.lit _) .nil)))
          | some p =>
            rw [hp] at q4
            have hpb := fin htm p hp
            simp only [wp, stepL_true, doI, quietI, isCallI, wantedD, LSt.put, LSt.putO, LSt.putE, qL, effL, evD, boolD, litD, litV, lk, pickC_false, esOf, Lx.cellsO, cells_lit, oneV, fillE, srcD_sl, appD, binV, intBin, unV, Option.map_some, cond_true, beq_self_eq_true, Nat.reduceEqDiff, Nat.reduceLT, Nat.reduceAdd, Nat.reduceLeDiff, Bool.not_true, Bool.not_false, and_self, if_true, if_false, List.getElem?_cons_zero, List.getElem?_cons_succ, List.length_cons, List.length_nil, List.cons_append, List.nil_append, Nat.zero_add, List.drop_zero, List.take_succ_cons, List.take_zero, List.map_cons, List.map_nil, List.set_cons_zero, List.set_cons_succ, List.replicate_succ, List.replicate_zero, Option.isSome_some, Option.getD_some, intsE_len, mb8 (show acc.length < 1000000 by omega), intsE_app, hwk]
            refine ⟨(k + 1, acc ++ [p]), ⟨by simp; omega, by simp; omega, by simp; omega, fun x hx => ?_, q4⟩, by simp; omega, ?_⟩
            · rcases List.mem_append.1 hx with hx | hx
              · exact q3 x hx
              · simp at hx; subst hx; exact hpb
            · exact wsk (by simp [envOk, lk, D.sc, ints])
    · have hlt : decide ((k : Int) < (c.gates.length : Int)) = false := decide_eq_false (by omega)
      rw [List.drop_of_length_le (by omega), rPartsGo] at q4
      · rw [← q4] at p3
        simp only at p3
        simp only [wp, stepL_true, doI, quietI, isCallI, wantedD, LSt.put, LSt.putO, qL, evD, boolD, litD, litV, lk, pickC_false, binV, intBin, Option.map_some, cond_true, beq_self_eq_true, Nat.reduceEqDiff, Nat.reduceLT, Bool.not_false, if_true, if_false, List.cons_append, List.nil_append, reduceCtorEq, rfE, rfL, hlt]
        refine EvL.fn (Sum_ok acc (by omega) (fun y hy => by have := q3 y hy; omega)) rfl rfl (.cons (snp_own (by simp [esOf, intsE_len]) (fun k h => by cases h)) .nil) ?_
        cases hsum : sumGo 0 acc with
        | none =>
          rw [hsum] at p3
          simp only [wp, stepL_true, doI, quietI, isCallI, wantedD, LSt.put, LSt.putO, qL, evD, boolD, litD, litV, lk, pickC_true, unV, Nat.reduceEqDiff, Nat.reduceLT, Bool.not_false, if_true, if_false, List.getElem?_cons_zero, List.getElem?_cons_succ, Option.isSome_none, Option.getD_none]
          rw [hres, ← p3]
          exact RetQ.ret rfl (.tups (.cons (.nil 1) (.cons (.lit _) .nil)))
        | some s =>
          rw [hsum] at p3
          have hsb := sumGo_bnd acc 0 s (fun y hy => (q3 y hy).1) (by omega) (by omega) hsum
          have hjp : ((j : Int) < (c.gates.length : Int)) = True := eq_true (by omega)
          have hjd : (intsE d)[j]? = some [dI (d[j]'(by omega))] := intsE_at (List.getElem?_eq_getElem _)
          simp only [wp, stepL_true, doI, quietI, isCallI, wantedD, LSt.put, LSt.putO, LSt.putE, qL, effL, evD, intD, boolD, litD, litV, lk, pickC_false, idxD_sl, esOf, Lx.cellsO, cells_lit, oneV, putD, storeD, binV, intBin, unV, Option.map_some, cond_true, beq_self_eq_true, Nat.reduceEqDiff, Nat.reduceLT, Nat.reduceLeDiff, Bool.not_true, Bool.not_false, and_self, if_true, if_false, List.getElem?_cons_zero, List.getElem?_cons_succ, List.length_cons, List.length_nil, List.cons_append, List.nil_append, Nat.zero_add, List.drop_zero, List.drop_succ_cons, List.take_zero, List.set_cons_zero, List.set_cons_succ, Option.isSome_some, Option.getD_some, hjp, Int.natCast_nonneg, Int.toNat_natCast, intsE_len, hdl, hjd, intsE_set2, hw4]
          refine ⟨(j, d.set j s), ⟨by simp; omega, p2.set _ hsb.1 hsb.2, p3⟩, by simp, ?_⟩
          refine Weak.cut (L := [.cells [ints false c.cards, gatesD false c.gates], .els 1 (intsE (d.set j s))]) (R' := [_]) (Nat.zero_le _) ?_ ⟨by simp [LB.sc, D.scs, D.sc, ints, gatesD], intsE_sc _ _, trivial⟩
          simp [envOk, lk, D.sc, ints]
      · intro g gs y ds h; cases h
end Go.Proofs.Ytbjfkbkmoeibdaa.C
