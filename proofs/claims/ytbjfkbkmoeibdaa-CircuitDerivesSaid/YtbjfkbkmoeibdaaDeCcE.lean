/-
  Contracts: the draft of a circuit: its code. Conditions: none.
-/
import Derived.Test.YtbjfkbkmoeibdaaDe5
namespace Go.Proofs.Ytbjfkbkmoeibdaa.C
open Go Go.Mx Go.Lx
set_option linter.unusedSimpArgs false
set_option linter.unusedVariables false
set_option maxRecDepth 100000
theorem has25 : mC.has 25 fn25 := ⟨rfl, fun _ _ _ => rfl⟩
theorem wrapN {n : Nat} (h : n < 9223372036854775808) : IntKind.i64.wrap (n : Int) = (n : Int) := wrap64 (by omega) (by omega)
theorem snp_gates_own {L : List LB} {β st : Nat} {gs : List Gate} (h : esOf L β 5 st = some (gatesE gs)) : Snp L true (.sl β 0 5 gs.length none st) (gatesD true gs) := by
  have gget : ∀ {i : Nat} {cells : List D}, (gatesE gs)[i]? = some cells → ∃ g, gs[i]? = some g ∧ cells = gateC true g := by
    intro i cells hi
    simp only [gatesE, List.getElem?_map, Option.map_eq_some_iff] at hi
    obtain ⟨g, h1, rfl⟩ := hi
    exact ⟨g, h1, rfl⟩
  refine .sl h (by rw [gatesE_len]; omega) (fun k h => by cases h) (gatesE_len gs).symm (fun i cells cells' h1 h2 => ?_) fun i k cells cells' d d' h1 h2 h3 h4 => ?_
  · rw [Nat.zero_add] at h1
    obtain ⟨x, _, rfl⟩ := gget h1
    obtain ⟨y, _, rfl⟩ := gget h2
    rfl
  · rw [Nat.zero_add] at h1
    obtain ⟨x, q1, rfl⟩ := gget h1
    obtain ⟨y, q2, rfl⟩ := gget h2
    rw [q1] at q2
    cases q2
    have hs : Snps L true (gateC true x) (gateC true x) := .cons (.lit _) (.cons (.lit _) (.cons (.lit _) (.cons (.lit _) (.cons (.same _ _ rfl) .nil))))
    exact hs.get k d d' h3 h4
def drQ (d : Dr) : LX → LSt → Prop := RetQ [.cell 2 (some 2)] (.agg (circC true (draftC d)))
def drE3 (u k : Nat) : List (Nat × D) := [(1, .ptr 0 0), (2, .ptr 1 0), (3, .ptr 2 0), (7, dI u), (8, dI k)]
set_option maxHeartbeats 8000000 in
theorem draft3 (d : Dr) (hd : d.Ok) : EvL mC 0 [.code (fstC (sndC (fstC (sndC (sndC (sndC (sndC (sndC (sndC (sndC fn25.c)))))))))), .blk 6, .code (sndC (sndC (sndC (sndC (sndC (sndC (sndC (sndC fn25.c))))))))] ⟨140, drE3 (unitOf d) 0, drL d (cardsOf d) (isAll 0 (cardsOf d))⟩ (drQ d) := by
  obtain ⟨cb1, cb2, cb3⟩ := cardsOf_bnd d
  have hil := isAll_len (cardsOf d) 0 (fun x hx => (cb3 x hx).2)
  have hip := isAll_pos cb1 (fun x hx => (cb3 x hx).1)
  have hu : unitOf d ≤ 100000000000 := by unfold unitOf; split <;> omega
  have edr : drC d = [u8s d.cards, g4s d.gates, dB d.big] := rfl
  simp only [fn25, fstC, sndC]
  refine EvL.loop (α := Nat × List Gate) (fun a => ⟨140, drE3 (unitOf d) a.1, drL d (cardsOf d) a.2⟩) (fun a => a.1 ≤ 30 ∧ a.1 ≤ d.gates.length ∧ 1 ≤ a.2.length ∧ a.2.length ≤ 12 + a.1 ∧ draftGo (unitOf d) a.2 ((d.gates.take 30).drop a.1) = (draftC d).gates) (fun a => 30 - a.1) (0, isAll 0 (cardsOf d)) (Weak.refl _ _) ⟨by simp, by simp, hip, by show (isAll 0 (cardsOf d)).length ≤ 12 + 0; omega, rfl⟩ ?_
  rintro ⟨k, gs⟩ ⟨q1, q2, q3, q4, q5⟩
  simp only at q1 q2 q3 q4 q5
  refine wp_sound ?_
  have edl : drL d (cardsOf d) gs = [.cells [u8s d.cards, g4s d.gates, dB d.big], .cells [.lit (.slice none 0 0), .lit (.slice none 0 0)], .cells [ints true (cardsOf d), .sl 4 0 5 gs.length none gs.length], .gone, .grow 5 (gatesE gs)] := rfl
  by_cases hk : k < d.gates.length ∧ k < 30
  · have hlt : decide ((k : Int) < (d.gates.length : Int)) = true := by simp; omega
    have hlt30 : decide ((k : Int) < 30) = true := by simp; omega
    have hw2 : IntKind.i64.wrap ((k : Int) + 1) = ((k + 1 : Nat) : Int) := by rw [wrap64 (by omega) (by omega)]; rfl
    have hg := hd.gates _ (List.getElem_mem hk.1)
    have eg4 : g4C d.gates[k] = [dU8 d.gates[k].a, dU8 d.gates[k].b, dU8 d.gates[k].c, dU8 d.gates[k].d] := rfl
    have hdrop : (d.gates.take 30).drop k = d.gates[k] :: (d.gates.take 30).drop (k + 1) := by
      rw [drop_cons (by simp; omega)]; simp
    rw [hdrop, draftGo] at q5
    have hidx : ∀ L, idxD L 4 (k : Int) (g4s d.gates) = some (.fptr false (g4C d.gates[k])) := fun L => idx_g4s L hk.1
    obtain ⟨ga, gb, gc, gd⟩ := hg
    generalize d.gates[k] = g at *
    have t5 : Int.tmod (g.a : Int) 5 = ((g.a % 5 : Nat) : Int) := rfl
    have t2 : Int.tmod (g.a : Int) 2 = ((g.a % 2 : Nat) : Int) := rfl
    have t8 : Int.tmod (g.b : Int) 8 = ((g.b % 8 : Nat) : Int) := rfl
    have tb : Int.tmod (g.b : Int) (gs.length : Int) = ((g.b % gs.length : Nat) : Int) := rfl
    have tc : Int.tmod (g.c : Int) (gs.length : Int) = ((g.c % gs.length : Nat) : Int) := rfl
    have w2 : IntKind.i64.wrap ((g.a % 2 : Nat) : Int) = ((g.a % 2 : Nat) : Int) := wrapN (by omega)
    have w3 : IntKind.i64.wrap (3 + ((g.a % 2 : Nat) : Int)) = ((3 + g.a % 2 : Nat) : Int) := by rw [wrap64 (by omega) (by omega)]; omega
    have w8 : IntKind.i64.wrap ((g.b % 8 : Nat) : Int) = ((g.b % 8 : Nat) : Int) := wrapN (by omega)
    have hmul : g.b % 8 * unitOf d ≤ 8 * 100000000000 := Nat.mul_le_mul (by omega) hu
    have w9 : IntKind.i64.wrap (((g.b % 8 : Nat) : Int) * ((unitOf d : Nat) : Int)) = ((g.b % 8 * unitOf d : Nat) : Int) := by rw [← Int.natCast_mul]; exact wrapN (by omega)
    have wb : IntKind.i64.wrap (g.b : Int) = (g.b : Int) := wrapN (by omega)
    have wc : IntKind.i64.wrap (g.c : Int) = (g.c : Int) := wrapN (by omega)
    have n0 : ((gs.length : Int) == 0) = false := beq_eq_false_iff_ne.2 (by omega)
    by_cases h5 : g.a % 5 = 0
    · have c5 : (((g.a % 5 : Nat) : Int) == 0) = true := by rw [h5]; rfl
      simp only [wp, stepL_true, doI, quietI, isCallI, wantedD, wantD, LSt.put, LSt.putO, LSt.putE, qL, effL, evD, intD, boolD, litD, litV, lk, pickC_true, lenD_sl, loadD_ptr, loadD_fptr, fldD, takeD, slotD, esOf, Lx.cellsO, cells_lit, cells_agg, cells_sl, oneV, fillD, fillE, putD, srcD_sl, storeD, appD, binV, intBin, Option.map_some, cond_true, cond_false, beq_self_eq_true, Nat.reduceEqDiff, Nat.reduceLT, Nat.reduceAdd, Nat.reduceLeDiff, Bool.not_true, Bool.not_false, and_self, if_true, if_false, List.getElem?_cons_zero, List.getElem?_cons_succ, List.length_cons, List.length_nil, List.cons_append, List.nil_append, Nat.zero_add, Nat.add_zero, Int.reduceLE, Int.reduceLT, Int.reduceBEq, List.drop_zero, List.drop_succ_cons, List.take_succ_cons, List.take_zero, List.map_cons, List.map_nil, List.set_cons_zero, List.set_cons_succ, List.replicate_succ, List.replicate_zero, drE3, edl, len_g4s, hlt, hlt30, hidx, eg4, Int.cast_ofNat_Int, Int.reduceToNat, Nat.zero_mul, Nat.one_mul, t5, c5, t8, w8, w9, gatesE_len, mb56 (show gs.length < 1000000 by omega), hw2]
      refine ⟨(k + 1, gs ++ [draftGate (unitOf d) gs.length g]), ⟨by simp; omega, by simp; omega, by simp, by simp; omega, q5⟩, by simp; omega, ?_⟩
      have eg : draftGate (unitOf d) gs.length g = ⟨1, 0, 0, ((g.b % 8 * unitOf d : Nat) : Int), []⟩ := by unfold draftGate; rw [if_pos h5]
      rw [eg]
      exact (Weak.sub (by simp [envSub, lk, drE3])).trans (frzGate6 d (cardsOf d) gs 140 (drE3 (unitOf d) (k + 1)) 1 0 0 _ (.cells [dU8 g.a, dU8 g.b, dU8 g.c, dU8 g.d]) (by simp [LB.av, D.avs, D.av]) (by simp [envAv, drE3, D.av]) (by simp [envOk, drE3, lk, D.sc]))
    · have c5 : (((g.a % 5 : Nat) : Int) == 0) = false := beq_eq_false_iff_ne.2 (by omega)
      have hmin : (if ((g.c % gs.length : Nat) : Int) < ((g.b % gs.length : Nat) : Int) then ((g.c % gs.length : Nat) : Int) else ((g.b % gs.length : Nat) : Int)) = ((min (g.b % gs.length) (g.c % gs.length) : Nat) : Int) := by split <;> omega
      have hmax : (if ((g.c % gs.length : Nat) : Int) > ((g.b % gs.length : Nat) : Int) then ((g.c % gs.length : Nat) : Int) else ((g.b % gs.length : Nat) : Int)) = ((max (g.b % gs.length) (g.c % gs.length) : Nat) : Int) := by split <;> omega
      by_cases hab : g.b % gs.length = g.c % gs.length
      · have cab : (((g.b % gs.length : Nat) : Int) == ((g.c % gs.length : Nat) : Int)) = true := by rw [hab]; simp
        simp only [wp, stepL_true, doI, quietI, isCallI, wantedD, wantD, LSt.put, LSt.putO, LSt.putE, qL, effL, evD, evDs, intD, boolD, litD, litV, litDs, lk, pickC_true, pickC_false, lenD_sl, loadD_ptr, loadD_fptr, fldD, takeD, slotD, esOf, Lx.cellsO, cells_lit, cells_agg, cells_sl, oneV, fillD, fillE, putD, srcD_sl, storeD, appD, binV, intBin, mms, mm2, Option.map_some, cond_true, cond_false, beq_self_eq_true, Nat.reduceEqDiff, Nat.reduceLT, Nat.reduceAdd, Nat.reduceLeDiff, Nat.reduceMul, Bool.not_true, Bool.not_false, and_self, if_true, if_false, List.getElem?_cons_zero, List.getElem?_cons_succ, List.length_cons, List.length_nil, List.cons_append, List.nil_append, Nat.zero_add, Nat.add_zero, Int.reduceLE, Int.reduceLT, Int.reduceBEq, List.drop_zero, List.drop_succ_cons, List.take_succ_cons, List.take_zero, List.map_cons, List.map_nil, List.set_cons_zero, List.set_cons_succ, List.replicate_succ, List.replicate_zero, drE3, edl, len_g4s, hlt, hlt30, hidx, eg4, Int.cast_ofNat_Int, Int.reduceToNat, Nat.zero_mul, Nat.one_mul, t5, c5, t2, w2, w3, wb, wc, tb, tc, n0, hmin, hmax, cab, gatesE_len, mb56 (show gs.length < 1000000 by omega), hw2]
        refine ⟨(k + 1, gs ++ [draftGate (unitOf d) gs.length g]), ⟨by simp; omega, by simp; omega, by simp, by simp; omega, q5⟩, by simp; omega, ?_⟩
        have eg : draftGate (unitOf d) gs.length g = ⟨((3 + g.a % 2 : Nat) : Int), 0, 0, 0, [((g.b % gs.length : Nat) : Int)]⟩ := by unfold draftGate; rw [if_neg h5, if_pos hab]
        rw [eg]
        exact (Weak.sub (by simp [envSub, lk, drE3])).trans (frzArgs7 d (cardsOf d) gs 140 (drE3 (unitOf d) (k + 1)) _ 0 0 0 [((g.b % gs.length : Nat) : Int)] (.cells [dU8 g.a, dU8 g.b, dU8 g.c, dU8 g.d]) _ (by simp [LB.av, D.avs, D.av]) (by simp [LB.sc, D.scs, D.sc]) (by simp [LB.av, D.avs, D.av]) (by simp [LB.sc, D.scs, D.sc]) 1 (by simp) (by simp [envAv, drE3, D.av]) (by simp [envOk, drE3, lk, D.sc]) [_] (by simp [envOk, drE3, lk, D.sc]))
      · have cab : (((g.b % gs.length : Nat) : Int) == ((g.c % gs.length : Nat) : Int)) = false := by simp only [beq_eq_false_iff_ne, ne_eq, Int.natCast_inj]; exact hab
        simp only [wp, stepL_true, doI, quietI, isCallI, wantedD, wantD, LSt.put, LSt.putO, LSt.putE, qL, effL, evD, evDs, intD, boolD, litD, litV, litDs, lk, pickC_true, pickC_false, lenD_sl, loadD_ptr, loadD_fptr, fldD, takeD, slotD, esOf, Lx.cellsO, cells_lit, cells_agg, cells_sl, oneV, fillD, fillE, putD, srcD_sl, storeD, appD, binV, intBin, mms, mm2, Option.map_some, cond_true, cond_false, beq_self_eq_true, Nat.reduceEqDiff, Nat.reduceLT, Nat.reduceAdd, Nat.reduceLeDiff, Nat.reduceMul, Bool.not_true, Bool.not_false, and_self, if_true, if_false, List.getElem?_cons_zero, List.getElem?_cons_succ, List.length_cons, List.length_nil, List.cons_append, List.nil_append, Nat.zero_add, Nat.add_zero, Int.reduceLE, Int.reduceLT, Int.reduceBEq, List.drop_zero, List.drop_succ_cons, List.take_succ_cons, List.take_zero, List.map_cons, List.map_nil, List.set_cons_zero, List.set_cons_succ, List.replicate_succ, List.replicate_zero, drE3, edl, len_g4s, hlt, hlt30, hidx, eg4, Int.cast_ofNat_Int, Int.reduceToNat, Nat.zero_mul, Nat.one_mul, t5, c5, t2, w2, w3, wb, wc, tb, tc, n0, hmin, hmax, cab, gatesE_len, mb56 (show gs.length < 1000000 by omega), hw2]
        refine ⟨(k + 1, gs ++ [draftGate (unitOf d) gs.length g]), ⟨by simp; omega, by simp; omega, by simp, by simp; omega, q5⟩, by simp; omega, ?_⟩
        have eg : draftGate (unitOf d) gs.length g = ⟨((3 + g.a % 2 : Nat) : Int), 0, 0, 0, [((min (g.b % gs.length) (g.c % gs.length) : Nat) : Int), ((max (g.b % gs.length) (g.c % gs.length) : Nat) : Int)]⟩ := by unfold draftGate; rw [if_neg h5, if_neg hab]
        rw [eg]
        exact (Weak.sub (by simp [envSub, lk, drE3])).trans (frzArgs6 d (cardsOf d) gs 140 (drE3 (unitOf d) (k + 1)) _ 0 0 0 [((min (g.b % gs.length) (g.c % gs.length) : Nat) : Int), ((max (g.b % gs.length) (g.c % gs.length) : Nat) : Int)] (.cells [dU8 g.a, dU8 g.b, dU8 g.c, dU8 g.d]) (by simp [LB.av, D.avs, D.av]) (by simp [LB.sc, D.scs, D.sc]) 2 (by simp) (by simp [envAv, drE3, D.av]) (by simp [envOk, drE3, lk, D.sc]) [_] (by simp [envOk, drE3, lk, D.sc]))
  · have hout : decide ((k : Int) < (d.gates.length : Int)) = false ∨ (decide ((k : Int) < (d.gates.length : Int)) = true ∧ decide ((k : Int) < 30) = false) := by
      by_cases h : k < d.gates.length
      · exact .inr ⟨by simp; omega, by simp; omega⟩
      · exact .inl (by simp; omega)
    rw [List.drop_of_length_le (by simp; omega), draftGo] at q5
    rcases hout with h | ⟨h, h'⟩
    · simp only [wp, stepL_true, stepL_false, doI, quietI, isCallI, wantedD, wantD, undefD, LSt.put, LSt.putO, LSt.putE, qL, effL, evD, boolD, litD, litV, lk, pickC_false, loadD_ptr, fldD, takeD, slotD, Lx.cellsO, cells_agg, putD, storeD, binV, intBin, Option.map_some, cond_true, beq_self_eq_true, Nat.reduceEqDiff, Nat.reduceLT, Nat.reduceAdd, Nat.reduceLeDiff, Bool.not_false, and_self, if_true, if_false, List.getElem?_cons_zero, List.getElem?_cons_succ, List.length_cons, List.length_nil, List.cons_append, List.nil_append, Nat.zero_add, List.drop_zero, List.drop_succ_cons, List.take_succ_cons, List.take_zero, List.set_cons_zero, List.set_cons_succ, drE3, edl, len_g4s, h]
      refine RetQ.ret rfl (.aggs (.cons (.same _ _ rfl) (.cons ?_ .nil)))
      rw [← q5]
      exact snp_gates_own (by simp [esOf, gatesE_len])
    · simp only [wp, stepL_true, doI, quietI, isCallI, wantedD, wantD, LSt.put, LSt.putO, LSt.putE, qL, effL, evD, boolD, litD, litV, lk, pickC_false, loadD_ptr, fldD, takeD, slotD, Lx.cellsO, cells_agg, putD, storeD, binV, intBin, Option.map_some, cond_true, beq_self_eq_true, Nat.reduceEqDiff, Nat.reduceLT, Nat.reduceAdd, Nat.reduceLeDiff, Bool.not_true, Bool.not_false, and_self, if_true, if_false, List.getElem?_cons_zero, List.getElem?_cons_succ, List.length_cons, List.length_nil, List.cons_append, List.nil_append, Nat.zero_add, List.drop_zero, List.drop_succ_cons, List.take_succ_cons, List.take_zero, List.set_cons_zero, List.set_cons_succ, drE3, edl, len_g4s, h, h']
      refine RetQ.ret rfl (.aggs (.cons (.same _ _ rfl) (.cons ?_ .nil)))
      rw [← q5]
      exact snp_gates_own (by simp [esOf, gatesE_len])
set_option maxHeartbeats 8000000 in
theorem draft2 (d : Dr) (hd : d.Ok) : EvL mC 0 [.code (fstC (sndC (fstC (sndC (sndC (sndC (sndC fn25.c))))))), .blk 2, .code (sndC (sndC (sndC (sndC (sndC fn25.c)))))] ⟨140, drE 0, drL d (cardsOf d) []⟩ (drQ d) := by
  obtain ⟨cb1, cb2, cb3⟩ := cardsOf_bnd d
  have hil := isAll_len (cardsOf d) 0 (fun x hx => (cb3 x hx).2)
  have h3 := draft3 d hd
  simp only [fn25, fstC, sndC] at h3 ⊢
  generalize hcs : cardsOf d = cs at *
  refine EvL.loop (α := Nat × List Gate) (fun a => ⟨140, drE a.1, drL d cs a.2⟩) (fun a => a.1 ≤ cs.length ∧ a.2 ++ isAll a.1 (cs.drop a.1) = isAll 0 cs) (fun a => cs.length - a.1) (0, []) (Weak.refl _ _) (by simp) ?_
  rintro ⟨v, gs⟩ ⟨q1, q2⟩
  simp only at q1 q2
  refine wp_sound ?_
  have edl : ∀ gs, drL d cs gs = [.cells [u8s d.cards, g4s d.gates, dB d.big], .cells [.lit (.slice none 0 0), .lit (.slice none 0 0)], .cells [ints true cs, .sl 4 0 5 gs.length none gs.length], .gone, .grow 5 (gatesE gs)] := fun _ => rfl
  by_cases hv : v < cs.length
  · have hlt : decide ((v : Int) < (cs.length : Int)) = true := by simp; omega
    have hw2 : IntKind.i64.wrap ((v : Int) + 1) = ((v + 1 : Nat) : Int) := by rw [wrap64 (by omega) (by omega)]; rfl
    obtain ⟨b1, b2⟩ := cb3 _ (List.getElem_mem hv)
    rw [drop_cons hv, isAll] at q2
    simp only [wp, stepL_true, doI, quietI, isCallI, wantedD, LSt.put, LSt.putO, qL, evD, boolD, litD, litV, lk, pickC_true, loadD_ptr, fldD, takeD, binV, intBin, Option.map_some, cond_true, beq_self_eq_true, Nat.reduceEqDiff, Nat.reduceLT, Bool.not_false, if_true, if_false, List.getElem?_cons_zero, List.getElem?_cons_succ, Nat.add_zero, drE, edl gs, len_ints, hlt]
    refine EvL.loop (α := Nat) (fun x => ⟨140, (6, dI x) :: drE v, drL d cs (gs ++ (List.range x).map (isG v))⟩) (fun x => x ≤ cs[v].toNat) (fun x => cs[v].toNat - x) 0 (by simp only [List.range_zero, List.map_nil, List.append_nil]; exact Weak.sub (by simp [envSub, lk, drE])) (by omega) ?_
    intro x hx
    refine wp_sound ?_
    have hgl : (gs ++ (List.range x).map (isG v)).length ≤ 12 := by
      have := congrArg List.length q2
      simp only [List.length_append, List.length_map, List.length_range] at this ⊢
      omega
    by_cases hxx : x < cs[v].toNat
    · have hltx : decide ((x : Int) < cs[v]) = true := by simp; omega
      have hw3 : IntKind.i64.wrap ((x : Int) + 1) = ((x + 1 : Nat) : Int) := by rw [wrap64 (by omega) (by omega)]; rfl
      have hnext : gs ++ (List.range (x + 1)).map (isG v) = (gs ++ (List.range x).map (isG v)) ++ [isG v x] := by rw [List.range_succ]; simp
      refine ?_
      generalize hgs : gs ++ (List.range x).map (isG v) = gs' at *
      simp only [wp, stepL_true, doI, quietI, isCallI, wantedD, LSt.put, LSt.putO, LSt.putE, qL, effL, evD, intD, boolD, litD, litV, lk, pickC_true, loadD_ptr, loadD_fptr, fldD, takeD, esOf, Lx.cellsO, cells_lit, cells_agg, cells_sl, oneV, fillD, fillE, putD, srcD_sl, storeD, appD, binV, intBin, Option.map_some, cond_true, beq_self_eq_true, Nat.reduceEqDiff, Nat.reduceLT, Nat.reduceAdd, Nat.reduceLeDiff, Bool.not_false, and_self, if_true, if_false, List.getElem?_cons_zero, List.getElem?_cons_succ, List.length_cons, List.length_nil, List.cons_append, List.nil_append, Nat.zero_add, Nat.add_zero, List.drop_zero, List.drop_succ_cons, List.take_succ_cons, List.take_zero, List.map_cons, List.map_nil, List.set_cons_zero, List.set_cons_succ, List.replicate_succ, List.replicate_zero, drE, edl gs', idx_ints _ _ hv, hltx, gatesE_len, mb56 (show gs'.length < 1000000 by omega), hw3]
      refine ⟨x + 1, by omega, by omega, ?_⟩
      rw [hnext]
      refine Weak.trans ?_ (frzGate d cs gs' 140 ((6, dI (x + 1 : Nat)) :: drE v) 2 v x 0 (by simp [envAv, drE, D.av]) (by simp [envOk, drE, lk, D.sc]))
      exact Weak.sub (by simp [envSub, lk, drE])
    · have hltx : decide ((x : Int) < cs[v]) = false := by simp; omega
      have hxe : x = cs[v].toNat := by omega
      rw [← List.append_assoc, ← hxe] at q2
      generalize hgs : gs ++ (List.range x).map (isG v) = gs' at *
      simp only [wp, stepL_true, doI, quietI, isCallI, wantedD, LSt.put, LSt.putO, qL, evD, intD, boolD, litD, litV, lk, pickC_false, loadD_ptr, loadD_fptr, fldD, takeD, binV, intBin, Option.map_some, cond_true, beq_self_eq_true, Nat.reduceEqDiff, Nat.reduceLT, Bool.not_false, if_true, if_false, List.getElem?_cons_zero, List.getElem?_cons_succ, Nat.zero_add, Nat.add_zero, drE, edl gs', idx_ints _ _ hv, hltx, hw2]
      exact ⟨(v + 1, gs'), ⟨by simp; omega, q2⟩, by simp; omega, Weak.sub (by simp [envSub, lk])⟩
  · have hlt : decide ((v : Int) < (cs.length : Int)) = false := by simp; omega
    rw [List.drop_of_length_le (by omega), isAll, List.append_nil] at q2
    rw [← q2] at h3
    cases hb : d.big
    · have hu : unitOf d = 1 := by unfold unitOf; rw [hb]; rfl
      rw [hu, edl, hb] at h3
      simp only [wp, stepL_true, doI, quietI, isCallI, wantedD, LSt.put, LSt.putO, qL, evD, boolD, litD, litV, lk, pickC_false, loadD_ptr, fldD, takeD, binV, intBin, Option.map_some, cond_true, beq_self_eq_true, Nat.reduceEqDiff, Nat.reduceLT, Bool.not_false, if_true, if_false, List.getElem?_cons_zero, List.getElem?_cons_succ, Nat.zero_add, Nat.add_zero, drE, edl, len_ints, hlt, hb]
      refine EvL.weak (Weak.sub ?_) h3
      simp [envSub, lk, drE3]
    · have hu : unitOf d = 100000000000 := by unfold unitOf; rw [hb]; rfl
      rw [hu, edl, hb] at h3
      simp only [wp, stepL_true, doI, quietI, isCallI, wantedD, LSt.put, LSt.putO, qL, evD, boolD, litD, litV, lk, pickC_true, pickC_false, loadD_ptr, fldD, takeD, binV, intBin, Option.map_some, cond_true, beq_self_eq_true, Nat.reduceEqDiff, Nat.reduceLT, Bool.not_false, if_true, if_false, List.getElem?_cons_zero, List.getElem?_cons_succ, Nat.zero_add, Nat.add_zero, drE, edl, len_ints, hlt, hb]
      refine EvL.weak (Weak.sub ?_) h3
      simp [envSub, lk, drE3]
set_option maxHeartbeats 8000000 in
theorem Draft_ok (d : Dr) (hd : d.Ok) : Lx.Fn mC 25 [.agg (drC d)] (.agg (circC true (draftC d))) := by
  refine Lx.Fn.intro has25 (by simp [fn25]) (fun h => by cases h) ?_
  have edr : drC d = [u8s d.cards, g4s d.gates, dB d.big] := rfl
  have hrs : RetQ fn25.rs (.agg (circC true (draftC d))) = drQ d := rfl
  rw [hrs]
  simp only [wp, stepL_true, doI, quietI, isCallI, wantedD, LSt.put, LSt.putO, LSt.putE, qL, effL, evD, lk, Lx.cellsO, cells_agg, argsE, Nat.reduceLT, Nat.reduceAdd, Bool.not_false, if_true, List.length_cons, List.length_nil, List.cons_append, List.nil_append, Nat.zero_add, List.map_cons, List.map_nil, fn25]
  refine EvL.loop (α := List Int) (fun xs => ⟨140, [(1, .ptr 0 0), (2, .ptr 1 0), (3, .ptr 2 0), (4, dI xs.length)], [.cells (drC d), .cells [.lit (.slice none 0 0), .lit (.slice none 0 0)], .cells [.sl 3 0 1 xs.length none xs.length, .sl 4 0 5 0 none 0], .grow 1 (intsE xs), .grow 5 []]⟩)
    (fun xs => xs.length ≤ 4 ∧ xs.length ≤ d.cards.length ∧ xs = (d.cards.take xs.length).map fun x => ((1 + x % 3 : Nat) : Int)) (fun xs => 4 - xs.length) []
    ((Weak.ghostC (β := 2) (o := 0) (n := 1) (by decide) rfl rfl).trans ((Weak.ghostC (β := 2) (o := 1) (n := 5) (by decide) rfl rfl).trans (Weak.sub (by simp [envSub, lk])))) (by simp) ?_
  rintro xs ⟨p1, p2, p3⟩
  refine wp_sound ?_
  by_cases hk : xs.length < d.cards.length ∧ xs.length < 4
  · have hlt : decide ((xs.length : Int) < (d.cards.length : Int)) = true := by simp; omega
    have hlt4 : decide ((xs.length : Int) < 4) = true := by simp; omega
    have hw2 : IntKind.i64.wrap ((xs.length : Int) + 1) = ((xs.length + 1 : Nat) : Int) := by rw [wrap64 (by omega) (by omega)]; rfl
    have hb := hd.cards _ (List.getElem_mem hk.1)
    have ht : Int.tmod ((d.cards[xs.length] : Nat) : Int) 3 = ((d.cards[xs.length] % 3 : Nat) : Int) := rfl
    have hw3 : IntKind.i64.wrap ((d.cards[xs.length] % 3 : Nat) : Int) = ((d.cards[xs.length] % 3 : Nat) : Int) := wrapN (by omega)
    have hw4 : IntKind.i64.wrap (1 + ((d.cards[xs.length] % 3 : Nat) : Int)) = ((1 + d.cards[xs.length] % 3 : Nat) : Int) := by rw [wrap64 (by omega) (by omega)]; omega
    simp only [wp, stepL_true, doI, quietI, isCallI, wantedD, wantD, LSt.put, LSt.putO, LSt.putE, qL, effL, evD, intD, boolD, litD, litV, lk, pickC_true, loadD_ptr, loadD_fptr, fldD, takeD, esOf, Lx.cellsO, cells_lit, cells_sl, oneV, fillE, putD, srcD_sl, storeD, appD, binV, intBin, Option.map_some, cond_true, cond_false, beq_self_eq_true, Nat.reduceEqDiff, Nat.reduceLT, Nat.reduceAdd, Nat.reduceLeDiff, Bool.not_true, Bool.not_false, and_self, if_true, if_false, List.getElem?_cons_zero, List.getElem?_cons_succ, List.length_cons, List.length_nil, List.cons_append, List.nil_append, Nat.zero_add, Nat.add_zero, Int.reduceBEq, List.drop_zero, List.drop_succ_cons, List.take_succ_cons, List.take_zero, List.map_cons, List.map_nil, List.set_cons_zero, List.set_cons_succ, List.replicate_succ, List.replicate_zero, edr, len_u8s, hlt, hlt4, idx_u8s _ hk.1, ht, hw3, hw4, intsE_len, mb8 (show xs.length < 1000000 by omega), hw2]
    refine ⟨xs ++ [((1 + d.cards[xs.length] % 3 : Nat) : Int)], ⟨by simp; omega, by simp; omega, ?_⟩, by simp; omega, ?_⟩
    · rw [List.length_append, List.length_cons, List.length_nil, Nat.zero_add, List.take_succ_eq_append_getElem hk.1, List.map_append, ← p3]
      rfl
    · refine Weak.cutD ?_ (by simp) ?_ ?_
      · rw [← intsE_app]; simp []
      · simp [envOk, lk, D.sc]
      · simp only [scAll, LB.sc, D.scs, D.sc, u8s, g4s, and_true, true_and, List.length_cons, List.length_nil, Nat.reduceAdd, Nat.reduceLT]
        exact ⟨intsE_sc _ _, fun cells h => by simp at h⟩
  have hxs : xs = cards0 d := by
    rw [p3]
    unfold cards0
    congr 1
    by_cases h4 : xs.length = 4
    · rw [h4]
    · rw [List.take_of_length_le (by omega), List.take_of_length_le (by omega)]
  have hout : decide ((xs.length : Int) < (d.cards.length : Int)) = false ∨ (decide ((xs.length : Int) < (d.cards.length : Int)) = true ∧ decide ((xs.length : Int) < 4) = false) := by
    by_cases h : xs.length < d.cards.length
    · exact .inr ⟨by simp; omega, by simp; omega⟩
    · exact .inl (by simp; omega)
  obtain ⟨cb1, cb2, cb3⟩ := cardsOf_bnd d
  have hil := isAll_len (cardsOf d) 0 (fun x hx => (cb3 x hx).2)
  have hip := isAll_pos cb1 (fun x hx => (cb3 x hx).1)
  have hstart := draft2 d hd
  have hcA : xs.length ≠ 0 → cardsOf d = xs := fun h => by unfold cardsOf; rw [← hxs, if_neg h]
  have hcB : xs.length = 0 → cardsOf d = [2] := fun h => by unfold cardsOf; rw [← hxs, if_pos h]
  by_cases h0 : xs.length = 0
  · have hx0 : xs = [] := List.eq_nil_of_length_eq_zero h0
    subst hx0
    have e0 : (((0 : Nat) : Int) == 0) = true := rfl
    rw [hcB rfl] at hstart
    rcases hout with h | ⟨h, h'⟩
    · have h' : decide (((0 : Nat) : Int) < (d.cards.length : Int)) = false := h
      simp only [wp, stepL_true, stepL_false, doI, quietI, isCallI, wantedD, wantD, undefD, LSt.put, LSt.putO, LSt.putE, qL, effL, evD, boolD, litD, litV, lk, pickC_true, pickC_false, lenD_sl, loadD_ptr, fldD, takeD, esOf, Lx.cellsO, cells_lit, cells_sl, oneV, fillE, putD, storeD, binV, intBin, Option.map_some, cond_true, beq_self_eq_true, Nat.reduceEqDiff, Nat.reduceLT, Nat.reduceAdd, Nat.reduceLeDiff, Nat.reduceSub, Bool.not_false, and_self, if_true, if_false, List.getElem?_cons_zero, List.getElem?_cons_succ, List.length_cons, List.length_nil, List.cons_append, List.nil_append, Nat.zero_add, Nat.add_zero, List.drop_zero, List.drop_succ_cons, List.take_zero, List.map_cons, List.map_nil, List.set_cons_zero, List.set_cons_succ, List.replicate_succ, List.replicate_zero, edr, len_u8s, h', intsE_len, e0]
      refine EvL.weak (Weak.trans ?_ (frzCardsB d)) hstart
      exact Weak.sub (by simp [envSub, lk, drE])
    · cases h'
  · have e0 : (((xs.length : Nat) : Int) == 0) = false := beq_eq_false_iff_ne.2 (by omega)
    rw [hcA h0] at hstart
    rcases hout with h | ⟨h, h'⟩
    · simp only [wp, stepL_true, stepL_false, doI, quietI, isCallI, wantedD, wantD, undefD, LSt.put, LSt.putO, qL, evD, boolD, litD, litV, lk, pickC_false, lenD_sl, loadD_ptr, fldD, takeD, esOf, binV, intBin, Option.map_some, cond_true, beq_self_eq_true, Nat.reduceEqDiff, Nat.reduceLT, Bool.not_false, and_self, if_true, if_false, List.getElem?_cons_zero, List.getElem?_cons_succ, Nat.add_zero, edr, len_u8s, h, intsE_len, e0]
      refine EvL.weak (Weak.trans ?_ (frzCardsA d xs)) hstart
      exact Weak.sub (by simp [envSub, lk, drE])
    · simp only [wp, stepL_true, doI, quietI, isCallI, wantedD, wantD, LSt.put, LSt.putO, qL, evD, boolD, litD, litV, lk, pickC_false, lenD_sl, loadD_ptr, fldD, takeD, esOf, binV, intBin, Option.map_some, cond_true, beq_self_eq_true, Nat.reduceEqDiff, Nat.reduceLT, Bool.not_true, Bool.not_false, and_self, if_true, if_false, List.getElem?_cons_zero, List.getElem?_cons_succ, Nat.add_zero, edr, len_u8s, h, h', intsE_len, e0]
      refine EvL.weak (Weak.trans ?_ (frzCardsA d xs)) hstart
      exact Weak.sub (by simp [envSub, lk, drE])
end Go.Proofs.Ytbjfkbkmoeibdaa.C
