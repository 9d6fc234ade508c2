/-
  Contracts: the draft of a circuit. Conditions: none.
-/
import Derived.Test.YtbjfkbkmoeibdaaDeCcB
import Derived.Test.YtbjfkbkmoeibdaaDe1
namespace Go.Proofs.Ytbjfkbkmoeibdaa.C
open Go Go.Mx Go.Lx
set_option linter.unusedSimpArgs false
set_option linter.unusedVariables false
set_option maxRecDepth 100000
abbrev dU8 (n : Int) : D := .lit (.int .u8 n)
def inVal (card l : Int) : Int := IntKind.i64.wrap (l.tmod (IntKind.i64.wrap ((if 0 > card then 0 else card) + 1)) - 1)
def inputsGo (l : List Int) : Nat → List Int → List Int
  | _, [] => []
  | v, k :: r => inVal k (valAt l ((v % 8 : Nat) : Int)) :: inputsGo l (v + 1) r
theorem inputsGo_len (l : List Int) : ∀ (cards : List Int) (v : Nat), (inputsGo l v cards).length = cards.length
  | [], _ => rfl
  | k :: r, v => by simp [inputsGo, inputsGo_len l r]
theorem has19 : mC.has 19 fn19 := ⟨rfl, fun _ _ _ => rfl⟩
theorem has27 : mC.has 27 fn27 := ⟨rfl, fun _ _ _ => rfl⟩
theorem wrap_ne {n : Int} (h1 : 0 < n) (h2 : n ≤ 9223372036854775808) : (IntKind.i64.wrap n == 0) = false := by
  have : IntKind.i64.wrap n ≠ 0 := by
    simp only [IntKind.wrap, IntKind.bits, IntKind.signed]; simp; omega
  simpa using this
set_option maxHeartbeats 4000000 in
theorem Inputs_ok (cards l : List Int) (hl : cards.length < 1000000) (hc : ∀ x ∈ cards, x < 9223372036854775808) (h8 : l.length = 8) (hl8 : ∀ x ∈ l, 0 ≤ x ∧ x < 256) : Lx.Fn mC 19 [ints false cards, .agg (l.map dU8)] (ints true (inputsGo l 0 cards)) := by
  refine Lx.Fn.intro has19 (by simp [fn19]) (fun h => by cases h) ?_
  simp only [wp, stepL_true, doI, quietI, isCallI, wantedD, LSt.put, LSt.putO, LSt.putE, qL, effL, evD, lk, Lx.cellsO, cells_agg, argsE, Nat.reduceEqDiff, Nat.reduceLT, Bool.not_false, if_true, if_false, List.length_nil, List.nil_append, Nat.zero_add, reduceCtorEq, fn19, len_ints]
  refine EvL.loop (α := List Int) (fun xs => ⟨30, [(3, .ptr 0 0), (5, .sl 1 0 1 xs.length none xs.length), (8, ints false cards), (9, dI cards.length), (10, dI xs.length)], [.cells (l.map dU8), .grow 1 (intsE xs)]⟩) (fun xs => xs.length ≤ cards.length ∧ xs ++ inputsGo l xs.length (cards.drop xs.length) = inputsGo l 0 cards) (fun xs => cards.length - xs.length) []
    ((Weak.ghost (k := 5) (n := 1) (by simp) (by simp [lk])).trans (Weak.sub (by simp [envSub, lk]))) (by simp) ?_
  rintro xs ⟨p1, p2⟩
  refine wp_sound ?_
  by_cases hk : xs.length < cards.length
  · have hlt : decide ((xs.length : Int) < (cards.length : Int)) = true := by simp; omega
    have hw2 : IntKind.i64.wrap ((xs.length : Int) + 1) = ((xs.length + 1 : Nat) : Int) := by rw [wrap64 (by omega) (by omega)]; rfl
    have hrem : Int.tmod (xs.length : Int) 8 = ((xs.length % 8 : Nat) : Int) := rfl
    have hr8 : ((xs.length % 8 : Nat) : Int) < ((8 : Nat) : Int) := by omega
    have hx8 : xs.length % 8 < l.length := by omega
    have hva : valAt l ((xs.length % 8 : Nat) : Int) = l[xs.length % 8] := by unfold valAt; rw [Int.toNat_natCast]; simp [hx8]
    have hget : (l.map dU8)[xs.length % 8]? = some (dU8 (valAt l ((xs.length % 8 : Nat) : Int))) := by rw [hva]; simp [hx8]
    obtain ⟨b1, b2⟩ := hl8 _ (List.getElem_mem hx8)
    rw [← hva] at b1 b2
    have hw3 : IntKind.i64.wrap (valAt l ((xs.length % 8 : Nat) : Int)) = valAt l ((xs.length % 8 : Nat) : Int) := wrap64 (by omega) (by omega)
    have hcb := hc _ (List.getElem_mem hk)
    have hne : (IntKind.i64.wrap ((if 0 > cards[xs.length] then 0 else cards[xs.length]) + 1) == 0) = false := by
      refine wrap_ne ?_ ?_ <;> split <;> omega
    rw [drop_cons hk, inputsGo] at p2
    simp only [wp, stepL_true, doI, quietI, isCallI, wantedD, LSt.put, LSt.putO, LSt.putE, qL, effL, evD, evDs, intD, boolD, litD, litV, litDs, lk, pickC_true, loadD_ptr, loadD_fptr, fldD, takeD, esOf, Lx.cellsO, cells_lit, oneV, fillE, srcD_sl, appD, binV, intBin, mms, mm2, Option.map_some, cond_true, cond_false, beq_self_eq_true, Nat.reduceEqDiff, Nat.reduceLT, Nat.reduceAdd, Nat.reduceLeDiff, Bool.not_false, and_self, if_true, if_false, List.getElem?_cons_zero, List.getElem?_cons_succ, List.length_cons, List.length_nil, List.cons_append, List.nil_append, Nat.zero_add, Int.reduceBEq, List.drop_zero, List.take_succ_cons, List.take_zero, List.map_cons, List.map_nil, List.set_cons_zero, List.set_cons_succ, List.replicate_succ, List.replicate_zero, hlt, idx_ints _ _ hk, hrem, hr8, Int.natCast_nonneg, Int.toNat_natCast, Nat.mul_one, hget, hw3, hne, intsE_len, mb8 (show xs.length < 1000000 by omega), hw2]
    refine ⟨xs ++ [inVal cards[xs.length] (valAt l ((xs.length % 8 : Nat) : Int))], ⟨by simp; omega, by rw [← p2]; simp⟩, by simp; omega, ?_⟩
    refine Weak.cutD (L0 := [.cells (l.map dU8), .grow 1 (intsE (xs ++ [inVal cards[xs.length] (valAt l ((xs.length % 8 : Nat) : Int))]))]) ?_ (by simp) ?_ ?_
    · rw [← intsE_app]; rfl
    · simp [envOk, lk, D.sc, ints]
    · refine ⟨?_, intsE_sc _ _, trivial⟩
      simp only [LB.sc]
      refine scs_iff.2 fun d hd => ?_
      obtain ⟨x, _, rfl⟩ := List.mem_map.1 hd
      trivial
  · have hlt : decide ((xs.length : Int) < (cards.length : Int)) = false := by simp; omega
    rw [List.drop_of_length_le (by omega), inputsGo, List.append_nil] at p2
    simp only [wp, stepL_true, doI, quietI, isCallI, wantedD, LSt.put, LSt.putO, qL, evD, boolD, litD, litV, lk, pickC_false, binV, intBin, Option.map_some, cond_true, beq_self_eq_true, Nat.reduceEqDiff, Nat.reduceLT, Bool.not_false, if_true, if_false, hlt]
    refine RetQ.ret rfl ?_
    rw [← p2]
    exact snp_own (by simp [esOf, intsE_len]) (fun k h => by cases h)
theorem Clone_ok (b0 b1 b2 : LB) (t : Bool) (xs : List Int) (hne : 0 < xs.length) (hl : xs.length < 1000000) : CallL mC false 27 [ints t xs] [b0, b1, b2] (fun d L' => d = .sl 4 0 1 xs.length none xs.length ∧ L' = [b0, b1, b2, .els 1 [], .grow 1 (intsE xs)]) fun _ _ => False := by
  refine CallL.code has27 rfl (by simp [fn27]) ?_
  have h2 : (xs.length = 0) = False := eq_false (by omega)
  have h3 : xs.length * 8 ≤ maxBytes := by show _ ≤ 140737488355328; omega
  have h4 : (xs.length ≤ 0) = False := eq_false (by omega)
  have h5 : ints t xs = .fz t 1 (intsE xs) := rfl
  simp only [wp, stepL_true, doI, quietI, isCallI, wantedD, LSt.put, LSt.putO, LSt.putE, qL, effL, evD, boolD, lk, pickC_false, fillE, srcD_fz, appD, argsE, Nat.reduceEqDiff, Nat.reduceLT, Nat.reduceAdd, Bool.not_false, and_true, and_self, if_true, if_false, List.getElem?_cons_zero, List.getElem?_cons_succ, List.length_cons, List.length_nil, List.cons_append, List.nil_append, Nat.zero_add, Nat.add_zero, List.drop_zero, List.take_zero, List.map_cons, List.map_nil, List.set_cons_zero, List.set_cons_succ, List.replicate_zero, reduceCtorEq, fn27, h5, intsE_len, h2, h3, h4, hne, Nat.le_refl]
  exact ⟨_, rfl, rfl⟩
end Go.Proofs.Ytbjfkbkmoeibdaa.C
namespace Go.Proofs.Ytbjfkbkmoeibdaa.C
open Go Go.Mx Go.Lx
set_option linter.unusedSimpArgs false
set_option linter.unusedVariables false
set_option maxRecDepth 100000
structure G4 where
  a : Nat
  b : Nat
  c : Nat
  d : Nat
structure Dr where
  cards : List Nat
  gates : List G4
  big : Bool
def G4.Ok (g : G4) : Prop := g.a < 256 ∧ g.b < 256 ∧ g.c < 256 ∧ g.d < 256
structure Dr.Ok (d : Dr) : Prop where
  cards : ∀ x ∈ d.cards, x < 256
  gates : ∀ g ∈ d.gates, g.Ok
def g4C (g : G4) : List D := [dU8 g.a, dU8 g.b, dU8 g.c, dU8 g.d]
def u8s (xs : List Nat) : D := .fz false 1 (xs.map fun (x : Nat) => [dU8 x])
def g4s (xs : List G4) : D := .fz false 4 (xs.map g4C)
def drC (d : Dr) : List D := [u8s d.cards, g4s d.gates, dB d.big]
theorem len_u8s (L : List LB) (xs : List Nat) : lenD L (u8s xs) = some (dI xs.length) := by simp [lenD, u8s]
theorem idx_u8s (L : List LB) {xs : List Nat} {k : Nat} (h : k < xs.length) : idxD L 1 (k : Int) (u8s xs) = some (.fptr false [dU8 xs[k]]) := by simp [idxD, u8s, h]
theorem len_g4s (L : List LB) (xs : List G4) : lenD L (g4s xs) = some (dI xs.length) := by simp [lenD, g4s]
theorem idx_g4s (L : List LB) {xs : List G4} {k : Nat} (h : k < xs.length) : idxD L 4 (k : Int) (g4s xs) = some (.fptr false (g4C xs[k])) := by simp [idxD, g4s, h]
def cards0 (d : Dr) : List Int := (d.cards.take 4).map fun x => ((1 + x % 3 : Nat) : Int)
def cardsOf (d : Dr) : List Int := if (cards0 d).length = 0 then [2] else cards0 d
def isG (v x : Nat) : Gate := ⟨2, v, x, 0, []⟩
def isAll : Nat → List Int → List Gate
  | _, [] => []
  | v, k :: r => (List.range k.toNat).map (isG v) ++ isAll (v + 1) r
def unitOf (d : Dr) : Nat := if d.big then 100000000000 else 1
def draftGate (unit i : Nat) (g : G4) : Gate :=
  if g.a % 5 = 0 then ⟨1, 0, 0, ((g.b % 8 * unit : Nat) : Int), []⟩
  else ⟨((3 + g.a % 2 : Nat) : Int), 0, 0, 0, if g.b % i = g.c % i then [((g.b % i : Nat) : Int)] else [((min (g.b % i) (g.c % i) : Nat) : Int), ((max (g.b % i) (g.c % i) : Nat) : Int)]⟩
def draftGo (unit : Nat) : List Gate → List G4 → List Gate
  | gs, [] => gs
  | gs, g :: r => draftGo unit (gs ++ [draftGate unit gs.length g]) r
def draftC (d : Dr) : Circ := ⟨cardsOf d, draftGo (unitOf d) (isAll 0 (cardsOf d)) (d.gates.take 30)⟩
theorem cards0_bnd (d : Dr) : (cards0 d).length ≤ 4 ∧ ∀ x ∈ cards0 d, 1 ≤ x ∧ x ≤ 3 := by
  refine ⟨by simp [cards0]; omega, fun x hx => ?_⟩
  obtain ⟨y, _, rfl⟩ := List.mem_map.1 hx
  omega
theorem cardsOf_bnd (d : Dr) : 1 ≤ (cardsOf d).length ∧ (cardsOf d).length ≤ 4 ∧ ∀ x ∈ cardsOf d, 1 ≤ x ∧ x ≤ 3 := by
  have h := cards0_bnd d
  unfold cardsOf
  split
  · exact ⟨by simp, by simp, fun x hx => by simp at hx; omega⟩
  · exact ⟨by omega, h.1, h.2⟩
theorem isAll_len : ∀ (cs : List Int) (v : Nat), (∀ x ∈ cs, x ≤ 3) → (isAll v cs).length ≤ 3 * cs.length
  | [], _, _ => by simp [isAll]
  | k :: r, v, h => by
    have := isAll_len r (v + 1) fun x hx => h x (by simp [hx])
    have := h k (by simp)
    simp [isAll]
    omega
theorem isAll_pos {cs : List Int} (h : 1 ≤ cs.length) (h1 : ∀ x ∈ cs, 1 ≤ x) : 1 ≤ (isAll 0 cs).length := by
  cases cs with
  | nil => simp at h
  | cons k r => have := h1 k (by simp); simp [isAll]; omega
def gatesE (gs : List Gate) : List (List D) := gs.map (gateC true)
theorem gatesE_len (gs : List Gate) : (gatesE gs).length = gs.length := List.length_map ..
theorem gatesE_app (gs : List Gate) (g : Gate) : gatesE gs ++ [gateC true g] = gatesE (gs ++ [g]) := by simp [gatesE]
theorem gatesE_av (gs : List Gate) (β : Nat) : ∀ cells ∈ gatesE gs, D.avs β cells := by
  intro cells h
  obtain ⟨g, _, rfl⟩ := List.mem_map.1 h
  simp [gateC, ints, D.avs, D.av]
theorem gatesE_sc (gs : List Gate) (n : Nat) : ∀ cells ∈ gatesE gs, D.scs n cells := by
  intro cells h
  obtain ⟨g, _, rfl⟩ := List.mem_map.1 h
  simp [gateC, ints, D.scs, D.sc]
theorem mb56 {k : Nat} (h : k < 1000000) : (k + 1) * 56 ≤ maxBytes := by show _ ≤ 140737488355328; omega
theorem intsE_tr (xs : List Int) : ∀ cells ∈ intsE xs, ∀ d ∈ cells, d.tr := by
  intro cells h d hd
  obtain ⟨x, _, rfl⟩ := List.mem_map.1 h
  simp at hd
  subst hd
  trivial
/-- Memory of a draft, with its cards laid still. -/
def drL (d : Dr) (cs : List Int) (gs : List Gate) : List LB := [.cells (drC d), .cells [.lit (.slice none 0 0), .lit (.slice none 0 0)], .cells [ints true cs, .sl 4 0 5 gs.length none gs.length], .gone, .grow 5 (gatesE gs)]
theorem drL_sc (d : Dr) (cs : List Int) (gs : List Gate) : scAll 5 (drL d cs gs) := by
  simp only [drL, scAll, LB.sc, D.scs, D.sc, drC, u8s, g4s, ints, and_true, true_and, Nat.reduceLT]
  exact gatesE_sc gs 5
theorem take_all {α : Type} (xs : List α) : (xs.drop 0).take xs.length = xs := by simp
def drE (v : Nat) : List (Nat × D) := [(1, .ptr 0 0), (2, .ptr 1 0), (3, .ptr 2 0), (5, dI v)]
/-- The cards are laid still. -/
theorem frzCardsA (d : Dr) (xs : List Int) : Weak 0 ⟨140, drE 0, [.cells (drC d), .cells [.lit (.slice none 0 0), .lit (.slice none 0 0)], .cells [.sl 3 0 1 xs.length none xs.length, .sl 4 0 5 0 none 0], .grow 1 (intsE xs), .grow 5 []]⟩ ⟨140, drE 0, drL d xs []⟩ := by
  refine Weak.frz (β := 3) (n := 1) (es := intsE xs) (by omega) (.inr rfl) (intsE_tr xs) (by simp [drE, envAv, D.av]) ?_
  refine .there (by decide) (.same (by simp [LB.av, D.avs, D.av, drC, u8s, g4s])) (.there (by decide) (.same (by simp [LB.av, D.avs, D.av])) (.there (by decide) (.cells rfl (frz_cons ?_ (frz_cons (.same (by simp [D.av])) frz_nil))) (.here (.there (by decide) (.same (by simp [LB.av])) (.nil _)))))
  have h := Frz.sl (β := 3) (n := 1) (es := intsE xs) (s := 0) (len := xs.length) (cap := none) (st := xs.length) (intsE_len xs).symm (by rw [intsE_len]; omega) (fun k h => by cases h)
  have e : ((intsE xs).drop 0).take xs.length = intsE xs := by rw [← intsE_len xs]; simp
  rw [e] at h
  exact h
theorem frzCardsB (d : Dr) : Weak 0 ⟨140, drE 0, [.cells (drC d), .cells [.lit (.slice none 0 0), .lit (.slice none 0 0)], .cells [.sl 5 0 1 1 (some 1) 1, .sl 4 0 5 0 none 0], .grow 1 [], .grow 5 [], .els 1 [[dI 2]]]⟩ ⟨140, drE 0, drL d [2] []⟩ := by
  have h1 : Weak 0 ⟨140, drE 0, [.cells (drC d), .cells [.lit (.slice none 0 0), .lit (.slice none 0 0)], .cells [.sl 5 0 1 1 (some 1) 1, .sl 4 0 5 0 none 0], .grow 1 [], .grow 5 [], .els 1 [[dI 2]]]⟩
      ⟨140, drE 0, [.cells (drC d), .cells [.lit (.slice none 0 0), .lit (.slice none 0 0)], .cells [ints true [2], .sl 4 0 5 0 none 0], .grow 1 [], .grow 5 [], .gone]⟩ := by
    refine Weak.frz (β := 5) (n := 1) (es := [[dI 2]]) (by omega) (.inl rfl) (intsE_tr [2]) (by simp [drE, envAv, D.av]) ?_
    refine .there (by decide) (.same (by simp [LB.av, D.avs, D.av, drC, u8s, g4s])) (.there (by decide) (.same (by simp [LB.av, D.avs, D.av])) (.there (by decide) (.cells rfl (frz_cons ?_ (frz_cons (.same (by simp [D.av])) frz_nil))) (.there (by decide) (.same (by simp [LB.av])) (.there (by decide) (.same (by simp [LB.av])) (.here (.nil _))))))
    exact Frz.sl (β := 5) (n := 1) (es := [[dI 2]]) (s := 0) (len := 1) (cap := some 1) (st := 1) rfl (by simp) (fun k h => by cases h; omega)
  have h2 : Weak 0 ⟨140, drE 0, [.cells (drC d), .cells [.lit (.slice none 0 0), .lit (.slice none 0 0)], .cells [ints true [2], .sl 4 0 5 0 none 0], .grow 1 [], .grow 5 [], .gone]⟩
      ⟨140, drE 0, [.cells (drC d), .cells [.lit (.slice none 0 0), .lit (.slice none 0 0)], .cells [ints true [2], .sl 4 0 5 0 none 0], .gone, .grow 5 [], .gone]⟩ := by
    refine Weak.frz (β := 3) (n := 1) (es := []) (by omega) (.inr rfl) (by simp) (by simp [drE, envAv, D.av]) ?_
    exact .there (by decide) (.same (by simp [LB.av, D.avs, D.av, drC, u8s, g4s])) (.there (by decide) (.same (by simp [LB.av, D.avs, D.av])) (.there (by decide) (.same (by simp [LB.av, D.avs, D.av, ints])) (.here (.there (by decide) (.same (by simp [LB.av])) (.there (by decide) (.same (by simp [LB.av])) (.nil _))))))
  exact h1.trans (h2.trans (Weak.cutD (L0 := drL d [2] []) rfl (by simp) (by simp [envOk, lk, D.sc, drE, drL]) (drL_sc d [2] [])))
theorem gate_frz {β n : Nat} {es : List (List D)} (a b c e : Int) {x : D} {xs : List Int} (h : Frz β n es x (ints true xs)) : ∀ (j : Nat) d d', [dI a, dI b, dI c, dI e, x][j]? = some d → (gateC true ⟨a, b, c, e, xs⟩)[j]? = some d' → Frz β n es d d' :=
  frz_cons (.same trivial) (frz_cons (.same trivial) (frz_cons (.same trivial) (frz_cons (.same trivial) (frz_cons h frz_nil))))
/-- A gate without arguments came to it. -/
theorem frzGate (d : Dr) (cs : List Int) (gs : List Gate) (N : Nat) (E : List (Nat × D)) (a b c e : Int) (hE : envAv 5 E) (hs : envOk E 5 E) :
    Weak 0 ⟨N, E, [.cells (drC d), .cells [.lit (.slice none 0 0), .lit (.slice none 0 0)], .cells [ints true cs, .sl 4 0 5 (gs.length + 1) none (gs.length + 1)], .gone, .grow 5 (gatesE gs ++ [[dI a, dI b, dI c, dI e, .lit (.slice none 0 0)]]), .els 5 [[dI a, dI b, dI c, dI e, .lit (.slice none 0 0)]]]⟩
      ⟨N, E, drL d cs (gs ++ [⟨a, b, c, e, []⟩])⟩ := by
  have h1 : Weak 0 ⟨N, E, [.cells (drC d), .cells [.lit (.slice none 0 0), .lit (.slice none 0 0)], .cells [ints true cs, .sl 4 0 5 (gs.length + 1) none (gs.length + 1)], .gone, .grow 5 (gatesE gs ++ [[dI a, dI b, dI c, dI e, .lit (.slice none 0 0)]]), .els 5 [[dI a, dI b, dI c, dI e, .lit (.slice none 0 0)]]]⟩
      ⟨N, E, [.cells (drC d), .cells [.lit (.slice none 0 0), .lit (.slice none 0 0)], .cells [ints true cs, .sl 4 0 5 (gs.length + 1) none (gs.length + 1)], .gone, .grow 5 (gatesE gs ++ [gateC true ⟨a, b, c, e, []⟩]), .gone]⟩ := by
    refine Weak.frz (β := 5) (n := 5) (es := [[dI a, dI b, dI c, dI e, .lit (.slice none 0 0)]]) (by omega) (.inl rfl) (by simp [D.tr]) hE ?_
    exact .there (by decide) (.same (by simp [LB.av, D.avs, D.av, drC, u8s, g4s])) (.there (by decide) (.same (by simp [LB.av, D.avs, D.av])) (.there (by decide) (.same (by simp [LB.av, D.avs, D.av, ints])) (.there (by decide) (.same trivial) (.there (by decide) (FrzB.app (gatesE_av gs 5) rfl (gate_frz a b c e .nil)) (.here (.nil _))))))
  refine h1.trans (Weak.cutD (L0 := drL d cs (gs ++ [⟨a, b, c, e, []⟩])) ?_ (by simp) hs (drL_sc _ _ _))
  rw [gatesE_app]
  simp [drL]
theorem frzGate6 (d : Dr) (cs : List Int) (gs : List Gate) (N : Nat) (E : List (Nat × D)) (a b c e : Int) (x5 : LB) (h5 : x5.av 6) (hE : envAv 6 E) (hs : envOk E 5 E) :
    Weak 0 ⟨N, E, [.cells (drC d), .cells [.lit (.slice none 0 0), .lit (.slice none 0 0)], .cells [ints true cs, .sl 4 0 5 (gs.length + 1) none (gs.length + 1)], .gone, .grow 5 (gatesE gs ++ [[dI a, dI b, dI c, dI e, .lit (.slice none 0 0)]]), x5, .els 5 [[dI a, dI b, dI c, dI e, .lit (.slice none 0 0)]]]⟩
      ⟨N, E, drL d cs (gs ++ [⟨a, b, c, e, []⟩])⟩ := by
  have h1 : Weak 0 ⟨N, E, [.cells (drC d), .cells [.lit (.slice none 0 0), .lit (.slice none 0 0)], .cells [ints true cs, .sl 4 0 5 (gs.length + 1) none (gs.length + 1)], .gone, .grow 5 (gatesE gs ++ [[dI a, dI b, dI c, dI e, .lit (.slice none 0 0)]]), x5, .els 5 [[dI a, dI b, dI c, dI e, .lit (.slice none 0 0)]]]⟩
      ⟨N, E, [.cells (drC d), .cells [.lit (.slice none 0 0), .lit (.slice none 0 0)], .cells [ints true cs, .sl 4 0 5 (gs.length + 1) none (gs.length + 1)], .gone, .grow 5 (gatesE gs ++ [gateC true ⟨a, b, c, e, []⟩]), x5, .gone]⟩ := by
    refine Weak.frz (β := 6) (n := 5) (es := [[dI a, dI b, dI c, dI e, .lit (.slice none 0 0)]]) (by omega) (.inl rfl) (by simp [D.tr]) hE ?_
    exact .there (by decide) (.same (by simp [LB.av, D.avs, D.av, drC, u8s, g4s])) (.there (by decide) (.same (by simp [LB.av, D.avs, D.av])) (.there (by decide) (.same (by simp [LB.av, D.avs, D.av, ints])) (.there (by decide) (.same trivial) (.there (by decide) (FrzB.app (gatesE_av gs 6) rfl (gate_frz a b c e .nil)) (.there (by decide) (.same h5) (.here (.nil _)))))))
  refine h1.trans (Weak.cutD (L0 := drL d cs (gs ++ [⟨a, b, c, e, []⟩])) ?_ (by simp) hs (drL_sc _ _ _))
  rw [gatesE_app]
  simp [drL]
/-- A gate with arguments came to it: these lie in block β, and nothing else is kept beyond 4. -/
theorem frzArgs6 (d : Dr) (cs : List Int) (gs : List Gate) (N : Nat) (E : List (Nat × D)) (a b c e : Int) (xs : List Int) (x5 : LB) (h5 : x5.av 6) (h5' : x5.sc 7) (k : Nat) (hk : xs.length ≤ k) (hE : envAv 6 E) (hs : envOk E 5 E) (R' : List LB) (hs7 : envOk E 7 E) :
    Weak 0 ⟨N, E, [.cells (drC d), .cells [.lit (.slice none 0 0), .lit (.slice none 0 0)], .cells [ints true cs, .sl 4 0 5 (gs.length + 1) none (gs.length + 1)], .gone, .grow 5 (gatesE gs ++ [[dI a, dI b, dI c, dI e, .sl 6 0 1 xs.length (some k) xs.length]]), x5, .els 1 (intsE xs)] ++ R'⟩
      ⟨N, E, drL d cs (gs ++ [⟨a, b, c, e, xs⟩])⟩ := by
  have h0 : Weak 0 ⟨N, E, [.cells (drC d), .cells [.lit (.slice none 0 0), .lit (.slice none 0 0)], .cells [ints true cs, .sl 4 0 5 (gs.length + 1) none (gs.length + 1)], .gone, .grow 5 (gatesE gs ++ [[dI a, dI b, dI c, dI e, .sl 6 0 1 xs.length (some k) xs.length]]), x5, .els 1 (intsE xs)] ++ R'⟩
      ⟨N, E, [.cells (drC d), .cells [.lit (.slice none 0 0), .lit (.slice none 0 0)], .cells [ints true cs, .sl 4 0 5 (gs.length + 1) none (gs.length + 1)], .gone, .grow 5 (gatesE gs ++ [[dI a, dI b, dI c, dI e, .sl 6 0 1 xs.length (some k) xs.length]]), x5, .els 1 (intsE xs)]⟩ := by
    refine Weak.cut (by simp) hs7 ?_
    simp only [scAll, LB.sc, D.scs, D.sc, drC, u8s, g4s, ints, and_true, true_and, List.length_cons, List.length_nil, Nat.reduceAdd, Nat.reduceLT]
    refine ⟨fun cells hc => ?_, h5', intsE_sc _ _⟩
    rcases List.mem_append.1 hc with hc | hc
    · exact gatesE_sc gs 7 cells hc
    · simp at hc; subst hc; simp [D.scs, D.sc]
  have h1 : Weak 0 ⟨N, E, [.cells (drC d), .cells [.lit (.slice none 0 0), .lit (.slice none 0 0)], .cells [ints true cs, .sl 4 0 5 (gs.length + 1) none (gs.length + 1)], .gone, .grow 5 (gatesE gs ++ [[dI a, dI b, dI c, dI e, .sl 6 0 1 xs.length (some k) xs.length]]), x5, .els 1 (intsE xs)]⟩
      ⟨N, E, [.cells (drC d), .cells [.lit (.slice none 0 0), .lit (.slice none 0 0)], .cells [ints true cs, .sl 4 0 5 (gs.length + 1) none (gs.length + 1)], .gone, .grow 5 (gatesE gs ++ [gateC true ⟨a, b, c, e, xs⟩]), x5, .gone]⟩ := by
    refine Weak.frz (β := 6) (n := 1) (es := intsE xs) (by omega) (.inl rfl) (intsE_tr xs) hE ?_
    have h := Frz.sl (β := 6) (n := 1) (es := intsE xs) (s := 0) (len := xs.length) (cap := some k) (st := xs.length) (intsE_len xs).symm (by rw [intsE_len]; omega) (fun j h => by cases h; exact hk)
    have e' : ((intsE xs).drop 0).take xs.length = intsE xs := by rw [← intsE_len xs]; simp
    rw [e'] at h
    exact .there (by decide) (.same (by simp [LB.av, D.avs, D.av, drC, u8s, g4s])) (.there (by decide) (.same (by simp [LB.av, D.avs, D.av])) (.there (by decide) (.same (by simp [LB.av, D.avs, D.av, ints])) (.there (by decide) (.same trivial) (.there (by decide) (FrzB.app (gatesE_av gs 6) rfl (gate_frz a b c e h)) (.there (by decide) (.same h5) (.here (.nil _)))))))
  refine h0.trans (h1.trans (Weak.cutD (L0 := drL d cs (gs ++ [⟨a, b, c, e, xs⟩])) ?_ (by simp) hs (drL_sc _ _ _)))
  rw [gatesE_app]
  simp [drL]
theorem frzArgs7 (d : Dr) (cs : List Int) (gs : List Gate) (N : Nat) (E : List (Nat × D)) (a b c e : Int) (xs : List Int) (x5 x6 : LB) (h5 : x5.av 7) (h5' : x5.sc 8) (h6 : x6.av 7) (h6' : x6.sc 8) (k : Nat) (hk : xs.length ≤ k) (hE : envAv 7 E) (hs : envOk E 5 E) (R' : List LB) (hs7 : envOk E 8 E) :
    Weak 0 ⟨N, E, [.cells (drC d), .cells [.lit (.slice none 0 0), .lit (.slice none 0 0)], .cells [ints true cs, .sl 4 0 5 (gs.length + 1) none (gs.length + 1)], .gone, .grow 5 (gatesE gs ++ [[dI a, dI b, dI c, dI e, .sl 7 0 1 xs.length (some k) xs.length]]), x5, x6, .els 1 (intsE xs)] ++ R'⟩
      ⟨N, E, drL d cs (gs ++ [⟨a, b, c, e, xs⟩])⟩ := by
  have h0 : Weak 0 ⟨N, E, [.cells (drC d), .cells [.lit (.slice none 0 0), .lit (.slice none 0 0)], .cells [ints true cs, .sl 4 0 5 (gs.length + 1) none (gs.length + 1)], .gone, .grow 5 (gatesE gs ++ [[dI a, dI b, dI c, dI e, .sl 7 0 1 xs.length (some k) xs.length]]), x5, x6, .els 1 (intsE xs)] ++ R'⟩
      ⟨N, E, [.cells (drC d), .cells [.lit (.slice none 0 0), .lit (.slice none 0 0)], .cells [ints true cs, .sl 4 0 5 (gs.length + 1) none (gs.length + 1)], .gone, .grow 5 (gatesE gs ++ [[dI a, dI b, dI c, dI e, .sl 7 0 1 xs.length (some k) xs.length]]), x5, x6, .els 1 (intsE xs)]⟩ := by
    refine Weak.cut (by simp) hs7 ?_
    simp only [scAll, LB.sc, D.scs, D.sc, drC, u8s, g4s, ints, and_true, true_and, List.length_cons, List.length_nil, Nat.reduceAdd, Nat.reduceLT]
    refine ⟨fun cells hc => ?_, h5', h6', intsE_sc _ _⟩
    rcases List.mem_append.1 hc with hc | hc
    · exact gatesE_sc gs 8 cells hc
    · simp at hc; subst hc; simp [D.scs, D.sc]
  have h1 : Weak 0 ⟨N, E, [.cells (drC d), .cells [.lit (.slice none 0 0), .lit (.slice none 0 0)], .cells [ints true cs, .sl 4 0 5 (gs.length + 1) none (gs.length + 1)], .gone, .grow 5 (gatesE gs ++ [[dI a, dI b, dI c, dI e, .sl 7 0 1 xs.length (some k) xs.length]]), x5, x6, .els 1 (intsE xs)]⟩
      ⟨N, E, [.cells (drC d), .cells [.lit (.slice none 0 0), .lit (.slice none 0 0)], .cells [ints true cs, .sl 4 0 5 (gs.length + 1) none (gs.length + 1)], .gone, .grow 5 (gatesE gs ++ [gateC true ⟨a, b, c, e, xs⟩]), x5, x6, .gone]⟩ := by
    refine Weak.frz (β := 7) (n := 1) (es := intsE xs) (by omega) (.inl rfl) (intsE_tr xs) hE ?_
    have h := Frz.sl (β := 7) (n := 1) (es := intsE xs) (s := 0) (len := xs.length) (cap := some k) (st := xs.length) (intsE_len xs).symm (by rw [intsE_len]; omega) (fun j h => by cases h; exact hk)
    have e' : ((intsE xs).drop 0).take xs.length = intsE xs := by rw [← intsE_len xs]; simp
    rw [e'] at h
    exact .there (by decide) (.same (by simp [LB.av, D.avs, D.av, drC, u8s, g4s])) (.there (by decide) (.same (by simp [LB.av, D.avs, D.av])) (.there (by decide) (.same (by simp [LB.av, D.avs, D.av, ints])) (.there (by decide) (.same trivial) (.there (by decide) (FrzB.app (gatesE_av gs 7) rfl (gate_frz a b c e h)) (.there (by decide) (.same h5) (.there (by decide) (.same h6) (.here (.nil _))))))))
  refine h0.trans (h1.trans (Weak.cutD (L0 := drL d cs (gs ++ [⟨a, b, c, e, xs⟩])) ?_ (by simp) hs (drL_sc _ _ _)))
  rw [gatesE_app]
  simp [drL]
end Go.Proofs.Ytbjfkbkmoeibdaa.C
