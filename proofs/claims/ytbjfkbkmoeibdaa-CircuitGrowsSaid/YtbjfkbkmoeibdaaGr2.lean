/-
  CircuitGrows returns true for all arguments. Conditions: none.
-/
import Derived.Test.YtbjfkbkmoeibdaaCcE
import Derived.Test.YtbjfkbkmoeibdaaGrCl1
namespace Go.Proofs.Ytbjfkbkmoeibdaa.C
open Go Go.Mx Go.Lx
set_option linter.unusedSimpArgs false
set_option linter.unusedVariables false
theorem gatesB_app {cards : List Int} : ∀ (gs : List Gate) (g : Gate) (i : Int), gatesB cards i (gs ++ [g]) = (gatesB cards i gs && gateB cards (i + gs.length) g)
  | [], g, i => by simp [gatesB]
  | x :: r, g, i => by
    simp only [List.cons_append, gatesB, gatesB_app r g (i + 1), List.length_cons, Bool.and_assoc]
    congr 3
    omega
theorem gatesB_all {cards : List Int} : ∀ (gs : List Gate) (i : Int), (∀ g ∈ gs, ∀ j, gateB cards j g = true) → gatesB cards i gs = true
  | [], _, _ => rfl
  | x :: r, i, h => by simp [gatesB, h x (by simp) i, gatesB_all r (i + 1) fun g hg => h g (by simp [hg])]
theorem mem_isAll (cs : List Int) : ∀ (l : List Int) (v : Nat), l = cs.drop v → ∀ g ∈ isAll v l, ∃ v' x : Nat, g = isG v' x ∧ v' < cs.length ∧ (x : Int) < cs.getD v' 0
  | [], v, _, g, hg => by simp [isAll] at hg
  | k :: r, v, hl, g, hg => by
    have hv : v < cs.length := by
      by_cases h : v < cs.length
      · exact h
      · rw [List.drop_of_length_le (by omega)] at hl; cases hl
    rw [drop_cons hv] at hl
    cases hl
    simp only [isAll, List.mem_append, List.mem_map, List.mem_range] at hg
    rcases hg with ⟨x, hx, rfl⟩ | hg
    · exact ⟨v, x, rfl, hv, by simp [hv]; omega⟩
    · exact mem_isAll cs _ (v + 1) rfl g hg
theorem isG_ok {cs : List Int} {v x : Nat} (hv : v < cs.length) (hx : (x : Int) < cs.getD v 0) (j : Int) : gateB cs j (isG v x) = true := by
  unfold gateB isG
  simp only [Int.reduceBEq, Bool.false_eq_true, if_false, if_true, Int.natCast_nonneg, decide_true, Bool.true_and, Int.toNat_natCast, List.length_nil, Bool.and_true, Bool.and_eq_true, decide_eq_true_eq]
  exact ⟨by omega, hx, rfl⟩
theorem draftGate_ok {cs : List Int} {unit i : Nat} (hu : unit ≤ 100000000000) (hi : 1 ≤ i) (g : G4) : gateB cs i (draftGate unit i g) = true := by
  unfold draftGate
  split
  · unfold gateB
    have hmul : g.b % 8 * unit ≤ 8 * 100000000000 := Nat.mul_le_mul (by omega) hu
    simp only [Int.reduceBEq, if_true, Bool.and_eq_true, decide_eq_true_eq, List.length_nil]
    refine ⟨by omega, by omega, by decide, by decide, by decide⟩
  · have h1 : (((3 + g.a % 2 : Nat) : Int) == 1) = false := beq_eq_false_iff_ne.2 (by omega)
    have h2 : (((3 + g.a % 2 : Nat) : Int) == 2) = false := beq_eq_false_iff_ne.2 (by omega)
    have h3 : (((3 + g.a % 2 : Nat) : Int) == 3 || ((3 + g.a % 2 : Nat) : Int) == 4) = true := by
      simp only [Bool.or_eq_true, beq_iff_eq]; omega
    have hb := Nat.mod_lt g.b hi
    have hc := Nat.mod_lt g.c hi
    unfold gateB
    simp only [h1, h2, h3, if_true, Bool.false_eq_true, if_false]
    split
    · simp only [List.length_cons, List.length_nil, incr, Bool.and_true]
      simp
      omega
    · rename_i hne
      simp only [List.length_cons, List.length_nil, incr, Bool.and_true]
      simp
      omega
theorem draftGo_ok {cs : List Int} {unit : Nat} (hu : unit ≤ 100000000000) : ∀ (l : List G4) (gs : List Gate), 1 ≤ gs.length → gatesB cs 0 gs = true → gatesB cs 0 (draftGo unit gs l) = true ∧ (draftGo unit gs l).length = gs.length + l.length
  | [], gs, _, h => ⟨h, by simp [draftGo]⟩
  | g :: r, gs, h1, h => by
    have h2 := draftGo_ok hu r (gs ++ [draftGate unit gs.length g]) (by simp) (by rw [gatesB_app, h, Int.zero_add, draftGate_ok hu h1]; rfl)
    refine ⟨h2.1, ?_⟩
    rw [draftGo, h2.2]
    simp
    omega
theorem prodGo_bnd : ∀ (l : List Int) (s : Int) (k : Nat), (∀ x ∈ l, 1 ≤ x ∧ x ≤ 3) → 1 ≤ s → s ≤ 3 ^ k → ∃ r, prodGo s l = some r ∧ r ≤ 3 ^ (k + l.length)
  | [], s, k, _, _, h => ⟨s, rfl, by simpa using h⟩
  | x :: r, s, k, hx, h1, h2 => by
    obtain ⟨q1, q2⟩ := hx x (by simp)
    have h3 : s * x ≤ s * 3 := Int.mul_le_mul_of_nonneg_left q2 (by omega)
    have h4 : (3 : Int) ^ (k + 1) = 3 ^ k * 3 := Int.pow_succ ..
    have h5 : s * 1 ≤ s * x := Int.mul_le_mul_of_nonneg_left q1 (by omega)
    obtain ⟨r', g1, g2⟩ := prodGo_bnd r (s * x) (k + 1) (fun y hy => hx y (by simp [hy])) (by omega) (by omega)
    refine ⟨r', ?_, ?_⟩
    · rw [prodGo, if_neg (by omega)]; exact g1
    · rw [List.length_cons, Nat.add_comm r.length 1, ← Nat.add_assoc]; exact g2
theorem draft_gates (d : Dr) : gatesB (cardsOf d) 0 (draftC d).gates = true ∧ 1 ≤ (draftC d).gates.length ∧ (draftC d).gates.length ≤ 42 := by
  obtain ⟨cb1, cb2, cb3⟩ := cardsOf_bnd d
  have hil := isAll_len (cardsOf d) 0 (fun x hx => (cb3 x hx).2)
  have hip := isAll_pos cb1 (fun x hx => (cb3 x hx).1)
  have hu : unitOf d ≤ 100000000000 := by unfold unitOf; split <;> omega
  have h := draftGo_ok (cs := cardsOf d) hu (d.gates.take 30) (isAll 0 (cardsOf d)) hip (gatesB_all _ _ fun g hg j => by
    obtain ⟨v, x, rfl, h1, h2⟩ := mem_isAll (cardsOf d) _ 0 rfl g hg
    exact isG_ok h1 h2 j)
  have hl : (d.gates.take 30).length ≤ 30 := by simp; omega
  refine ⟨h.1, ?_, ?_⟩
  · show 1 ≤ (draftGo _ _ _).length
    omega
  · show (draftGo _ _ _).length ≤ 42
    omega
theorem cardsB_of {cs : List Int} (h1 : 1 ≤ cs.length) (h2 : cs.length ≤ 4) (h3 : ∀ x ∈ cs, 1 ≤ x ∧ x ≤ 3) : cardsB cs = true := by
  obtain ⟨r, g1, g2⟩ := prodGo_bnd cs 1 0 h3 (by omega) (by simp)
  have h5 : (3 : Int) ^ (0 + cs.length) ≤ 1024 := by
    have : cs.length = 1 ∨ cs.length = 2 ∨ cs.length = 3 ∨ cs.length = 4 := by omega
    rcases this with h | h | h | h <;> rw [h] <;> decide
  unfold cardsB
  rw [g1]
  simp only [Bool.and_eq_true, decide_eq_true_eq]
  exact ⟨⟨h1, by omega⟩, by omega⟩
theorem draft_valid (d : Dr) : validB (draftC d) = true := by
  obtain ⟨cb1, cb2, cb3⟩ := cardsOf_bnd d
  obtain ⟨g1, g2, g3⟩ := draft_gates d
  unfold validB
  simp only [Bool.and_eq_true, decide_eq_true_eq]
  exact ⟨cardsB_of cb1 cb2 cb3, g2, by omega, g1⟩
theorem incr_len {b i : Int} : ∀ {xs : List Int}, incr b i xs = true → -1 ≤ b → (xs.length : Int) ≤ max (i - b - 1) 0
  | [], _, _ => by simp; omega
  | a :: r, h, hb => by
    simp only [incr, Bool.and_eq_true, Bool.not_eq_true', decide_eq_false_iff_not] at h
    have := incr_len h.2 (by omega)
    simp only [List.length_cons]
    omega
theorem draftGate_args (unit i : Nat) (g : G4) : (draftGate unit i g).args.length ≤ 2 := by
  unfold draftGate
  split
  · simp
  · split <;> simp
theorem draftGo_args (unit : Nat) : ∀ (l : List G4) (gs : List Gate), (∀ g ∈ gs, g.args.length ≤ 2) → ∀ g ∈ draftGo unit gs l, g.args.length ≤ 2
  | [], gs, h => h
  | x :: r, gs, h => draftGo_args unit r _ fun g hg => by
    rcases List.mem_append.1 hg with hg | hg
    · exact h g hg
    · simp at hg; subst hg; exact draftGate_args _ _ _
theorem draft_small (d : Dr) : (draftC d).Small := by
  obtain ⟨cb1, cb2, cb3⟩ := cardsOf_bnd d
  obtain ⟨g1, g2, g3⟩ := draft_gates d
  refine ⟨?_, by omega, fun g hg => ?_⟩
  · show (cardsOf d).length < 1000000
    omega
  · have := draftGo_args (unitOf d) (d.gates.take 30) (isAll 0 (cardsOf d)) (fun g hg => by
      obtain ⟨v, x, rfl, _⟩ := mem_isAll (cardsOf d) _ 0 rfl g hg
      simp [isG]) g hg
    omega
/-- Values of an input for small cards. -/
theorem inVal_bnd {k l : Int} (hk : 1 ≤ k) (hk' : k ≤ 3) (hl : 0 ≤ l) : -1 ≤ inVal k l ∧ inVal k l < k := by
  unfold inVal
  rw [if_neg (by omega), wrap64 (n := k + 1) (by omega) (by omega), Int.tmod_eq_emod_of_nonneg hl]
  have h1 := Int.emod_nonneg l (show k + 1 ≠ 0 by omega)
  have h2 := Int.emod_lt_of_pos l (show 0 < k + 1 by omega)
  rw [wrap64 (by omega) (by omega)]
  omega
theorem valAt_nonneg {l : List Int} (h : ∀ x ∈ l, 0 ≤ x) (a : Int) : 0 ≤ valAt l a := by
  unfold valAt
  by_cases ha : a.toNat < l.length
  · have := h _ (List.getElem_mem ha)
    simpa [ha] using this
  · simp [List.getElem?_eq_none (show l.length ≤ a.toNat by omega)]
theorem inGo_inputs (l : List Int) (hl : ∀ x ∈ l, 0 ≤ x) : ∀ (cs : List Int) (v : Nat), (∀ x ∈ cs, 1 ≤ x ∧ x ≤ 3) → inGo cs (inputsGo l v cs) = true
  | [], _, _ => rfl
  | k :: r, v, h => by
    obtain ⟨h1, h2⟩ := h k (by simp)
    obtain ⟨g1, g2⟩ := inVal_bnd h1 h2 (valAt_nonneg hl ((v % 8 : Nat) : Int))
    simp only [inputsGo, inGo, inGo_inputs l hl r (v + 1) fun x hx => h x (by simp [hx]), Bool.and_true, Bool.and_eq_true, Bool.not_eq_true', decide_eq_false_iff_not]
    omega
theorem inputB_inputs (l : List Int) (hl : ∀ x ∈ l, 0 ≤ x) {cs : List Int} (h : ∀ x ∈ cs, 1 ≤ x ∧ x ≤ 3) : inputB cs (inputsGo l 0 cs) = true := by
  unfold inputB
  rw [inputsGo_len, inGo_inputs l hl cs 0 h]
  simp
/-- Less is known. -/
def lessB : List Int → List Int → Prop
  | [], [] => True
  | x :: r, y :: s => (y = x ∨ y = -1) ∧ lessB r s
  | _, _ => False
theorem lessB_refl : ∀ l, lessB l l
  | [] => trivial
  | x :: r => ⟨.inl rfl, lessB_refl r⟩
theorem lessB_len : ∀ {l m : List Int}, lessB l m → l.length = m.length
  | [], [], _ => rfl
  | _ :: r, _ :: s, h => by simp [lessB_len h.2]
  | [], _ :: _, h => h.elim
  | _ :: _, [], h => h.elim
theorem lessB_set : ∀ {l m : List Int} (k : Nat), lessB l m → lessB l (m.set k (-1))
  | [], [], k, _ => trivial
  | x :: r, y :: s, 0, h => ⟨.inr rfl, h.2⟩
  | x :: r, y :: s, k + 1, h => ⟨h.1, lessB_set k h.2⟩
  | [], _ :: _, _, h => h.elim
  | _ :: _, [], _, h => h.elim
theorem lessB_get : ∀ {l m : List Int}, lessB l m → ∀ k : Nat, m.getD k 0 = l.getD k 0 ∨ m.getD k 0 = -1
  | [], [], _, k => .inl rfl
  | x :: r, y :: s, h, 0 => by simpa using h.1
  | x :: r, y :: s, h, k + 1 => by simpa using lessB_get h.2 k
  | [], _ :: _, h, _ => h.elim
  | _ :: _, [], h, _ => h.elim
theorem lessB_in : ∀ {cs l m : List Int}, lessB l m → (∀ x ∈ cs, 1 ≤ x ∧ x ≤ 3) → inGo cs l = true → inGo cs m = true
  | [], _, _, _, _, _ => by simp [inGo]
  | c :: r, [], [], _, _, _ => by simp [inGo]
  | c :: r, x :: s, y :: t, h, hc, hi => by
    have h1 := hc c (by simp)
    simp only [inGo, Bool.and_eq_true, Bool.not_eq_true', decide_eq_false_iff_not] at hi ⊢
    refine ⟨?_, lessB_in h.2 (fun z hz => hc z (by simp [hz])) hi.2⟩
    rcases h.1 with h | h <;> omega
  | _ :: _, [], _ :: _, h, _, _ => h.elim
  | _ :: _, _ :: _, [], h, _, _ => h.elim
/-- Values that are no smaller. -/
def leL : List Int → List Int → Prop
  | [], [] => True
  | x :: r, y :: s => (0 ≤ x ∧ x ≤ y) ∧ leL r s
  | _, _ => False
theorem leL_len : ∀ {l m : List Int}, leL l m → l.length = m.length
  | [], [], _ => rfl
  | _ :: r, _ :: s, h => by simp [leL_len h.2]
  | [], _ :: _, h => h.elim
  | _ :: _, [], h => h.elim
theorem leL_get : ∀ {l m : List Int}, leL l m → ∀ k : Nat, 0 ≤ l.getD k 0 ∧ l.getD k 0 ≤ m.getD k 0
  | [], [], _, k => by simp
  | x :: r, y :: s, h, 0 => by simpa using h.1
  | x :: r, y :: s, h, k + 1 => by simpa using leL_get h.2 k
  | [], _ :: _, h, _ => h.elim
  | _ :: _, [], h, _ => h.elim
theorem leL_app : ∀ {l m : List Int} {x y : Int}, leL l m → 0 ≤ x → x ≤ y → leL (l ++ [x]) (m ++ [y])
  | [], [], x, y, _, h1, h2 => ⟨⟨h1, h2⟩, trivial⟩
  | _ :: r, _ :: s, x, y, h, h1, h2 => ⟨h.1, leL_app h.2 h1 h2⟩
  | [], _ :: _, _, _, h, _, _ => h.elim
  | _ :: _, [], _, _, h, _, _ => h.elim
theorem leL_map {l m : List Int} (h : leL l m) : ∀ (args : List Int), leL (args.map (valAt l)) (args.map (valAt m))
  | [] => trivial
  | a :: r => ⟨leL_get h a.toNat, leL_map h r⟩
theorem addT_mono {a b a' b' : Int} (h0 : 0 ≤ a) (h1 : a ≤ a') (h2 : 0 ≤ b) (h3 : b ≤ b') (h4 : a' ≤ 4611686018427387904) : 0 ≤ addT a b ∧ addT a b ≤ addT a' b' ∧ addT a' b' ≤ 4611686018427387904 := by
  unfold addT
  split <;> split <;> omega
theorem mulT_mono {a b a' b' : Int} (h0 : 0 ≤ a) (h1 : a ≤ a') (h2 : 0 ≤ b) (h3 : b ≤ b') (h4 : a' ≤ 4611686018427387904) : 0 ≤ mulT a b ∧ mulT a b ≤ mulT a' b' ∧ mulT a' b' ≤ 4611686018427387904 := by
  have g1 : 0 ≤ a * b := Int.mul_nonneg h0 h2
  have g2 : a * b ≤ a' * b' := Int.mul_le_mul h1 h3 h2 (by omega)
  unfold mulT
  split <;> split <;> omega
theorem foldl_mono {op : Int → Int → Int} (hop : ∀ {a b a' b' : Int}, 0 ≤ a → a ≤ a' → 0 ≤ b → b ≤ b' → a' ≤ 4611686018427387904 → 0 ≤ op a b ∧ op a b ≤ op a' b' ∧ op a' b' ≤ 4611686018427387904) : ∀ {l m : List Int} {u w : Int}, leL l m → 0 ≤ u → u ≤ w → w ≤ 4611686018427387904 → 0 ≤ l.foldl op u ∧ l.foldl op u ≤ m.foldl op w ∧ m.foldl op w ≤ 4611686018427387904
  | [], [], u, w, _, h1, h2, h3 => ⟨h1, h2, h3⟩
  | x :: r, y :: s, u, w, h, h1, h2, h3 => by
    obtain ⟨g1, g2, g3⟩ := hop h1 h2 h.1.1 h.1.2 h3
    simp only [List.foldl_cons]
    exact foldl_mono hop h.2 g1 g2 g3
  | [], _ :: _, _, _, h, _, _, _ => h.elim
  | _ :: _, [], _, _, h, _, _, _ => h.elim
theorem isV_mono {inp ys : List Int} (h : lessB inp ys) (g : Gate) : 0 ≤ isV inp g ∧ isV inp g ≤ isV ys g := by
  have := lessB_get h g.var.toNat
  unfold isV valAt
  rcases this with e | e <;> rw [e]
  · split <;> omega
  · split <;> split <;> omega
theorem gateV_mono {cards inp ys vals vals' : List Int} {g : Gate} {i : Int} (hg : gateB cards i g = true) (h : lessB inp ys) (hv : leL vals vals') : 0 ≤ gateV inp vals g ∧ gateV inp vals g ≤ gateV ys vals' g ∧ gateV ys vals' g ≤ 4611686018427387904 := by
  have hi := isV_mono h g
  have hi2 : isV ys g ≤ 1 := by unfold isV; split <;> omega
  have hs := foldl_mono (op := addT) addT_mono (u := 0) (w := 0) (leL_map hv g.args) (by omega) (by omega) (by omega)
  have hp := foldl_mono (op := mulT) mulT_mono (u := 1) (w := 1) (leL_map hv g.args) (by omega) (by omega) (by omega)
  unfold gateV
  split
  · rename_i h1
    rcases gate_kinds hg with ⟨e, h1, h2⟩ | ⟨e, _⟩ | ⟨e, _⟩ <;> omega
  · split
    · omega
    · split
      · exact hs
      · exact hp
theorem evalGo_mono {cards inp ys : List Int} (h : lessB inp ys) : ∀ (gs : List Gate) (vals vals' r : List Int) (i : Int), gatesB cards i gs = true → leL vals vals' → evalGo ys vals' gs = some r → ∃ q, evalGo inp vals gs = some q ∧ leL q r
  | [], vals, vals', r, _, _, hv, he => ⟨vals, rfl, by cases he; exact hv⟩
  | g :: s, vals, vals', r, i, hg, hv, he => by
    simp only [gatesB, Bool.and_eq_true] at hg
    obtain ⟨m1, m2, m3⟩ := gateV_mono hg.1 h hv
    simp only [evalGo] at he ⊢
    split at he
    · cases he
    · rename_i hne
      rw [if_neg (by omega)]
      exact evalGo_mono h s _ _ r (i + 1) hg.2 (leL_app hv m1 m2) he
/-- If less is known, no value is smaller. -/
theorem grows_math {c : Circ} {inp ys : List Int} (hv : validB c = true) (h1 : inputB c.cards inp = true) (h2 : inputB c.cards ys = true) (h : lessB inp ys) :
    ((evalR c ys).2 ≠ 0 → (evalR c ys).2 = 6 ∧ ((evalR c inp).2 = 0 ∨ (evalR c inp).2 = 6)) ∧ ((evalR c ys).2 = 0 → (evalR c inp).2 = 0 ∧ (evalR c inp).1 ≤ (evalR c ys).1) := by
  have e1 : evalR c inp = match evalGo inp [] c.gates with | none => (0, 6) | some vals => (valAt vals ((vals.length - 1 : Nat) : Int), 0) := by
    unfold evalR
    rw [if_neg (by rw [hv]; simp), if_neg (by rw [h1]; simp)]
    cases evalGo inp [] c.gates <;> rfl
  have e2 : evalR c ys = match evalGo ys [] c.gates with | none => (0, 6) | some vals => (valAt vals ((vals.length - 1 : Nat) : Int), 0) := by
    unfold evalR
    rw [if_neg (by rw [hv]; simp), if_neg (by rw [h2]; simp)]
    cases evalGo ys [] c.gates <;> rfl
  rw [e1, e2]
  have hgs : gatesB c.cards 0 c.gates = true := by
    simp only [validB, Bool.and_eq_true] at hv
    exact hv.2.2.2
  cases hy : evalGo ys [] c.gates with
  | none =>
    refine ⟨fun _ => ⟨rfl, ?_⟩, fun h => by simp at h⟩
    cases evalGo inp [] c.gates
    · exact .inr rfl
    · exact .inl rfl
  | some r =>
    obtain ⟨q, hq, hl⟩ := evalGo_mono h c.gates [] [] r 0 hgs trivial hy
    rw [hq]
    refine ⟨fun h => (h rfl).elim, fun _ => ⟨rfl, ?_⟩⟩
    show valAt q _ ≤ valAt r _
    rw [leL_len hl]
    exact (leL_get hl _).2
end Go.Proofs.Ytbjfkbkmoeibdaa.C
namespace Go.Proofs.Ytbjfkbkmoeibdaa.C
open Go Go.Mx Go.Lx
set_option linter.unusedSimpArgs false
set_option linter.unusedVariables false
set_option maxRecDepth 100000
theorem wakes_ok : Lx.Fn mC 10 [] (dB true) := by
  intro z B H vs hz hB hr
  have hvs : vs = [] := List.eq_nil_of_length_eq_zero hr.1.symm
  subst hvs
  refine ⟨1, .ret (.lit (.bool true)), H, fun n hn => ?_, Nat.le_refl _, fun _ _ => rfl, _, fun _ => none, rfl, fun b cs hb => (by cases hb), .lit _⟩
  obtain ⟨m, rfl⟩ : ∃ m, n = m + 1 := ⟨n - 1, by omega⟩
  rfl
theorem has7 : mC.has 7 fn7 := ⟨rfl, fun _ _ _ => rfl⟩
theorem intsE_set (ys : List Int) (k : Nat) (x : Int) : (intsE ys).set k [dI x] = intsE (ys.set k x) := by simp [intsE]
set_option maxHeartbeats 8000000 in
theorem Grows_ok (d : Dr) (hd : d.Ok) (l : List Int) (h8 : l.length = 8) (hl8 : ∀ x ∈ l, 0 ≤ x ∧ x < 256) (w : Int) : Lx.Fn mC 7 [.agg (drC d), .agg (l.map dU8), dU8 w] (dB true) := by
  refine Lx.Fn.intro has7 (by simp [fn7]) (fun _ => rfl) ?_
  have edr : drC d = [u8s d.cards, g4s d.gates, dB d.big] := rfl
  have hcv := draft_valid d
  have hcs := draft_small d
  obtain ⟨cb1, cb2, cb3⟩ := cardsOf_bnd d
  have hcc : (draftC d).cards = cardsOf d := rfl
  generalize hc : draftC d = c at *
  rw [← hcc] at cb1 cb2 cb3
  have hin := inputB_inputs l (fun x hx => (hl8 x hx).1) cb3
  have hinl := inputsGo_len l c.cards 0
  simp only [wp, stepL_true, stepL_false, doI, quietI, isCallI, wantedD, wantD, undefD, LSt.put, LSt.putO, LSt.putE, qL, effL, evD, evDs, intD, boolD, litD, litV, litDs, evDOI, lk, pickC_true, pickC_false, lenD_fz, lenD_sl, lenD_nil, lenD_z0, idxD_fz, idxD_sl, loadD_ptr, loadD_eptr, loadD_fptr, fldD, takeD, slotD, slcD, slcF, esOf, Lx.cellsO, cells_lit, cells_agg, cells_ptr, cells_sl, cells_fz, cells_clo, cells_ifc, cells_eptr, oneV, fillD, fillE, putD, srcD_fz, srcD_nil, srcD_sl, storeD, appD, binV, intBin, unV, mms, mm2, argsE, Option.map_some, cond_true, cond_false, beq_self_eq_true, Nat.reduceEqDiff, reduceIte, Nat.reduceLT, Nat.reduceAdd, Nat.reduceLeDiff, Nat.reduceMul, Nat.reduceSub, Bool.not_true, Bool.not_false, Bool.true_eq_false, Bool.false_eq_true, and_true, true_and, and_self, if_true, if_false, List.getElem?_cons_zero, List.getElem?_cons_succ, List.length_cons, List.length_nil, List.length_append, List.append_assoc, List.cons_append, List.nil_append, Nat.zero_add, Nat.add_zero, Int.reduceLE, Int.reduceLT, Int.reduceBEq, decide_true, decide_false, decide_eq_true_eq, List.drop_zero, List.drop_succ_cons, List.take_succ_cons, List.take_zero, List.map_cons, List.map_nil, Option.some.injEq, List.set_cons_zero, List.set_cons_succ, Nat.reduceBEq, List.replicate_succ, List.replicate_zero, Bool.and_true, Bool.true_and, reduceCtorEq, Nat.lt_irrefl, beq_iff_eq, bne_iff_ne, fn7, edr]
  refine EvL.fn wakes_ok rfl rfl .nil ?_
  simp only [wp, stepL_true, stepL_false, doI, quietI, isCallI, wantedD, wantD, undefD, LSt.put, LSt.putO, LSt.putE, qL, effL, evD, evDs, intD, boolD, litD, litV, litDs, evDOI, lk, pickC_true, pickC_false, lenD_fz, lenD_sl, lenD_nil, lenD_z0, idxD_fz, idxD_sl, loadD_ptr, loadD_eptr, loadD_fptr, fldD, takeD, slotD, slcD, slcF, esOf, Lx.cellsO, cells_lit, cells_agg, cells_ptr, cells_sl, cells_fz, cells_clo, cells_ifc, cells_eptr, oneV, fillD, fillE, putD, srcD_fz, srcD_nil, srcD_sl, storeD, appD, binV, intBin, unV, mms, mm2, argsE, Option.map_some, cond_true, cond_false, beq_self_eq_true, Nat.reduceEqDiff, reduceIte, Nat.reduceLT, Nat.reduceAdd, Nat.reduceLeDiff, Nat.reduceMul, Nat.reduceSub, Bool.not_true, Bool.not_false, Bool.true_eq_false, Bool.false_eq_true, and_true, true_and, and_self, if_true, if_false, List.getElem?_cons_zero, List.getElem?_cons_succ, List.length_cons, List.length_nil, List.length_append, List.append_assoc, List.cons_append, List.nil_append, Nat.zero_add, Nat.add_zero, Int.reduceLE, Int.reduceLT, Int.reduceBEq, decide_true, decide_false, decide_eq_true_eq, List.drop_zero, List.drop_succ_cons, List.take_succ_cons, List.take_zero, List.map_cons, List.map_nil, Option.some.injEq, List.set_cons_zero, List.set_cons_succ, Nat.reduceBEq, List.replicate_succ, List.replicate_zero, Bool.and_true, Bool.true_and, reduceCtorEq, Nat.lt_irrefl, beq_iff_eq, bne_iff_ne]
  refine EvL.fn (Draft_ok d hd) rfl rfl (.cons (.aggs (.cons ?_ (.cons ?_ (.cons (.lit _) .nil)))) .nil) ?_
  · exact snp_map _ _ d.cards (fun _ => rfl) fun x k d d' h1 h2 => by
      rw [h1] at h2; cases h2
      cases k with
      | zero => simp at h1; subst h1; exact .lit _
      | succ k => simp at h1
  · refine snp_map _ _ d.gates (fun _ => rfl) fun g k d d' h1 h2 => ?_
    have hs : ∀ L, Snps L false (g4C g) (g4C g) := fun L => .cons (.lit _) (.cons (.lit _) (.cons (.lit _) (.cons (.lit _) .nil)))
    exact (hs _).get k d d' h1 h2
  rw [hc]
  have hcirc : circC true c = [ints true c.cards, gatesD true c.gates] := rfl
  have hl8' : (l.map dU8).length = 8 := by simp [h8]
  have hl8'' : (l.map dU8).take 8 = l.map dU8 := List.take_of_length_le (by rw [hl8']; exact Nat.le_refl 8)
  simp only [wp, stepL_true, stepL_false, doI, quietI, isCallI, wantedD, wantD, undefD, LSt.put, LSt.putO, LSt.putE, qL, effL, evD, evDs, intD, boolD, litD, litV, litDs, evDOI, lk, pickC_true, pickC_false, lenD_fz, lenD_sl, lenD_nil, lenD_z0, idxD_fz, idxD_sl, loadD_ptr, loadD_eptr, loadD_fptr, fldD, takeD, slotD, slcD, slcF, esOf, Lx.cellsO, cells_lit, cells_agg, cells_ptr, cells_sl, cells_fz, cells_clo, cells_ifc, cells_eptr, oneV, fillD, fillE, putD, srcD_fz, srcD_nil, srcD_sl, storeD, appD, binV, intBin, unV, mms, mm2, argsE, Option.map_some, cond_true, cond_false, beq_self_eq_true, Nat.reduceEqDiff, reduceIte, Nat.reduceLT, Nat.reduceAdd, Nat.reduceLeDiff, Nat.reduceMul, Nat.reduceSub, Bool.not_true, Bool.not_false, Bool.true_eq_false, Bool.false_eq_true, and_true, true_and, and_self, if_true, if_false, List.getElem?_cons_zero, List.getElem?_cons_succ, List.length_cons, List.length_nil, List.length_append, List.append_assoc, List.cons_append, List.nil_append, Nat.zero_add, Nat.add_zero, Int.reduceLE, Int.reduceLT, Int.reduceBEq, decide_true, decide_false, decide_eq_true_eq, List.drop_zero, List.drop_succ_cons, List.take_succ_cons, List.take_zero, List.map_cons, List.map_nil, Option.some.injEq, List.set_cons_zero, List.set_cons_succ, Nat.reduceBEq, List.replicate_succ, List.replicate_zero, Bool.and_true, Bool.true_and, reduceCtorEq, Nat.lt_irrefl, beq_iff_eq, bne_iff_ne, hcirc, hl8', hl8'', Nat.le_refl]
  refine EvL.fn (Inputs_ok c.cards l hcs.cards (fun x hx => by have := cb3 x hx; omega) h8 hl8) rfl rfl (.cons (snp_ints _ _ _) (.cons ?_ .nil)) ?_
  · refine .agg rfl fun i x x' h1 h2 => ?_
    rw [h1] at h2; cases h2
    obtain ⟨y, _, rfl⟩ := List.mem_map.1 (List.mem_of_getElem? h1)
    exact .lit _
  have hnp : 0 < (inputsGo l 0 c.cards).length := by omega
  have hns : (inputsGo l 0 c.cards).length < 1000000 := by omega
  generalize hi : inputsGo l 0 c.cards = inp at *
  simp only [wp, stepL_true, stepL_false, doI, quietI, isCallI, wantedD, wantD, undefD, LSt.put, LSt.putO, LSt.putE, qL, effL, evD, evDs, intD, boolD, litD, litV, litDs, evDOI, lk, pickC_true, pickC_false, lenD_fz, lenD_sl, lenD_nil, lenD_z0, idxD_fz, idxD_sl, loadD_ptr, loadD_eptr, loadD_fptr, fldD, takeD, slotD, slcD, slcF, esOf, Lx.cellsO, cells_lit, cells_agg, cells_ptr, cells_sl, cells_fz, cells_clo, cells_ifc, cells_eptr, oneV, fillD, fillE, putD, srcD_fz, srcD_nil, srcD_sl, storeD, appD, binV, intBin, unV, mms, mm2, argsE, Option.map_some, cond_true, cond_false, beq_self_eq_true, Nat.reduceEqDiff, reduceIte, Nat.reduceLT, Nat.reduceAdd, Nat.reduceLeDiff, Nat.reduceMul, Nat.reduceSub, Bool.not_true, Bool.not_false, Bool.true_eq_false, Bool.false_eq_true, and_true, true_and, and_self, if_true, if_false, List.getElem?_cons_zero, List.getElem?_cons_succ, List.length_cons, List.length_nil, List.length_append, List.append_assoc, List.cons_append, List.nil_append, Nat.zero_add, Nat.add_zero, Int.reduceLE, Int.reduceLT, Int.reduceBEq, decide_true, decide_false, decide_eq_true_eq, List.drop_zero, List.drop_succ_cons, List.take_succ_cons, List.take_zero, List.map_cons, List.map_nil, Option.some.injEq, List.set_cons_zero, List.set_cons_succ, Nat.reduceBEq, List.replicate_succ, List.replicate_zero, Bool.and_true, Bool.true_and, reduceCtorEq, Nat.lt_irrefl, beq_iff_eq, bne_iff_ne]
  refine EvL.call rfl rfl (Clone_ok _ _ _ true inp hnp hns) ?_ (fun _ _ (h : False) => False.elim h)
  rintro r L' ⟨rfl, rfl⟩
  simp only [wp, stepL_true, stepL_false, doI, quietI, isCallI, wantedD, wantD, undefD, LSt.put, LSt.putO, LSt.putE, qL, effL, evD, evDs, intD, boolD, litD, litV, litDs, evDOI, lk, pickC_true, pickC_false, lenD_fz, lenD_sl, lenD_nil, lenD_z0, idxD_fz, idxD_sl, loadD_ptr, loadD_eptr, loadD_fptr, fldD, takeD, slotD, slcD, slcF, esOf, Lx.cellsO, cells_lit, cells_agg, cells_ptr, cells_sl, cells_fz, cells_clo, cells_ifc, cells_eptr, oneV, fillD, fillE, putD, srcD_fz, srcD_nil, srcD_sl, storeD, appD, binV, intBin, unV, mms, mm2, argsE, Option.map_some, cond_true, cond_false, beq_self_eq_true, Nat.reduceEqDiff, reduceIte, Nat.reduceLT, Nat.reduceAdd, Nat.reduceLeDiff, Nat.reduceMul, Nat.reduceSub, Bool.not_true, Bool.not_false, Bool.true_eq_false, Bool.false_eq_true, and_true, true_and, and_self, if_true, if_false, List.getElem?_cons_zero, List.getElem?_cons_succ, List.length_cons, List.length_nil, List.length_append, List.append_assoc, List.cons_append, List.nil_append, Nat.zero_add, Nat.add_zero, Int.reduceLE, Int.reduceLT, Int.reduceBEq, decide_true, decide_false, decide_eq_true_eq, List.drop_zero, List.drop_succ_cons, List.take_succ_cons, List.take_zero, List.map_cons, List.map_nil, Option.some.injEq, List.set_cons_zero, List.set_cons_succ, Nat.reduceBEq, List.replicate_succ, List.replicate_zero, Bool.and_true, Bool.true_and, reduceCtorEq, Nat.lt_irrefl, beq_iff_eq, bne_iff_ne, intsE_len]
  refine EvL.loop (α := Nat × List Int) (fun a => ⟨71, [(2, dU8 w), (7, .ptr 2 0), (8, ints true inp), (9, .sl 4 0 1 a.2.length none a.2.length), (26, dI inp.length), (27, dI a.1)], [.cells [u8s d.cards, g4s d.gates, dB d.big], .cells (l.map dU8), .cells [ints true c.cards, gatesD true c.gates], .els 1 [], .grow 1 (intsE a.2)]⟩)
    (fun a => a.1 ≤ inp.length ∧ lessB inp a.2) (fun a => inp.length - a.1) (0, inp) (Weak.sub (by simp [envSub, lk])) ⟨by simp, lessB_refl _⟩ ?_
  rintro ⟨k, ys⟩ ⟨p1, p2⟩
  simp only at p1 p2
  have hyl := lessB_len p2
  refine wp_sound ?_
  by_cases hk : k < inp.length
  · have hlt : decide ((k : Int) < (inp.length : Int)) = true := by simp; omega
    have hw2 : IntKind.i64.wrap ((k : Int) + 1) = ((k + 1 : Nat) : Int) := by rw [wrap64 (by omega) (by omega)]; rfl
    have hrem : Int.tmod (k : Int) 8 = ((k % 8 : Nat) : Int) := rfl
    have hnn : decide (0 ≤ ((k % 8 : Nat) : Int)) = true := by simp; omega
    have hky : ((k : Int) < (ys.length : Int)) = True := by simp; omega
    have hky' : k < (intsE ys).length := by rw [intsE_len]; omega
    have hget : (intsE ys)[k]? = some [dI ys[k]] := by simp [intsE, show k < ys.length by omega]
    simp only [wp, stepL_true, stepL_false, doI, quietI, isCallI, wantedD, wantD, undefD, LSt.put, LSt.putO, LSt.putE, qL, effL, evD, evDs, intD, boolD, litD, litV, litDs, evDOI, lk, pickC_true, pickC_false, lenD_fz, lenD_sl, lenD_nil, lenD_z0, idxD_fz, idxD_sl, loadD_ptr, loadD_eptr, loadD_fptr, fldD, takeD, slotD, slcD, slcF, esOf, Lx.cellsO, cells_lit, cells_agg, cells_ptr, cells_sl, cells_fz, cells_clo, cells_ifc, cells_eptr, oneV, fillD, fillE, putD, srcD_fz, srcD_nil, srcD_sl, storeD, appD, binV, intBin, unV, mms, mm2, argsE, Option.map_some, cond_true, cond_false, beq_self_eq_true, Nat.reduceEqDiff, reduceIte, Nat.reduceLT, Nat.reduceAdd, Nat.reduceLeDiff, Nat.reduceMul, Nat.reduceSub, Bool.not_true, Bool.not_false, Bool.true_eq_false, Bool.false_eq_true, and_true, true_and, and_self, if_true, if_false, List.getElem?_cons_zero, List.getElem?_cons_succ, List.length_cons, List.length_nil, List.length_append, List.append_assoc, List.cons_append, List.nil_append, Nat.zero_add, Nat.add_zero, Int.reduceLE, Int.reduceLT, Int.reduceBEq, decide_true, decide_false, decide_eq_true_eq, List.drop_zero, List.drop_succ_cons, List.take_succ_cons, List.take_zero, List.map_cons, List.map_nil, Option.some.injEq, List.set_cons_zero, List.set_cons_succ, Nat.reduceBEq, List.replicate_succ, List.replicate_zero, Bool.and_true, Bool.true_and, reduceCtorEq, Nat.lt_irrefl, beq_iff_eq, bne_iff_ne, hlt, hrem, hnn]
    refine Lx.wp_cond (fun h => ?_) (fun h => ?_)
    · simp only [wp, stepL_true, stepL_false, doI, quietI, isCallI, wantedD, wantD, undefD, LSt.put, LSt.putO, LSt.putE, qL, effL, evD, evDs, intD, boolD, litD, litV, litDs, evDOI, lk, pickC_true, pickC_false, lenD_fz, lenD_sl, lenD_nil, lenD_z0, idxD_fz, idxD_sl, loadD_ptr, loadD_eptr, loadD_fptr, fldD, takeD, slotD, slcD, slcF, esOf, Lx.cellsO, cells_lit, cells_agg, cells_ptr, cells_sl, cells_fz, cells_clo, cells_ifc, cells_eptr, oneV, fillD, fillE, putD, srcD_fz, srcD_nil, srcD_sl, storeD, appD, binV, intBin, unV, mms, mm2, argsE, Option.map_some, cond_true, cond_false, beq_self_eq_true, Nat.reduceEqDiff, reduceIte, Nat.reduceLT, Nat.reduceAdd, Nat.reduceLeDiff, Nat.reduceMul, Nat.reduceSub, Bool.not_true, Bool.not_false, Bool.true_eq_false, Bool.false_eq_true, and_true, true_and, and_self, if_true, if_false, List.getElem?_cons_zero, List.getElem?_cons_succ, List.length_cons, List.length_nil, List.length_append, List.append_assoc, List.cons_append, List.nil_append, Nat.zero_add, Nat.add_zero, Int.reduceLE, Int.reduceLT, Int.reduceBEq, decide_true, decide_false, decide_eq_true_eq, List.drop_zero, List.drop_succ_cons, List.take_succ_cons, List.take_zero, List.map_cons, List.map_nil, Option.some.injEq, List.set_cons_zero, List.set_cons_succ, Nat.reduceBEq, List.replicate_succ, List.replicate_zero, Bool.and_true, Bool.true_and, reduceCtorEq, Nat.lt_irrefl, beq_iff_eq, bne_iff_ne, hky, Int.natCast_nonneg, intsE_len, Int.toNat_natCast, hget, hw2]
      refine ⟨(k + 1, ys.set k (-1)), ⟨by simp; omega, lessB_set k p2⟩, by simp; omega, ?_⟩
      rw [← intsE_set]
      exact Weak.sub (by simp [envSub, lk])
    · simp only [wp, stepL_true, stepL_false, doI, quietI, isCallI, wantedD, wantD, undefD, LSt.put, LSt.putO, LSt.putE, qL, effL, evD, evDs, intD, boolD, litD, litV, litDs, evDOI, lk, pickC_true, pickC_false, lenD_fz, lenD_sl, lenD_nil, lenD_z0, idxD_fz, idxD_sl, loadD_ptr, loadD_eptr, loadD_fptr, fldD, takeD, slotD, slcD, slcF, esOf, Lx.cellsO, cells_lit, cells_agg, cells_ptr, cells_sl, cells_fz, cells_clo, cells_ifc, cells_eptr, oneV, fillD, fillE, putD, srcD_fz, srcD_nil, srcD_sl, storeD, appD, binV, intBin, unV, mms, mm2, argsE, Option.map_some, cond_true, cond_false, beq_self_eq_true, Nat.reduceEqDiff, reduceIte, Nat.reduceLT, Nat.reduceAdd, Nat.reduceLeDiff, Nat.reduceMul, Nat.reduceSub, Bool.not_true, Bool.not_false, Bool.true_eq_false, Bool.false_eq_true, and_true, true_and, and_self, if_true, if_false, List.getElem?_cons_zero, List.getElem?_cons_succ, List.length_cons, List.length_nil, List.length_append, List.append_assoc, List.cons_append, List.nil_append, Nat.zero_add, Nat.add_zero, Int.reduceLE, Int.reduceLT, Int.reduceBEq, decide_true, decide_false, decide_eq_true_eq, List.drop_zero, List.drop_succ_cons, List.take_succ_cons, List.take_zero, List.map_cons, List.map_nil, Option.some.injEq, List.set_cons_zero, List.set_cons_succ, Nat.reduceBEq, List.replicate_succ, List.replicate_zero, Bool.and_true, Bool.true_and, reduceCtorEq, Nat.lt_irrefl, beq_iff_eq, bne_iff_ne, hw2]
      exact ⟨(k + 1, ys), ⟨by simp; omega, p2⟩, by simp; omega, Weak.sub (by simp [envSub, lk])⟩
  · have hlt : decide ((k : Int) < (inp.length : Int)) = false := by simp; omega
    have hin2 : inputB c.cards ys = true := by
      unfold inputB at hin ⊢
      simp only [Bool.and_eq_true] at hin ⊢
      exact ⟨by rw [← hyl]; exact hin.1, lessB_in p2 cb3 hin.2⟩
    obtain ⟨m1, m2⟩ := grows_math hcv hin hin2 p2
    simp only [wp, stepL_true, stepL_false, doI, quietI, isCallI, wantedD, wantD, undefD, LSt.put, LSt.putO, LSt.putE, qL, effL, evD, evDs, intD, boolD, litD, litV, litDs, evDOI, lk, pickC_true, pickC_false, lenD_fz, lenD_sl, lenD_nil, lenD_z0, idxD_fz, idxD_sl, loadD_ptr, loadD_eptr, loadD_fptr, fldD, takeD, slotD, slcD, slcF, esOf, Lx.cellsO, cells_lit, cells_agg, cells_ptr, cells_sl, cells_fz, cells_clo, cells_ifc, cells_eptr, oneV, fillD, fillE, putD, srcD_fz, srcD_nil, srcD_sl, storeD, appD, binV, intBin, unV, mms, mm2, argsE, Option.map_some, cond_true, cond_false, beq_self_eq_true, Nat.reduceEqDiff, reduceIte, Nat.reduceLT, Nat.reduceAdd, Nat.reduceLeDiff, Nat.reduceMul, Nat.reduceSub, Bool.not_true, Bool.not_false, Bool.true_eq_false, Bool.false_eq_true, and_true, true_and, and_self, if_true, if_false, List.getElem?_cons_zero, List.getElem?_cons_succ, List.length_cons, List.length_nil, List.length_append, List.append_assoc, List.cons_append, List.nil_append, Nat.zero_add, Nat.add_zero, Int.reduceLE, Int.reduceLT, Int.reduceBEq, decide_true, decide_false, decide_eq_true_eq, List.drop_zero, List.drop_succ_cons, List.take_succ_cons, List.take_zero, List.map_cons, List.map_nil, Option.some.injEq, List.set_cons_zero, List.set_cons_succ, Nat.reduceBEq, List.replicate_succ, List.replicate_zero, Bool.and_true, Bool.true_and, reduceCtorEq, Nat.lt_irrefl, beq_iff_eq, bne_iff_ne, hlt]
    refine EvL.fn (Eval_ok c hcs inp hns) rfl rfl (.cons (snp_circ _ _ _) (.cons (snp_ints _ _ _) .nil)) ?_
    simp only [wp, stepL_true, stepL_false, doI, quietI, isCallI, wantedD, wantD, undefD, LSt.put, LSt.putO, LSt.putE, qL, effL, evD, evDs, intD, boolD, litD, litV, litDs, evDOI, lk, pickC_true, pickC_false, lenD_fz, lenD_sl, lenD_nil, lenD_z0, idxD_fz, idxD_sl, loadD_ptr, loadD_eptr, loadD_fptr, fldD, takeD, slotD, slcD, slcF, esOf, Lx.cellsO, cells_lit, cells_agg, cells_ptr, cells_sl, cells_fz, cells_clo, cells_ifc, cells_eptr, oneV, fillD, fillE, putD, srcD_fz, srcD_nil, srcD_sl, storeD, appD, binV, intBin, unV, mms, mm2, argsE, Option.map_some, cond_true, cond_false, beq_self_eq_true, Nat.reduceEqDiff, reduceIte, Nat.reduceLT, Nat.reduceAdd, Nat.reduceLeDiff, Nat.reduceMul, Nat.reduceSub, Bool.not_true, Bool.not_false, Bool.true_eq_false, Bool.false_eq_true, and_true, true_and, and_self, if_true, if_false, List.getElem?_cons_zero, List.getElem?_cons_succ, List.length_cons, List.length_nil, List.length_append, List.append_assoc, List.cons_append, List.nil_append, Nat.zero_add, Nat.add_zero, Int.reduceLE, Int.reduceLT, Int.reduceBEq, decide_true, decide_false, decide_eq_true_eq, List.drop_zero, List.drop_succ_cons, List.take_succ_cons, List.take_zero, List.map_cons, List.map_nil, Option.some.injEq, List.set_cons_zero, List.set_cons_succ, Nat.reduceBEq, List.replicate_succ, List.replicate_zero, Bool.and_true, Bool.true_and, reduceCtorEq, Nat.lt_irrefl, beq_iff_eq, bne_iff_ne]
    refine EvL.fn (Eval_ok c hcs ys (by omega)) rfl rfl (.cons (snp_circ _ _ _) (.cons (snp_own (by simp [esOf, intsE_len]) (fun k h => by cases h)) .nil)) ?_
    generalize evalR c inp = ra at *
    generalize evalR c ys = rb at *
    obtain ⟨a, e⟩ := ra
    obtain ⟨b, f⟩ := rb
    simp only at m1 m2
    by_cases hf : f = 0
    · obtain ⟨rfl, h2⟩ := m2 hf
      subst hf
      have hd : decide (a ≤ b) = true := by simp; omega
      simp only [wp, stepL_true, stepL_false, doI, quietI, isCallI, wantedD, wantD, undefD, LSt.put, LSt.putO, LSt.putE, qL, effL, evD, evDs, intD, boolD, litD, litV, litDs, evDOI, lk, pickC_true, pickC_false, lenD_fz, lenD_sl, lenD_nil, lenD_z0, idxD_fz, idxD_sl, loadD_ptr, loadD_eptr, loadD_fptr, fldD, takeD, slotD, slcD, slcF, esOf, Lx.cellsO, cells_lit, cells_agg, cells_ptr, cells_sl, cells_fz, cells_clo, cells_ifc, cells_eptr, oneV, fillD, fillE, putD, srcD_fz, srcD_nil, srcD_sl, storeD, appD, binV, intBin, unV, mms, mm2, argsE, Option.map_some, cond_true, cond_false, beq_self_eq_true, Nat.reduceEqDiff, reduceIte, Nat.reduceLT, Nat.reduceAdd, Nat.reduceLeDiff, Nat.reduceMul, Nat.reduceSub, Bool.not_true, Bool.not_false, Bool.true_eq_false, Bool.false_eq_true, and_true, true_and, and_self, if_true, if_false, List.getElem?_cons_zero, List.getElem?_cons_succ, List.length_cons, List.length_nil, List.length_append, List.append_assoc, List.cons_append, List.nil_append, Nat.zero_add, Nat.add_zero, Int.reduceLE, Int.reduceLT, Int.reduceBEq, decide_true, decide_false, decide_eq_true_eq, List.drop_zero, List.drop_succ_cons, List.take_succ_cons, List.take_zero, List.map_cons, List.map_nil, Option.some.injEq, List.set_cons_zero, List.set_cons_succ, Nat.reduceBEq, List.replicate_succ, List.replicate_zero, Bool.and_true, Bool.true_and, reduceCtorEq, Nat.lt_irrefl, beq_iff_eq, bne_iff_ne, Int.reduceBNe, hd]
      exact RetQ.pl rfl rfl
    · obtain ⟨rfl, h2⟩ := m1 hf
      rcases h2 with rfl | rfl
      · simp only [wp, stepL_true, stepL_false, doI, quietI, isCallI, wantedD, wantD, undefD, LSt.put, LSt.putO, LSt.putE, qL, effL, evD, evDs, intD, boolD, litD, litV, litDs, evDOI, lk, pickC_true, pickC_false, lenD_fz, lenD_sl, lenD_nil, lenD_z0, idxD_fz, idxD_sl, loadD_ptr, loadD_eptr, loadD_fptr, fldD, takeD, slotD, slcD, slcF, esOf, Lx.cellsO, cells_lit, cells_agg, cells_ptr, cells_sl, cells_fz, cells_clo, cells_ifc, cells_eptr, oneV, fillD, fillE, putD, srcD_fz, srcD_nil, srcD_sl, storeD, appD, binV, intBin, unV, mms, mm2, argsE, Option.map_some, cond_true, cond_false, beq_self_eq_true, Nat.reduceEqDiff, reduceIte, Nat.reduceLT, Nat.reduceAdd, Nat.reduceLeDiff, Nat.reduceMul, Nat.reduceSub, Bool.not_true, Bool.not_false, Bool.true_eq_false, Bool.false_eq_true, and_true, true_and, and_self, if_true, if_false, List.getElem?_cons_zero, List.getElem?_cons_succ, List.length_cons, List.length_nil, List.length_append, List.append_assoc, List.cons_append, List.nil_append, Nat.zero_add, Nat.add_zero, Int.reduceLE, Int.reduceLT, Int.reduceBEq, decide_true, decide_false, decide_eq_true_eq, List.drop_zero, List.drop_succ_cons, List.take_succ_cons, List.take_zero, List.map_cons, List.map_nil, Option.some.injEq, List.set_cons_zero, List.set_cons_succ, Nat.reduceBEq, List.replicate_succ, List.replicate_zero, Bool.and_true, Bool.true_and, reduceCtorEq, Nat.lt_irrefl, beq_iff_eq, bne_iff_ne, Int.reduceBNe]
        exact RetQ.pl rfl rfl
      · simp only [wp, stepL_true, stepL_false, doI, quietI, isCallI, wantedD, wantD, undefD, LSt.put, LSt.putO, LSt.putE, qL, effL, evD, evDs, intD, boolD, litD, litV, litDs, evDOI, lk, pickC_true, pickC_false, lenD_fz, lenD_sl, lenD_nil, lenD_z0, idxD_fz, idxD_sl, loadD_ptr, loadD_eptr, loadD_fptr, fldD, takeD, slotD, slcD, slcF, esOf, Lx.cellsO, cells_lit, cells_agg, cells_ptr, cells_sl, cells_fz, cells_clo, cells_ifc, cells_eptr, oneV, fillD, fillE, putD, srcD_fz, srcD_nil, srcD_sl, storeD, appD, binV, intBin, unV, mms, mm2, argsE, Option.map_some, cond_true, cond_false, beq_self_eq_true, Nat.reduceEqDiff, reduceIte, Nat.reduceLT, Nat.reduceAdd, Nat.reduceLeDiff, Nat.reduceMul, Nat.reduceSub, Bool.not_true, Bool.not_false, Bool.true_eq_false, Bool.false_eq_true, and_true, true_and, and_self, if_true, if_false, List.getElem?_cons_zero, List.getElem?_cons_succ, List.length_cons, List.length_nil, List.length_append, List.append_assoc, List.cons_append, List.nil_append, Nat.zero_add, Nat.add_zero, Int.reduceLE, Int.reduceLT, Int.reduceBEq, decide_true, decide_false, decide_eq_true_eq, List.drop_zero, List.drop_succ_cons, List.take_succ_cons, List.take_zero, List.map_cons, List.map_nil, Option.some.injEq, List.set_cons_zero, List.set_cons_succ, Nat.reduceBEq, List.replicate_succ, List.replicate_zero, Bool.and_true, Bool.true_and, reduceCtorEq, Nat.lt_irrefl, beq_iff_eq, bne_iff_ne, Int.reduceBNe]
        exact RetQ.pl rfl rfl
end Go.Proofs.Ytbjfkbkmoeibdaa.C
namespace Go.Proofs.Ytbjfkbkmoeibdaa.C
open Go Go.Mx Go.Lx Go.ChangeShapes Go.WideShapes Go.ChangeAt Go.RowKit
set_option linter.unusedSimpArgs false
set_option linter.unusedVariables false
set_option maxRecDepth 100000
theorem flat25 : flatT Try.prog 8 25 = some [.sl [.int .u8], .sl [.int .u8, .int .u8, .int .u8, .int .u8], .bool] := by kernel_rfl
theorem flat46 : flatT Try.prog 8 46 = some [.int .u8, .int .u8, .int .u8, .int .u8, .int .u8, .int .u8, .int .u8, .int .u8] := by kernel_rfl
theorem flat5 : flatT Try.prog 8 5 = some [.int .u8] := by kernel_rfl
theorem agg25 : aggT Try.prog 25 = true := by kernel_rfl
theorem agg46 : aggT Try.prog 46 = true := by kernel_rfl
theorem agg5 : aggT Try.prog 5 = false := by kernel_rfl
theorem sh_u8s {d : D} (h : ShD (.sl [.int .u8]) d) : ∃ xs : List Nat, d = u8s xs ∧ ∀ x ∈ xs, x < 256 := by
  obtain ⟨els, rfl, _, h2⟩ := fz_of h
  obtain ⟨xs, rfl, h3⟩ := map_of (l := els) (f := fun (x : Nat) => [dU8 x]) (T := fun x => x < 256) fun cells hc => by
    obtain ⟨g1, g2⟩ := h2 cells hc
    obtain ⟨a, rfl⟩ := len1 g1
    obtain ⟨n, rfl, hn⟩ := lit_u8 (g2 0 _ _ rfl rfl)
    exact ⟨n, rfl, hn⟩
  exact ⟨xs, rfl, h3⟩
theorem sh_g4s {d : D} (h : ShD (.sl [.int .u8, .int .u8, .int .u8, .int .u8]) d) : ∃ xs : List G4, d = g4s xs ∧ ∀ x ∈ xs, x.Ok := by
  obtain ⟨els, rfl, _, h2⟩ := fz_of h
  obtain ⟨xs, rfl, h3⟩ := map_of (l := els) (f := g4C) (T := fun x => x.Ok) fun cells hc => by
    obtain ⟨g1, g2⟩ := h2 cells hc
    obtain ⟨a, b, c, d, rfl⟩ := len4 g1
    obtain ⟨n0, rfl, k0⟩ := lit_u8 (g2 0 _ _ rfl rfl)
    obtain ⟨n1, rfl, k1⟩ := lit_u8 (g2 1 _ _ rfl rfl)
    obtain ⟨n2, rfl, k2⟩ := lit_u8 (g2 2 _ _ rfl rfl)
    obtain ⟨n3, rfl, k3⟩ := lit_u8 (g2 3 _ _ rfl rfl)
    exact ⟨⟨n0, n1, n2, n3⟩, rfl, k0, k1, k2, k3⟩
  exact ⟨xs, rfl, h3⟩
theorem sh_draft {d : D} (h : ShA Try.prog 8 25 d) : ∃ dr : Dr, d = .agg (drC dr) ∧ dr.Ok := by
  cases h with
  | one h1 _ _ => rw [agg25] at h1; cases h1
  | agg _ h2 h3 h4 =>
    rw [flat25] at h2
    cases h2
    obtain ⟨a, b, c, rfl⟩ := len3 h3
    obtain ⟨xs, rfl, k1⟩ := sh_u8s (h4 0 _ _ rfl rfl)
    obtain ⟨gs, rfl, k2⟩ := sh_g4s (h4 1 _ _ rfl rfl)
    obtain ⟨b, rfl⟩ := lit_bool (h4 2 _ _ rfl rfl)
    exact ⟨⟨xs, gs, b⟩, rfl, k1, k2⟩
theorem sh_eight {d : D} (h : ShA Try.prog 8 46 d) : ∃ l : List Int, d = .agg (l.map dU8) ∧ l.length = 8 ∧ ∀ x ∈ l, 0 ≤ x ∧ x < 256 := by
  cases h with
  | one h1 _ _ => rw [agg46] at h1; cases h1
  | agg _ h2 h3 h4 =>
    rename_i ds cts _
    rw [flat46] at h2
    cases h2
    obtain ⟨xs, rfl, h5⟩ := map_of (l := ds) (f := dU8) (T := fun x => 0 ≤ x ∧ x < 256) fun x hx => by
      obtain ⟨i, hi⟩ := List.getElem?_of_mem hx
      have hl := (List.getElem?_eq_some_iff.1 hi).1
      rw [h3] at hl
      have : ([.int .u8, .int .u8, .int .u8, .int .u8, .int .u8, .int .u8, .int .u8, .int .u8] : List CT)[i]? = some (.int .u8) := by
        simp only [List.length_cons, List.length_nil] at hl
        match i, hl with
        | 0, _ | 1, _ | 2, _ | 3, _ | 4, _ | 5, _ | 6, _ | 7, _ => rfl
      obtain ⟨n, rfl, k⟩ := lit_u8 (h4 i _ _ this hi)
      exact ⟨n, rfl, by omega, by omega⟩
    exact ⟨xs, rfl, by simpa using h3, h5⟩
theorem sh_u8 {d : D} (h : ShA Try.prog 8 5 d) : ∃ w : Nat, d = dU8 w ∧ w < 256 := by
  cases h with
  | agg h1 _ _ _ => rw [agg5] at h1; cases h1
  | one _ h2 h3 => rw [flat5] at h2; cases h2; exact lit_u8 h3
theorem ShAs.three {P : Program} {f : Nat} {a b c : TypeId} {es : List D} (h : ShAs P f [a, b, c] es) : ∃ x y z, es = [x, y, z] ∧ ShA P f a x ∧ ShA P f b y ∧ ShA P f c z := by
  cases h with
  | cons h1 h =>
    cases h with
    | cons h2 h =>
      cases h with
      | cons h3 h =>
        cases h
        exact ⟨_, _, _, rfl, h1, h2, h3⟩
theorem flats3 : ∀ t ∈ [25, 46, 5], (flatT Try.prog 8 t).isSome = true := by
  intro t ht
  simp only [List.mem_cons, List.not_mem_nil, or_false] at ht
  rcases ht with rfl | rfl | rfl
  · rw [flat25]; rfl
  · rw [flat46]; rfl
  · rw [flat5]; rfl
theorem grows_calls {H : Type} {enc : TypeId × Value → H} {w : World} {b0 : Nat} {args : Array Value} {ds : List (DataW H)} {ps : List MemPlace}
    (hv : ∀ (j : Nat) t v, [25, 46, 5][j]? = some t → args[j]? = some v → Value.okWide Try.prog w .any b0 t v) (hd : DataW.TrodAll enc Try.prog w 0 (fun _ => true) true [25, 46, 5] args.toList ds ps) :
    Calls Try.prog 7 args w fun e w' => e = .returned (.bool true) ∧ Below w.heap.size w w' := by
  refine lawC (g := 8) hv hd flats3 fun es hes => ?_
  obtain ⟨x, y, z, rfl, h1, h2, h3⟩ := ShAs.three hes
  obtain ⟨d, rfl, k1⟩ := sh_draft h1
  obtain ⟨l, rfl, k2, k3⟩ := sh_eight h2
  obtain ⟨n, rfl, k4⟩ := sh_u8 h3
  exact Grows_ok d k1 l k2 k3 n
theorem read25 : Try.prog.readableRec 25 = true := by kernel_rfl
theorem read46 : Try.prog.readableRec 46 = true := by kernel_rfl
theorem read5 : Try.prog.readableRec 5 = true := by kernel_rfl
theorem row25 : (25 : Nat) < Try.prog.types.size := of_decide_eq_true (by kernel_rfl)
theorem row46 : (46 : Nat) < Try.prog.types.size := of_decide_eq_true (by kernel_rfl)
theorem row5 : (5 : Nat) < Try.prog.types.size := of_decide_eq_true (by kernel_rfl)
theorem grows_lifted (os : Os) (started : os.Started) (H : Type) (enc : TypeId × Value → H) :
    ReturnsInHanded {} Try.checked os 7 .any (Rows.circuitGrowsSpec.pre6 enc Try.prog Try.f7 Rows.circuitGrowsRow.domain false) (Rows.circuitGrowsSpec.post enc Try.prog Try.f7 false true false false) := by
  refine returnsInHanded_of_change (C := Try.checked) own started (by kernel_rfl) Try.func7
    (ChangeSpec.witness6 (enc := enc) (C := Try.checked) false ⟨#[], #[.agg #[.slice none 0 0, .slice none 0 0, .bool true], .agg #[.int .u8 0, .int .u8 0, .int .u8 0, .int .u8 0, .int .u8 0, .int .u8 0, .int .u8 0, .int .u8 0], .int .u8 0], []⟩ 8 (by kernel_rfl) (by kernel_rfl) (by kernel_rfl) (by kernel_rfl)) ?_
  intro W base args ds gs before hval0 hW hcnd _
  have hval : ∀ (j : Nat) t v, Try.f7.params[j]? = some t → args[j]? = some v → Value.okWide Try.prog W .any base t v := hval0
  have hlt : ∀ x ∈ before, x.block < W.heap.size := fun x hx => hW.lt x hx
  have hW' := hW
  obtain ⟨p, q, hA0, hV, rfl, hfz, hnd⟩ := hW
  have hA : DataW.TrodAll enc Try.prog W 0 (fun _ => true) true Try.f7.params.toList args.toList ds p := hA0
  rw [Try.params7] at hA hval
  have hcalls := grows_calls (fun j t v h1 h2 => hval j t v (by simpa using h1) h2) hA
  obtain ⟨v0, v1, v2, d0, d1, d2, p0, p1, p2, rfl, rfl, rfl, h0, h1, h2⟩ := trodAll_three hA
  obtain ⟨rfl, rfl⟩ := trodVars_none hV
  clear hA0 hval0
  simp only [List.append_nil] at hW'
  refine hcalls.mono fun e W' ⟨he, hb⟩ => ?_
  subst he
  exact ⟨_, rfl, _, _, _, [], _, [], hW', trodAll_mk1 (shut_bool Try.underlying4 true),
    trodAll_mk3 (Below.trod laidOut read25 row25 h0 hb (fun x hx => hlt x (by simp [hx]))) (Below.trod laidOut read46 row46 h1 hb (fun x hx => hlt x (by simp [hx]))) (Below.trod laidOut read5 row5 h2 hb (fun x hx => hlt x (by simp [hx]))),
    rfl, hb.frame _, fun h => by cases h⟩
theorem grows_holds : Rows.CircuitGrowsSaid :=
  OpenClaim.holds_of_wide 7 Try.f7 rfl rfl rfl rfl rfl rfl rfl ⟨rfl, rfl, rfl, rfl, rfl⟩ rfl rfl rfl rfl rfl (by kernel_rfl) Try.func7 (by kernel_rfl)
    (of_decide_eq_true (by kernel_rfl)) (by unfold Func.isWrapper; first | (rw [if_pos (by decide +kernel)]; kernel_rfl) | (rw [if_neg (by decide +kernel)]; exact ⟨rfl, rfl⟩))
    (fun os started H enc _ => grows_lifted os started H enc)
end Go.Proofs.Ytbjfkbkmoeibdaa.C
namespace Go.Proofs.Ytbjfkbkmoeibdaa
theorem grows_holds : Rows.CircuitGrowsSaid := C.grows_holds
end Go.Proofs.Ytbjfkbkmoeibdaa
