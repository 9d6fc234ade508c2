/-
  Closing: the forms of the arguments of the laws on circuits. Conditions: none.
-/
import Derived.Test.YtbjfkbkmoeibdaaDeCcE
import Derived.Test.YtbjfkbkmoeibdaaDe6
import Derived.Test.YtbjfkbkmoeibdaaDeCl1
namespace Go.Proofs.Ytbjfkbkmoeibdaa.C
open Go Go.Mx Go.Lx
set_option linter.unusedSimpArgs false
set_option linter.unusedVariables false
theorem gatesB_app {cards : List Int} : ∀ (gs : List Gate) (g : Gate) (i : Int), gatesB cards i (gs ++ [g]) = (gatesB cards i gs && gateB cards (i + gs.length) g)
  | [], g, i => by simp [gatesB]
  | x :: r, g, i => by
    simp only [List.cons_append, gatesB, gatesB_app r g (i + 1), List.length_cons, Bool.and_assoc]
    congr 3
    omega
theorem gatesB_all {cards : List Int} : ∀ (gs : List Gate) (i : Int), (∀ g ∈ gs, ∀ j, gateB cards j g = true) → gatesB cards i gs = true
  | [], _, _ => rfl
  | x :: r, i, h => by simp [gatesB, h x (by simp) i, gatesB_all r (i + 1) fun g hg => h g (by simp [hg])]
theorem mem_isAll (cs : List Int) : ∀ (l : List Int) (v : Nat), l = cs.drop v → ∀ g ∈ isAll v l, ∃ v' x : Nat, g = isG v' x ∧ v' < cs.length ∧ (x : Int) < cs.getD v' 0
  | [], v, _, g, hg => by simp [isAll] at hg
  | k :: r, v, hl, g, hg => by
    have hv : v < cs.length := by
      by_cases h : v < cs.length
      · exact h
      · rw [List.drop_of_length_le (by omega)] at hl; cases hl
    rw [drop_cons hv] at hl
    cases hl
    simp only [isAll, List.mem_append, List.mem_map, List.mem_range] at hg
    rcases hg with ⟨x, hx, rfl⟩ | hg
    · exact ⟨v, x, rfl, hv, by simp [hv]; omega⟩
    · exact mem_isAll cs _ (v + 1) rfl g hg
theorem isG_ok {cs : List Int} {v x : Nat} (hv : v < cs.length) (hx : (x : Int) < cs.getD v 0) (j : Int) : gateB cs j (isG v x) = true := by
  unfold gateB isG
  simp only [Int.reduceBEq, Bool.false_eq_true, if_false, if_true, Int.natCast_nonneg, decide_true, Bool.true_and, Int.toNat_natCast, List.length_nil, Bool.and_eq_true, decide_eq_true_eq]
  exact ⟨by omega, hx, rfl⟩
theorem draftGate_ok {cs : List Int} {unit i : Nat} (hu : unit ≤ 100000000000) (hi : 1 ≤ i) (g : G4) : gateB cs i (draftGate unit i g) = true := by
  unfold draftGate
  split
  · unfold gateB
    have hmul : g.b % 8 * unit ≤ 8 * 100000000000 := Nat.mul_le_mul (by omega) hu
    simp only [Int.reduceBEq, if_true, Bool.and_eq_true, decide_eq_true_eq, List.length_nil]
    refine ⟨by omega, by omega, by decide, by decide, by decide⟩
  · have h1 : (((3 + g.a % 2 : Nat) : Int) == 1) = false := beq_eq_false_iff_ne.2 (by omega)
    have h2 : (((3 + g.a % 2 : Nat) : Int) == 2) = false := beq_eq_false_iff_ne.2 (by omega)
    have h3 : (((3 + g.a % 2 : Nat) : Int) == 3 || ((3 + g.a % 2 : Nat) : Int) == 4) = true := by
      simp only [Bool.or_eq_true, beq_iff_eq]; omega
    have hb := Nat.mod_lt g.b hi
    have hc := Nat.mod_lt g.c hi
    unfold gateB
    simp only [h1, h2, h3, if_true, Bool.false_eq_true, if_false]
    split
    · simp only [List.length_cons, List.length_nil, incr, Bool.and_true]
      simp
      omega
    · rename_i hne
      simp only [List.length_cons, List.length_nil, incr, Bool.and_true]
      simp
      omega
theorem draftGo_ok {cs : List Int} {unit : Nat} (hu : unit ≤ 100000000000) : ∀ (l : List G4) (gs : List Gate), 1 ≤ gs.length → gatesB cs 0 gs = true → gatesB cs 0 (draftGo unit gs l) = true ∧ (draftGo unit gs l).length = gs.length + l.length
  | [], gs, _, h => ⟨h, by simp [draftGo]⟩
  | g :: r, gs, h1, h => by
    have h2 := draftGo_ok hu r (gs ++ [draftGate unit gs.length g]) (by simp) (by rw [gatesB_app, h, Int.zero_add, draftGate_ok hu h1]; rfl)
    refine ⟨h2.1, ?_⟩
    rw [draftGo, h2.2]
    simp
    omega
theorem prodGo_bnd : ∀ (l : List Int) (s : Int) (k : Nat), (∀ x ∈ l, 1 ≤ x ∧ x ≤ 3) → 1 ≤ s → s ≤ 3 ^ k → ∃ r, prodGo s l = some r ∧ r ≤ 3 ^ (k + l.length)
  | [], s, k, _, _, h => ⟨s, rfl, by simpa using h⟩
  | x :: r, s, k, hx, h1, h2 => by
    obtain ⟨q1, q2⟩ := hx x (by simp)
    have h3 : s * x ≤ s * 3 := Int.mul_le_mul_of_nonneg_left q2 (by omega)
    have h4 : (3 : Int) ^ (k + 1) = 3 ^ k * 3 := Int.pow_succ ..
    have h5 : s * 1 ≤ s * x := Int.mul_le_mul_of_nonneg_left q1 (by omega)
    obtain ⟨r', g1, g2⟩ := prodGo_bnd r (s * x) (k + 1) (fun y hy => hx y (by simp [hy])) (by omega) (by omega)
    refine ⟨r', ?_, ?_⟩
    · rw [prodGo, if_neg (by omega)]; exact g1
    · rw [List.length_cons, Nat.add_comm r.length 1, ← Nat.add_assoc]; exact g2
theorem draft_gates (d : Dr) : gatesB (cardsOf d) 0 (draftC d).gates = true ∧ 1 ≤ (draftC d).gates.length ∧ (draftC d).gates.length ≤ 42 := by
  obtain ⟨cb1, cb2, cb3⟩ := cardsOf_bnd d
  have hil := isAll_len (cardsOf d) 0 (fun x hx => (cb3 x hx).2)
  have hip := isAll_pos cb1 (fun x hx => (cb3 x hx).1)
  have hu : unitOf d ≤ 100000000000 := by unfold unitOf; split <;> omega
  have h := draftGo_ok (cs := cardsOf d) hu (d.gates.take 30) (isAll 0 (cardsOf d)) hip (gatesB_all _ _ fun g hg j => by
    obtain ⟨v, x, rfl, h1, h2⟩ := mem_isAll (cardsOf d) _ 0 rfl g hg
    exact isG_ok h1 h2 j)
  have hl : (d.gates.take 30).length ≤ 30 := by simp; omega
  refine ⟨h.1, ?_, ?_⟩
  · show 1 ≤ (draftGo _ _ _).length
    omega
  · show (draftGo _ _ _).length ≤ 42
    omega
theorem cardsB_of {cs : List Int} (h1 : 1 ≤ cs.length) (h2 : cs.length ≤ 4) (h3 : ∀ x ∈ cs, 1 ≤ x ∧ x ≤ 3) : cardsB cs = true := by
  obtain ⟨r, g1, g2⟩ := prodGo_bnd cs 1 0 h3 (by omega) (by simp)
  have h5 : (3 : Int) ^ (0 + cs.length) ≤ 1024 := by
    have : cs.length = 1 ∨ cs.length = 2 ∨ cs.length = 3 ∨ cs.length = 4 := by omega
    rcases this with h | h | h | h <;> rw [h] <;> decide
  unfold cardsB
  rw [g1]
  simp only [Bool.and_eq_true, decide_eq_true_eq]
  exact ⟨⟨h1, by omega⟩, by omega⟩
theorem draft_valid (d : Dr) : validB (draftC d) = true := by
  obtain ⟨cb1, cb2, cb3⟩ := cardsOf_bnd d
  obtain ⟨g1, g2, g3⟩ := draft_gates d
  unfold validB
  simp only [Bool.and_eq_true, decide_eq_true_eq]
  exact ⟨cardsB_of cb1 cb2 cb3, g2, by omega, g1⟩
theorem incr_len {b i : Int} : ∀ {xs : List Int}, incr b i xs = true → -1 ≤ b → (xs.length : Int) ≤ max (i - b - 1) 0
  | [], _, _ => by simp; omega
  | a :: r, h, hb => by
    simp only [incr, Bool.and_eq_true, Bool.not_eq_true', decide_eq_false_iff_not] at h
    have := incr_len h.2 (by omega)
    simp only [List.length_cons]
    omega
theorem draftGate_args (unit i : Nat) (g : G4) : (draftGate unit i g).args.length ≤ 2 := by
  unfold draftGate
  split
  · simp
  · split <;> simp
theorem draftGo_args (unit : Nat) : ∀ (l : List G4) (gs : List Gate), (∀ g ∈ gs, g.args.length ≤ 2) → ∀ g ∈ draftGo unit gs l, g.args.length ≤ 2
  | [], gs, h => h
  | x :: r, gs, h => draftGo_args unit r _ fun g hg => by
    rcases List.mem_append.1 hg with hg | hg
    · exact h g hg
    · simp at hg; subst hg; exact draftGate_args _ _ _
theorem draft_small (d : Dr) : (draftC d).Small := by
  obtain ⟨cb1, cb2, cb3⟩ := cardsOf_bnd d
  obtain ⟨g1, g2, g3⟩ := draft_gates d
  refine ⟨?_, by omega, fun g hg => ?_⟩
  · show (cardsOf d).length < 1000000
    omega
  · have := draftGo_args (unitOf d) (d.gates.take 30) (isAll 0 (cardsOf d)) (fun g hg => by
      obtain ⟨v, x, rfl, _⟩ := mem_isAll (cardsOf d) _ 0 rfl g hg
      simp [isG]) g hg
    omega
/-- Values of an input for small cards. -/
theorem inVal_bnd {k l : Int} (hk : 1 ≤ k) (hk' : k ≤ 3) (hl : 0 ≤ l) : -1 ≤ inVal k l ∧ inVal k l < k := by
  unfold inVal
  rw [if_neg (by omega), wrap64 (n := k + 1) (by omega) (by omega), Int.tmod_eq_emod_of_nonneg hl]
  have h1 := Int.emod_nonneg l (show k + 1 ≠ 0 by omega)
  have h2 := Int.emod_lt_of_pos l (show 0 < k + 1 by omega)
  rw [wrap64 (by omega) (by omega)]
  omega
theorem valAt_nonneg {l : List Int} (h : ∀ x ∈ l, 0 ≤ x) (a : Int) : 0 ≤ valAt l a := by
  unfold valAt
  by_cases ha : a.toNat < l.length
  · have := h _ (List.getElem_mem ha)
    simpa [ha] using this
  · simp [List.getElem?_eq_none (show l.length ≤ a.toNat by omega)]
theorem inGo_inputs (l : List Int) (hl : ∀ x ∈ l, 0 ≤ x) : ∀ (cs : List Int) (v : Nat), (∀ x ∈ cs, 1 ≤ x ∧ x ≤ 3) → inGo cs (inputsGo l v cs) = true
  | [], _, _ => rfl
  | k :: r, v, h => by
    obtain ⟨h1, h2⟩ := h k (by simp)
    obtain ⟨g1, g2⟩ := inVal_bnd h1 h2 (valAt_nonneg hl ((v % 8 : Nat) : Int))
    simp only [inputsGo, inGo, inGo_inputs l hl r (v + 1) fun x hx => h x (by simp [hx]), Bool.and_true, Bool.and_eq_true, Bool.not_eq_true', decide_eq_false_iff_not]
    omega
theorem inputB_inputs (l : List Int) (hl : ∀ x ∈ l, 0 ≤ x) {cs : List Int} (h : ∀ x ∈ cs, 1 ≤ x ∧ x ≤ 3) : inputB cs (inputsGo l 0 cs) = true := by
  unfold inputB
  rw [inputsGo_len, inGo_inputs l hl cs 0 h]
  simp
/-- Less is known. -/
def lessB : List Int → List Int → Prop
  | [], [] => True
  | x :: r, y :: s => (y = x ∨ y = -1) ∧ lessB r s
  | _, _ => False
theorem lessB_refl : ∀ l, lessB l l
  | [] => trivial
  | x :: r => ⟨.inl rfl, lessB_refl r⟩
theorem lessB_len : ∀ {l m : List Int}, lessB l m → l.length = m.length
  | [], [], _ => rfl
  | _ :: r, _ :: s, h => by simp [lessB_len h.2]
  | [], _ :: _, h => h.elim
  | _ :: _, [], h => h.elim
theorem lessB_set : ∀ {l m : List Int} (k : Nat), lessB l m → lessB l (m.set k (-1))
  | [], [], k, _ => trivial
  | x :: r, y :: s, 0, h => ⟨.inr rfl, h.2⟩
  | x :: r, y :: s, k + 1, h => ⟨h.1, lessB_set k h.2⟩
  | [], _ :: _, _, h => h.elim
  | _ :: _, [], _, h => h.elim
theorem lessB_get : ∀ {l m : List Int}, lessB l m → ∀ k : Nat, m.getD k 0 = l.getD k 0 ∨ m.getD k 0 = -1
  | [], [], _, k => .inl rfl
  | x :: r, y :: s, h, 0 => by simpa using h.1
  | x :: r, y :: s, h, k + 1 => by simpa using lessB_get h.2 k
  | [], _ :: _, h, _ => h.elim
  | _ :: _, [], h, _ => h.elim
theorem lessB_in : ∀ {cs l m : List Int}, lessB l m → (∀ x ∈ cs, 1 ≤ x ∧ x ≤ 3) → inGo cs l = true → inGo cs m = true
  | [], _, _, _, _, _ => by simp [inGo]
  | c :: r, [], [], _, _, _ => by simp [inGo]
  | c :: r, x :: s, y :: t, h, hc, hi => by
    have h1 := hc c (by simp)
    simp only [inGo, Bool.and_eq_true, Bool.not_eq_true', decide_eq_false_iff_not] at hi ⊢
    refine ⟨?_, lessB_in h.2 (fun z hz => hc z (by simp [hz])) hi.2⟩
    rcases h.1 with h | h <;> omega
  | _ :: _, [], _ :: _, h, _, _ => h.elim
  | _ :: _, _ :: _, [], h, _, _ => h.elim
/-- Values that are no smaller. -/
def leL : List Int → List Int → Prop
  | [], [] => True
  | x :: r, y :: s => (0 ≤ x ∧ x ≤ y) ∧ leL r s
  | _, _ => False
theorem leL_len : ∀ {l m : List Int}, leL l m → l.length = m.length
  | [], [], _ => rfl
  | _ :: r, _ :: s, h => by simp [leL_len h.2]
  | [], _ :: _, h => h.elim
  | _ :: _, [], h => h.elim
theorem leL_get : ∀ {l m : List Int}, leL l m → ∀ k : Nat, 0 ≤ l.getD k 0 ∧ l.getD k 0 ≤ m.getD k 0
  | [], [], _, k => by simp
  | x :: r, y :: s, h, 0 => by simpa using h.1
  | x :: r, y :: s, h, k + 1 => by simpa using leL_get h.2 k
  | [], _ :: _, h, _ => h.elim
  | _ :: _, [], h, _ => h.elim
theorem leL_app : ∀ {l m : List Int} {x y : Int}, leL l m → 0 ≤ x → x ≤ y → leL (l ++ [x]) (m ++ [y])
  | [], [], x, y, _, h1, h2 => ⟨⟨h1, h2⟩, trivial⟩
  | _ :: r, _ :: s, x, y, h, h1, h2 => ⟨h.1, leL_app h.2 h1 h2⟩
  | [], _ :: _, _, _, h, _, _ => h.elim
  | _ :: _, [], _, _, h, _, _ => h.elim
theorem leL_map {l m : List Int} (h : leL l m) : ∀ (args : List Int), leL (args.map (valAt l)) (args.map (valAt m))
  | [] => trivial
  | a :: r => ⟨leL_get h a.toNat, leL_map h r⟩
theorem addT_mono {a b a' b' : Int} (h0 : 0 ≤ a) (h1 : a ≤ a') (h2 : 0 ≤ b) (h3 : b ≤ b') (h4 : a' ≤ 4611686018427387904) : 0 ≤ addT a b ∧ addT a b ≤ addT a' b' ∧ addT a' b' ≤ 4611686018427387904 := by
  unfold addT
  split <;> split <;> omega
theorem mulT_mono {a b a' b' : Int} (h0 : 0 ≤ a) (h1 : a ≤ a') (h2 : 0 ≤ b) (h3 : b ≤ b') (h4 : a' ≤ 4611686018427387904) : 0 ≤ mulT a b ∧ mulT a b ≤ mulT a' b' ∧ mulT a' b' ≤ 4611686018427387904 := by
  have g1 : 0 ≤ a * b := Int.mul_nonneg h0 h2
  have g2 : a * b ≤ a' * b' := Int.mul_le_mul h1 h3 h2 (by omega)
  unfold mulT
  split <;> split <;> omega
theorem foldl_mono {op : Int → Int → Int} (hop : ∀ {a b a' b' : Int}, 0 ≤ a → a ≤ a' → 0 ≤ b → b ≤ b' → a' ≤ 4611686018427387904 → 0 ≤ op a b ∧ op a b ≤ op a' b' ∧ op a' b' ≤ 4611686018427387904) : ∀ {l m : List Int} {u w : Int}, leL l m → 0 ≤ u → u ≤ w → w ≤ 4611686018427387904 → 0 ≤ l.foldl op u ∧ l.foldl op u ≤ m.foldl op w ∧ m.foldl op w ≤ 4611686018427387904
  | [], [], u, w, _, h1, h2, h3 => ⟨h1, h2, h3⟩
  | x :: r, y :: s, u, w, h, h1, h2, h3 => by
    obtain ⟨g1, g2, g3⟩ := hop h1 h2 h.1.1 h.1.2 h3
    simp only [List.foldl_cons]
    exact foldl_mono hop h.2 g1 g2 g3
  | [], _ :: _, _, _, h, _, _, _ => h.elim
  | _ :: _, [], _, _, h, _, _, _ => h.elim
theorem isV_mono {inp ys : List Int} (h : lessB inp ys) (g : Gate) : 0 ≤ isV inp g ∧ isV inp g ≤ isV ys g := by
  have := lessB_get h g.var.toNat
  unfold isV valAt
  rcases this with e | e <;> rw [e]
  · split <;> omega
  · split <;> split <;> omega
theorem gateV_mono {cards inp ys vals vals' : List Int} {g : Gate} {i : Int} (hg : gateB cards i g = true) (h : lessB inp ys) (hv : leL vals vals') : 0 ≤ gateV inp vals g ∧ gateV inp vals g ≤ gateV ys vals' g ∧ gateV ys vals' g ≤ 4611686018427387904 := by
  have hi := isV_mono h g
  have hi2 : isV ys g ≤ 1 := by unfold isV; split <;> omega
  have hs := foldl_mono (op := addT) addT_mono (u := 0) (w := 0) (leL_map hv g.args) (by omega) (by omega) (by omega)
  have hp := foldl_mono (op := mulT) mulT_mono (u := 1) (w := 1) (leL_map hv g.args) (by omega) (by omega) (by omega)
  unfold gateV
  split
  · rename_i h1
    rcases gate_kinds hg with ⟨e, h1, h2⟩ | ⟨e, _⟩ | ⟨e, _⟩ <;> omega
  · split
    · omega
    · split
      · exact hs
      · exact hp
theorem evalGo_mono {cards inp ys : List Int} (h : lessB inp ys) : ∀ (gs : List Gate) (vals vals' r : List Int) (i : Int), gatesB cards i gs = true → leL vals vals' → evalGo ys vals' gs = some r → ∃ q, evalGo inp vals gs = some q ∧ leL q r
  | [], vals, vals', r, _, _, hv, he => ⟨vals, rfl, by cases he; exact hv⟩
  | g :: s, vals, vals', r, i, hg, hv, he => by
    simp only [gatesB, Bool.and_eq_true] at hg
    obtain ⟨m1, m2, m3⟩ := gateV_mono hg.1 h hv
    simp only [evalGo] at he ⊢
    split at he
    · cases he
    · rename_i hne
      rw [if_neg (by omega)]
      exact evalGo_mono h s _ _ r (i + 1) hg.2 (leL_app hv m1 m2) he
/-- If less is known, no value is smaller. -/
theorem grows_math {c : Circ} {inp ys : List Int} (hv : validB c = true) (h1 : inputB c.cards inp = true) (h2 : inputB c.cards ys = true) (h : lessB inp ys) :
    ((evalR c ys).2 ≠ 0 → (evalR c ys).2 = 6 ∧ ((evalR c inp).2 = 0 ∨ (evalR c inp).2 = 6)) ∧ ((evalR c ys).2 = 0 → (evalR c inp).2 = 0 ∧ (evalR c inp).1 ≤ (evalR c ys).1) := by
  have e1 : evalR c inp = match evalGo inp [] c.gates with | none => (0, 6) | some vals => (valAt vals ((vals.length - 1 : Nat) : Int), 0) := by
    unfold evalR
    rw [if_neg (by rw [hv]; simp), if_neg (by rw [h1]; simp)]
    cases evalGo inp [] c.gates <;> rfl
  have e2 : evalR c ys = match evalGo ys [] c.gates with | none => (0, 6) | some vals => (valAt vals ((vals.length - 1 : Nat) : Int), 0) := by
    unfold evalR
    rw [if_neg (by rw [hv]; simp), if_neg (by rw [h2]; simp)]
    cases evalGo ys [] c.gates <;> rfl
  rw [e1, e2]
  have hgs : gatesB c.cards 0 c.gates = true := by
    simp only [validB, Bool.and_eq_true] at hv
    exact hv.2.2.2
  cases hy : evalGo ys [] c.gates with
  | none =>
    refine ⟨fun _ => ⟨rfl, ?_⟩, fun h => by simp at h⟩
    cases evalGo inp [] c.gates
    · exact .inr rfl
    · exact .inl rfl
  | some r =>
    obtain ⟨q, hq, hl⟩ := evalGo_mono h c.gates [] [] r 0 hgs trivial hy
    rw [hq]
    refine ⟨fun h => (h rfl).elim, fun _ => ⟨rfl, ?_⟩⟩
    show valAt q _ ≤ valAt r _
    rw [leL_len hl]
    exact (leL_get hl _).2
end Go.Proofs.Ytbjfkbkmoeibdaa.C
namespace Go.Proofs.Ytbjfkbkmoeibdaa.C
open Go Go.Mx Go.Lx
set_option linter.unusedSimpArgs false
set_option linter.unusedVariables false
set_option maxRecDepth 100000
theorem has11 : mC.has 11 fn11 := ⟨rfl, fun _ _ _ => rfl⟩
structure Bd where
  w : Nat
  a : Nat
  n : Int
structure Bd.Ok (b : Bd) : Prop where
  w : b.w < 256
  a : b.a < 256
  n : b.n < 9223372036854775808
def bdC (b : Bd) : List D := [dU8 b.w, dU8 b.a, dI b.n]
def bent (b : Bd) (c : Circ) : Circ := bendC b.w b.a b.n c
/-- A circuit of no great size. -/
structure Circ.Fine (c : Circ) (k : Nat) : Prop where
  cards : c.cards.length ≤ k
  gates : c.gates.length ≤ k
  args : ∀ g ∈ c.gates, g.args.length ≤ k
  val : ∀ x ∈ c.cards, x < 9223372036854775808
theorem Circ.Fine.small {c : Circ} {k : Nat} (h : c.Fine k) (hk : k < 1000000) : c.Small := ⟨Nat.lt_of_le_of_lt h.cards hk, Nat.lt_of_le_of_lt h.gates hk, fun g hg => Nat.lt_of_le_of_lt (h.args g hg) hk⟩
theorem getD_mem {gs : List Gate} {j : Nat} : gs.getD j gate0 ∈ gs ∨ gs.getD j gate0 = gate0 := by
  rw [List.getD_eq_getElem?_getD]
  cases h : gs[j]? with
  | none => exact .inr rfl
  | some g => exact .inl (List.mem_of_getElem? h)
theorem fine_set {c : Circ} {k j : Nat} {g : Gate} (h : c.Fine k) (hg : g.args.length ≤ k + 1) : (⟨c.cards, c.gates.set j g⟩ : Circ).Fine (k + 1) := by
  have h1 := h.cards
  have h2 := h.gates
  refine ⟨by show c.cards.length ≤ k + 1; omega, by simp; omega, fun x hx => ?_, h.val⟩
  rcases List.mem_or_eq_of_mem_set hx with hx | rfl
  · have := h.args x hx; omega
  · exact hg
theorem fine_mono {c : Circ} {k : Nat} (h : c.Fine k) : c.Fine (k + 1) := by
  have h1 := h.cards
  have h2 := h.gates
  exact ⟨by omega, by omega, fun g hg => by have := h.args g hg; omega, h.val⟩
theorem bent_fine {b : Bd} (hb : b.Ok) {c : Circ} {k : Nat} (h : c.Fine k) : (bent b c).Fine (k + 1) := by
  unfold bent
  by_cases h0 : c.gates.length = 0 ∨ c.cards.length = 0
  · have : bendC b.w b.a b.n c = c := by unfold bendC; rw [if_pos h0]
    rw [this]; exact fine_mono h
  rw [bend_neg h0]
  have hga : (c.gates.getD (b.a % c.gates.length) gate0).args.length ≤ k := by
    rcases getD_mem (gs := c.gates) (j := b.a % c.gates.length) with hg | hg
    · exact h.args _ hg
    · rw [hg]; simp [gate0]
  have h1 := h.cards
  have h2 := h.gates
  split
  · exact fine_set h (by show (c.gates.getD _ gate0).args.length ≤ k + 1; omega)
  split
  · exact fine_set h (by show (c.gates.getD _ gate0).args.length ≤ k + 1; omega)
  split
  · exact fine_set h (by show (c.gates.getD _ gate0).args.length ≤ k + 1; omega)
  split
  · exact fine_set h (by show (c.gates.getD _ gate0).args.length ≤ k + 1; omega)
  split
  · exact fine_set h (by simp only [List.length_append, List.length_cons, List.length_nil]; omega)
  split
  · exact fine_set h (by simp only [List.length_drop]; omega)
  split
  · refine ⟨by simp; omega, by show c.gates.length ≤ k + 1; omega, fun g hg => by have := h.args g hg; omega, fun x hx => ?_⟩
    rcases List.mem_or_eq_of_mem_set hx with hx | rfl
    · exact h.val x hx
    · exact hb.n
  split
  · exact ⟨by show c.cards.length ≤ k + 1; omega, by simp; omega, fun g hg => by have := h.args g (List.mem_of_mem_take hg); omega, h.val⟩
  · refine ⟨by simp; omega, by show c.gates.length ≤ k + 1; omega, fun g hg => by have := h.args g hg; omega, fun x hx => ?_⟩
    rcases List.mem_append.1 hx with hx | hx
    · exact h.val x hx
    · simp at hx; subst hx; exact hb.n
theorem draft_fine (d : Dr) : (draftC d).Fine 100 := by
  obtain ⟨h1, h2, h3⟩ := draft_gates d
  obtain ⟨c1, c2, c3⟩ := cardsOf_bnd d
  refine ⟨by show (cardsOf d).length ≤ 100; omega, by omega, fun g hg => ?_, fun x hx => by have := (c3 x hx).2; omega⟩
  have := draftGo_args (unitOf d) (d.gates.take 30) (isAll 0 (cardsOf d)) (fun g hg => by
    obtain ⟨v, x, rfl, _⟩ := mem_isAll (cardsOf d) (cardsOf d) 0 rfl g hg
    simp [isG]) g hg
  omega
theorem few_fine (raw : Circ) (hv : ∀ x ∈ raw.cards, x < 9223372036854775808) : (fewC raw).Fine 100 := by
  refine ⟨by simp [fewC]; omega, by simp [fewC]; omega, fun g hg => ?_, fun x hx => hv x (List.mem_of_mem_take hx)⟩
  obtain ⟨g', _, rfl⟩ := List.mem_map.1 hg
  simp [fewG]; omega
def four (d : Dr) (b0 b1 : Bd) (raw : Circ) : List Circ := [draftC d, bent b0 (draftC d), bent b1 (bent b0 (draftC d)), fewC raw]
def fourC (d : Dr) (b0 b1 : Bd) (raw : Circ) : List D := ((four d b0 b1 raw).map (circC false)).flatten
theorem four_fine {d : Dr} {b0 b1 : Bd} {raw : Circ} (h0 : b0.Ok) (h1 : b1.Ok) (hv : ∀ x ∈ raw.cards, x < 9223372036854775808) : ∀ c ∈ four d b0 b1 raw, c.Fine 102 := by
  intro c hc
  simp only [four, List.mem_cons, List.not_mem_nil, or_false] at hc
  rcases hc with rfl | rfl | rfl | rfl
  · exact fine_mono (fine_mono (draft_fine d))
  · exact fine_mono (bent_fine h0 (draft_fine d))
  · exact bent_fine h1 (bent_fine h0 (draft_fine d))
  · exact fine_mono (fine_mono (few_fine raw hv))
set_option maxHeartbeats 8000000 in
theorem circuits_ok (d : Dr) (hd : d.Ok) (b0 b1 : Bd) (h0 : b0.Ok) (h1 : b1.Ok) (raw : Circ) : FnA mC 11 [.agg (drC d), .agg (bdC b0 ++ bdC b1), .agg (circC false raw)] (.agg (fourC d b0 b1 raw)) := by
  refine FnA.intro has11 (by simp [fn11]) rfl ?_
  have hcirc : ∀ t c, circC t c = [ints t c.cards, gatesD t c.gates] := fun _ _ => rfl
  have hbd : bdC b0 ++ bdC b1 = [dU8 b0.w, dU8 b0.a, dI b0.n, dU8 b1.w, dU8 b1.a, dI b1.n] := rfl
  have edr : drC d = [u8s d.cards, g4s d.gates, dB d.big] := rfl
  have hs0 := (draft_fine d).small (by omega)
  have hs1 := (bent_fine h0 (draft_fine d)).small (by omega)
  simp only [wp, stepL_true, doI, quietI, isCallI, wantedD, LSt.put, LSt.putO, LSt.putE, qL, effL, evD, lk, loadD_ptr, takeD, slotD, Lx.cellsO, cells_agg, argsE, Nat.reduceEqDiff, Nat.reduceLT, Nat.reduceAdd, Nat.reduceLeDiff, Bool.not_false, if_true, if_false, List.getElem?_cons_zero, List.length_cons, List.length_nil, List.cons_append, List.nil_append, Nat.zero_add, List.drop_zero, List.take_succ_cons, List.take_zero, List.map_cons, List.map_nil, reduceCtorEq, fn11, hcirc false raw, hbd, edr]
  refine EvL.fn (Draft_ok d hd) rfl rfl (.cons (.aggs (.cons (snp_map _ _ _ (fun _ => rfl) fun x k d d' h1 h2 => ?_) (.cons (snp_map _ _ _ (fun _ => rfl) fun x k d d' h1 h2 => ?_) (.cons (.lit _) .nil)))) .nil) ?_
  · rw [h1] at h2
    cases h2
    exact snps_get (.cons (.lit _) .nil) h1 h1
  · rw [h1] at h2
    cases h2
    exact snps_get (.cons (.lit _) (.cons (.lit _) (.cons (.lit _) (.cons (.lit _) .nil)))) h1 h1
  simp only [wp, stepL_true, doI, quietI, isCallI, wantedD, LSt.put, LSt.putO, LSt.putE, qL, effL, evD, intD, lk, loadD_ptr, fldD, takeD, slotD, Lx.cellsO, cells_agg, putD, storeD, Nat.reduceEqDiff, Nat.reduceLT, Nat.reduceAdd, Nat.reduceLeDiff, Bool.not_true, and_self, if_true, if_false, List.getElem?_cons_zero, List.getElem?_cons_succ, List.length_cons, List.length_nil, List.cons_append, List.nil_append, Nat.zero_add, Nat.add_zero, Int.reduceLE, Int.reduceLT, List.drop_zero, List.drop_succ_cons, List.take_succ_cons, List.take_zero, List.map_cons, List.map_nil, List.set_cons_zero, List.set_cons_succ, reduceCtorEq, hcirc true (draftC d), Int.reduceToNat, Int.cast_ofNat_Int, Nat.zero_mul, Nat.one_mul]
  refine EvL.fn (Bend_ok b0.w b0.a b0.n h0.a h0.w (draftC d) hs0) rfl rfl (.cons (pl_snp rfl _ _) (.cons (snp_circ _ true _) .nil)) ?_
  simp only [wp, isCallI, LSt.put, Nat.reduceLT, if_true]
  refine EvL.fn (Bend_ok b0.w b0.a b0.n h0.a h0.w (draftC d) hs0) rfl rfl (.cons (pl_snp rfl _ _) (.cons (snp_circ _ true _) .nil)) ?_
  simp only [wp, isCallI, LSt.put, Nat.reduceLT, if_true]
  refine EvL.fn (Bend_ok b1.w b1.a b1.n h1.a h1.w (bent b0 (draftC d)) hs1) rfl rfl (.cons (pl_snp rfl _ _) (.cons (snp_circ _ true _) .nil)) ?_
  simp only [wp, isCallI, LSt.put, Nat.reduceLT, if_true]
  refine EvL.fnA (few_ok raw) rfl rfl ⟨circC_fr raw, trivial⟩ (circC_fr _) ?_
  simp only [wp, stepL_true, doI, quietI, isCallI, wantedD, LSt.put, LSt.putO, LSt.putE, qL, effL, evD, lk, Lx.cellsO, cells_agg, fillD, putD, storeD, Nat.reduceEqDiff, Nat.reduceLT, Nat.reduceAdd, Nat.reduceLeDiff, and_self, if_true, if_false, List.getElem?_cons_zero, List.getElem?_cons_succ, List.length_cons, List.length_nil, List.cons_append, List.nil_append, Nat.zero_add, List.drop_zero, List.drop_succ_cons, List.take_succ_cons, List.take_zero, List.map_cons, List.map_nil, List.set_cons_zero, List.set_cons_succ, reduceCtorEq, hcirc true (bendC b0.w b0.a b0.n (draftC d)), hcirc true (bendC b1.w b1.a b1.n (bent b0 (draftC d))), hcirc false (fewC raw)]
  refine RetA.ret rfl (.aggs ?_)
  exact .cons (snp_ints _ _ _) (.cons (snp_gates _ _ _) (.cons (snp_ints _ _ _) (.cons (snp_gates _ _ _) (.cons (snp_ints _ _ _) (.cons (snp_gates _ _ _) (.cons (snp_ints _ _ _) (.cons (snp_gates _ _ _) .nil)))))))
theorem fourC_fr (d : Dr) (b0 b1 : Bd) (raw : Circ) : D.frs (fourC d b0 b1 raw) := frs_app (circC_fr _) (frs_app (circC_fr _) (frs_app (circC_fr _) (frs_app (circC_fr _) trivial)))
theorem fourC_at {d : Dr} {b0 b1 : Bd} {raw : Circ} {k : Nat} (hk : k < 4) : ∃ c ∈ four d b0 b1 raw, ((fourC d b0 b1 raw).drop (k * 2)).take 2 = [ints false c.cards, gatesD false c.gates] := by
  match k, hk with
  | 0, _ => exact ⟨draftC d, by simp [four], rfl⟩
  | 1, _ => exact ⟨bent b0 (draftC d), by simp [four], rfl⟩
  | 2, _ => exact ⟨bent b1 (bent b0 (draftC d)), by simp [four], rfl⟩
  | 3, _ => exact ⟨fewC raw, by simp [four], rfl⟩
theorem fourC_len (d : Dr) (b0 b1 : Bd) (raw : Circ) : (fourC d b0 b1 raw).length = 8 := rfl
theorem raw_fr {d : Dr} {b0 b1 : Bd} {raw : Circ} : D.frs [.agg (drC d), .agg (bdC b0 ++ bdC b1), .agg (circC false raw)] := by
  refine ⟨⟨⟨rfl, frss_map _ fun x _ => ⟨trivial, trivial⟩⟩, ⟨rfl, frss_map _ fun x _ => ⟨trivial, trivial, trivial, trivial, trivial⟩⟩, trivial, trivial⟩, ⟨trivial, trivial, trivial, trivial, trivial, trivial, trivial⟩, circC_fr raw, trivial⟩
end Go.Proofs.Ytbjfkbkmoeibdaa.C
namespace Go.Proofs.Ytbjfkbkmoeibdaa.C
open Go Go.Mx Go.Lx Go.ChangeShapes Go.WideShapes Go.ChangeAt Go.RowKit
set_option linter.unusedSimpArgs false
set_option linter.unusedVariables false
set_option maxRecDepth 100000
theorem flat25 : flatT Try.prog 8 25 = some [.sl [.int .u8], .sl [.int .u8, .int .u8, .int .u8, .int .u8], .bool] := by kernel_rfl
theorem flat46 : flatT Try.prog 8 46 = some [.int .u8, .int .u8, .int .u8, .int .u8, .int .u8, .int .u8, .int .u8, .int .u8] := by kernel_rfl
theorem flat5 : flatT Try.prog 8 5 = some [.int .u8] := by kernel_rfl
theorem agg25 : aggT Try.prog 25 = true := by kernel_rfl
theorem agg46 : aggT Try.prog 46 = true := by kernel_rfl
theorem agg5 : aggT Try.prog 5 = false := by kernel_rfl
theorem sh_u8s {d : D} (h : ShD (.sl [.int .u8]) d) : ∃ xs : List Nat, d = u8s xs ∧ ∀ x ∈ xs, x < 256 := by
  obtain ⟨els, rfl, _, h2⟩ := fz_of h
  obtain ⟨xs, rfl, h3⟩ := map_of (l := els) (f := fun (x : Nat) => [dU8 x]) (T := fun x => x < 256) fun cells hc => by
    obtain ⟨g1, g2⟩ := h2 cells hc
    obtain ⟨a, rfl⟩ := len1 g1
    obtain ⟨n, rfl, hn⟩ := lit_u8 (g2 0 _ _ rfl rfl)
    exact ⟨n, rfl, hn⟩
  exact ⟨xs, rfl, h3⟩
theorem sh_g4s {d : D} (h : ShD (.sl [.int .u8, .int .u8, .int .u8, .int .u8]) d) : ∃ xs : List G4, d = g4s xs ∧ ∀ x ∈ xs, x.Ok := by
  obtain ⟨els, rfl, _, h2⟩ := fz_of h
  obtain ⟨xs, rfl, h3⟩ := map_of (l := els) (f := g4C) (T := fun x => x.Ok) fun cells hc => by
    obtain ⟨g1, g2⟩ := h2 cells hc
    obtain ⟨a, b, c, d, rfl⟩ := len4 g1
    obtain ⟨n0, rfl, k0⟩ := lit_u8 (g2 0 _ _ rfl rfl)
    obtain ⟨n1, rfl, k1⟩ := lit_u8 (g2 1 _ _ rfl rfl)
    obtain ⟨n2, rfl, k2⟩ := lit_u8 (g2 2 _ _ rfl rfl)
    obtain ⟨n3, rfl, k3⟩ := lit_u8 (g2 3 _ _ rfl rfl)
    exact ⟨⟨n0, n1, n2, n3⟩, rfl, k0, k1, k2, k3⟩
  exact ⟨xs, rfl, h3⟩
theorem sh_draft {d : D} (h : ShA Try.prog 8 25 d) : ∃ dr : Dr, d = .agg (drC dr) ∧ dr.Ok := by
  cases h with
  | one h1 _ _ => rw [agg25] at h1; cases h1
  | agg _ h2 h3 h4 =>
    rw [flat25] at h2
    cases h2
    obtain ⟨a, b, c, rfl⟩ := len3 h3
    obtain ⟨xs, rfl, k1⟩ := sh_u8s (h4 0 _ _ rfl rfl)
    obtain ⟨gs, rfl, k2⟩ := sh_g4s (h4 1 _ _ rfl rfl)
    obtain ⟨b, rfl⟩ := lit_bool (h4 2 _ _ rfl rfl)
    exact ⟨⟨xs, gs, b⟩, rfl, k1, k2⟩
theorem sh_eight {d : D} (h : ShA Try.prog 8 46 d) : ∃ l : List Int, d = .agg (l.map dU8) ∧ l.length = 8 ∧ ∀ x ∈ l, 0 ≤ x ∧ x < 256 := by
  cases h with
  | one h1 _ _ => rw [agg46] at h1; cases h1
  | agg _ h2 h3 h4 =>
    rename_i ds cts _
    rw [flat46] at h2
    cases h2
    obtain ⟨xs, rfl, h5⟩ := map_of (l := ds) (f := dU8) (T := fun x => 0 ≤ x ∧ x < 256) fun x hx => by
      obtain ⟨i, hi⟩ := List.getElem?_of_mem hx
      have hl := (List.getElem?_eq_some_iff.1 hi).1
      rw [h3] at hl
      have : ([.int .u8, .int .u8, .int .u8, .int .u8, .int .u8, .int .u8, .int .u8, .int .u8] : List CT)[i]? = some (.int .u8) := by
        simp only [List.length_cons, List.length_nil] at hl
        match i, hl with
        | 0, _ | 1, _ | 2, _ | 3, _ | 4, _ | 5, _ | 6, _ | 7, _ => rfl
      obtain ⟨n, rfl, k⟩ := lit_u8 (h4 i _ _ this hi)
      exact ⟨n, rfl, by omega, by omega⟩
    exact ⟨xs, rfl, by simpa using h3, h5⟩
theorem sh_u8 {d : D} (h : ShA Try.prog 8 5 d) : ∃ w : Nat, d = dU8 w ∧ w < 256 := by
  cases h with
  | agg h1 _ _ _ => rw [agg5] at h1; cases h1
  | one _ h2 h3 => rw [flat5] at h2; cases h2; exact lit_u8 h3
theorem ShAs.three {P : Program} {f : Nat} {a b c : TypeId} {es : List D} (h : ShAs P f [a, b, c] es) : ∃ x y z, es = [x, y, z] ∧ ShA P f a x ∧ ShA P f b y ∧ ShA P f c z := by
  cases h with
  | cons h1 h =>
    cases h with
    | cons h2 h =>
      cases h with
      | cons h3 h =>
        cases h
        exact ⟨_, _, _, rfl, h1, h2, h3⟩
theorem flat28 : flatT Try.prog 8 28 = some [.int .u8, .int .u8, .int .i64, .int .u8, .int .u8, .int .i64] := by kernel_rfl
theorem flat32 : flatT Try.prog 8 32 = some [.sl [.int .i64], .sl [.int .i64, .int .i64, .int .i64, .int .i64, .sl [.int .i64]]] := by kernel_rfl
theorem flat29 : flatT Try.prog 8 29 = some [.sl [.int .i64]] := by kernel_rfl
theorem agg28 : aggT Try.prog 28 = true := by kernel_rfl
theorem agg32 : aggT Try.prog 32 = true := by kernel_rfl
theorem agg29 : aggT Try.prog 29 = false := by kernel_rfl
theorem sh_ints {d : D} (h : ShD (.sl [.int .i64]) d) : ∃ xs : List Int, d = ints false xs ∧ ∀ x ∈ xs, x < 9223372036854775808 := by
  obtain ⟨els, rfl, _, h2⟩ := fz_of h
  obtain ⟨xs, rfl, h3⟩ := map_of (l := els) (f := fun (x : Int) => [dI x]) (T := fun x => x < 9223372036854775808) fun cells hc => by
    obtain ⟨g1, g2⟩ := h2 cells hc
    obtain ⟨a, rfl⟩ := len1 g1
    obtain ⟨n, rfl, _, hn⟩ := lit_i64 (g2 0 _ _ rfl rfl)
    exact ⟨n, rfl, hn⟩
  exact ⟨xs, rfl, h3⟩
theorem len5 {α : Type} {l : List α} (h : l.length = 5) : ∃ a b c d e, l = [a, b, c, d, e] := by
  match l, h with
  | [a, b, c, d, e], _ => exact ⟨a, b, c, d, e, rfl⟩
theorem len6 {α : Type} {l : List α} (h : l.length = 6) : ∃ a b c d e f, l = [a, b, c, d, e, f] := by
  match l, h with
  | [a, b, c, d, e, f], _ => exact ⟨a, b, c, d, e, f, rfl⟩
theorem len2 {α : Type} {l : List α} (h : l.length = 2) : ∃ a b, l = [a, b] := by
  match l, h with
  | [a, b], _ => exact ⟨a, b, rfl⟩
theorem sh_gates {d : D} (h : ShD (.sl [.int .i64, .int .i64, .int .i64, .int .i64, .sl [.int .i64]]) d) : ∃ xs : List Gate, d = gatesD false xs := by
  obtain ⟨els, rfl, _, h2⟩ := fz_of h
  obtain ⟨xs, rfl, _⟩ := map_of (l := els) (f := gateC false) (T := fun _ => True) fun cells hc => by
    obtain ⟨g1, g2⟩ := h2 cells hc
    obtain ⟨a, b, c, d, e, rfl⟩ := len5 g1
    obtain ⟨n0, rfl, _⟩ := lit_i64 (g2 0 _ _ rfl rfl)
    obtain ⟨n1, rfl, _⟩ := lit_i64 (g2 1 _ _ rfl rfl)
    obtain ⟨n2, rfl, _⟩ := lit_i64 (g2 2 _ _ rfl rfl)
    obtain ⟨n3, rfl, _⟩ := lit_i64 (g2 3 _ _ rfl rfl)
    obtain ⟨xs, rfl, _⟩ := sh_ints (g2 4 _ _ rfl rfl)
    exact ⟨⟨n0, n1, n2, n3, xs⟩, rfl, trivial⟩
  exact ⟨xs, rfl⟩
theorem sh_circ {d : D} (h : ShA Try.prog 8 32 d) : ∃ c : Circ, d = .agg (circC false c) ∧ ∀ x ∈ c.cards, x < 9223372036854775808 := by
  cases h with
  | one h1 _ _ => rw [agg32] at h1; cases h1
  | agg _ h2 h3 h4 =>
    rw [flat32] at h2
    cases h2
    obtain ⟨a, b, rfl⟩ := len2 h3
    obtain ⟨xs, rfl, k1⟩ := sh_ints (h4 0 _ _ rfl rfl)
    obtain ⟨gs, rfl⟩ := sh_gates (h4 1 _ _ rfl rfl)
    exact ⟨⟨xs, gs⟩, rfl, k1⟩
theorem sh_bends {d : D} (h : ShA Try.prog 8 28 d) : ∃ b0 b1 : Bd, d = .agg (bdC b0 ++ bdC b1) ∧ b0.Ok ∧ b1.Ok := by
  cases h with
  | one h1 _ _ => rw [agg28] at h1; cases h1
  | agg _ h2 h3 h4 =>
    rw [flat28] at h2
    cases h2
    obtain ⟨a, b, c, d, e, f, rfl⟩ := len6 h3
    obtain ⟨n0, rfl, k0⟩ := lit_u8 (h4 0 _ _ rfl rfl)
    obtain ⟨n1, rfl, k1⟩ := lit_u8 (h4 1 _ _ rfl rfl)
    obtain ⟨n2, rfl, _, k2⟩ := lit_i64 (h4 2 _ _ rfl rfl)
    obtain ⟨n3, rfl, k3⟩ := lit_u8 (h4 3 _ _ rfl rfl)
    obtain ⟨n4, rfl, k4⟩ := lit_u8 (h4 4 _ _ rfl rfl)
    obtain ⟨n5, rfl, _, k5⟩ := lit_i64 (h4 5 _ _ rfl rfl)
    exact ⟨⟨n0, n1, n2⟩, ⟨n3, n4, n5⟩, rfl, ⟨k0, k1, k2⟩, ⟨k3, k4, k5⟩⟩
theorem sh_odd {d : D} (h : ShA Try.prog 8 29 d) : ∃ xs : List Int, d = ints false xs ∧ ∀ x ∈ xs, x < 9223372036854775808 := by
  cases h with
  | agg h1 _ _ _ => rw [agg29] at h1; cases h1
  | one _ h2 h3 => rw [flat29] at h2; cases h2; exact sh_ints h3
theorem ShAs.five {P : Program} {f : Nat} {a b c d e : TypeId} {es : List D} (h : ShAs P f [a, b, c, d, e] es) : ∃ x y z u v, es = [x, y, z, u, v] ∧ ShA P f a x ∧ ShA P f b y ∧ ShA P f c z ∧ ShA P f d u ∧ ShA P f e v := by
  cases h with
  | cons h1 h =>
    cases h with
    | cons h2 h =>
      cases h with
      | cons h3 h =>
        cases h with
        | cons h4 h =>
          cases h with
          | cons h5 h =>
            cases h
            exact ⟨_, _, _, _, _, rfl, h1, h2, h3, h4, h5⟩
theorem trods_stay {H : Type} {enc : TypeId × Value → H} {W W' : World} (hb : Below W.heap.size W W') : ∀ {ts : List TypeId} {vs : List Value} {ds : List (DataW H)} {ps : List MemPlace}, (∀ t ∈ ts, Try.prog.readableRec t = true ∧ t < Try.prog.types.size) → DataW.TrodAll enc Try.prog W 0 (fun _ => true) true ts vs ds ps → (∀ x ∈ ps, x.block < W.heap.size) →
    DataW.TrodAll enc Try.prog W' 0 (fun b => decide (b < W.heap.size)) true ts vs ds ps
  | [], vs, ds, ps, _, h, _ => by
    cases vs <;> cases ds <;> simp [DataW.TrodAll] at h ⊢
    exact h
  | t :: ts, vs, ds, ps, hr, h, hlt => by
    cases vs with
    | nil => simp [DataW.TrodAll] at h
    | cons v vs =>
      cases ds with
      | nil => simp [DataW.TrodAll] at h
      | cons d ds =>
        obtain ⟨p, q, h1, h2, rfl⟩ := h
        obtain ⟨r1, r2⟩ := hr t (by simp)
        exact ⟨p, q, Below.trod laidOut r1 r2 h1 hb (fun x hx => hlt x (by simp [hx])), trods_stay hb (fun t' ht => hr t' (by simp [ht])) h2 (fun x hx => hlt x (by simp [hx])), rfl⟩
theorem trods_len {H : Type} {enc : TypeId × Value → H} {W : World} : ∀ {ts : List TypeId} {vs : List Value} {ds : List (DataW H)} {ps : List MemPlace}, DataW.TrodAll enc Try.prog W 0 (fun _ => true) true ts vs ds ps → ds.length = ts.length
  | [], vs, ds, ps, h => by cases vs <;> cases ds <;> simp [DataW.TrodAll] at h ⊢
  | t :: ts, vs, ds, ps, h => by
    cases vs with
    | nil => simp [DataW.TrodAll] at h
    | cons v vs =>
      cases ds with
      | nil => simp [DataW.TrodAll] at h
      | cons d ds =>
        obtain ⟨p, q, h1, h2, rfl⟩ := h
        simp [trods_len h2]
end Go.Proofs.Ytbjfkbkmoeibdaa.C
