/-
  The oracle of CircuitKnown says what is so, as a whole. Conditions: none.
-/
import Derived.Test.YtbjfkbkmoeibdaaKn8
namespace Go.Proofs.Ytbjfkbkmoeibdaa
open Go Go.Mx
set_option linter.unusedSimpArgs false
set_option linter.unusedVariables false
set_option maxRecDepth 100000
theorem isI_eq {v : V} {n : Nat} (h : isI v n = true) : v = .lit (.int .i64 (n : Int)) := by
  unfold isI at h
  split at h
  · rename_i m
    rw [Nat.eq_of_beq_eq_true h]; rfl
  · cases h
theorem isNil_eq {v : V} (h : isNil v = true) : v = .lit (.slice none 0 0) := by
  unfold isNil at h
  split at h
  · rfl
  · cases h
theorem eatOne_eq {cs : List V} {k : List V → Bool} (h : eatOne cs k = true) : ∃ r, cs = gOne r ∧ k r = true := by
  unfold eatOne at h
  split at h
  · rename_i a b c d e r
    cases hb : isI a 1 && isI b 0 && isI c 0 && isI d 1 && isNil e with
    | false => rw [hb] at h; cases h
    | true =>
      rw [hb] at h
      simp only [Bool.and_eq_true] at hb
      obtain ⟨⟨⟨⟨h1, h2⟩, h3⟩, h4⟩, h5⟩ := hb
      rw [isI_eq h1, isI_eq h2, isI_eq h3, isI_eq h4, isNil_eq h5]
      exact ⟨r, rfl, h⟩
  · cases h
theorem eatPow_eq : ∀ (d : Nat) {cs : List V} {k : List V → Bool}, eatPow d cs k = true → ∃ r, cs = gPow d r ∧ k r = true
  | 0, _, _, h => eatOne_eq h
  | d + 1, cs, k, h => by
    obtain ⟨r1, h1, h2⟩ := eatPow_eq d (k := fun r => eatPow d r k) h
    obtain ⟨r2, h3, h4⟩ := eatPow_eq d h2
    exact ⟨r2, by rw [h1, h3]; rfl, h4⟩
theorem emptyL_eq {l : List V} (h : emptyL l = true) : l = [] := by cases l with | nil => rfl | cons _ _ => cases h
theorem is4000_eq {cs : List V} (h : is4000 cs = true) : cs = g4000 := by
  unfold is4000 at h
  obtain ⟨r1, e1, h⟩ := eatPow_eq _ h
  obtain ⟨r2, e2, h⟩ := eatPow_eq _ h
  obtain ⟨r3, e3, h⟩ := eatPow_eq _ h
  obtain ⟨r4, e4, h⟩ := eatPow_eq _ h
  obtain ⟨r5, e5, h⟩ := eatPow_eq _ h
  obtain ⟨r6, e6, h⟩ := eatPow_eq _ h
  unfold g4000
  rw [e1, e2, e3, e4, e5, e6, emptyL_eq h]
theorem isCards_eq {cs : List V} (h : isCards cs = true) : cs = cards8 := by
  unfold isCards at h
  split at h
  · simp only [Bool.and_eq_true] at h
    obtain ⟨⟨⟨⟨⟨⟨⟨h1, h2⟩, h3⟩, h4⟩, h5⟩, h6⟩, h7⟩, h8⟩ := h
    rw [isI_eq h1, isI_eq h2, isI_eq h3, isI_eq h4, isI_eq h5, isI_eq h6, isI_eq h7, isI_eq h8]; rfl
  · cases h
theorem blkAt_some {h : Heap} {β : Nat} {cs : List V} (hb : blkAt h β = some cs) : h[β]? = some (.blk cs) := by
  unfold blkAt at hb
  split at hb
  · rename_i l he
    cases hb; exact he
  · cases hb
theorem g4001_eq : g4001 = GG 4001 := by
  unfold g4001
  rw [g4000_eq, show (4001 : Nat) = 1 + 4000 from rfl, GG_add]
  simp [GG, gOne]
theorem ev_ok {P : Program} (hm : P.follows .mixedOrders = true) (hf : ∀ f fn, lookT tab f = some fn → FnOk P f fn) {B f : Nat} {args : List V} {h h' : Heap} {cr : CR} (he : EvF (lookT tab) B f args h fun cr2 h2 => cr2 = cr ∧ h2 = h') : CallOk P B f args h cr h' ∧ Keeps B h h' := by
  obtain ⟨N, cr2, h2, h1, rfl, rfl⟩ := he
  exact (run_ok hm hf N).call _ _ _ _ _ _ (h1 N (Nat.le_refl _))
theorem callOk_pre {P : Program} {B f : Nat} {args : List V} {h h' : Heap} {cr : CR} (hh : B ≤ h.length → CallOk P B f args h cr h' ∧ Keeps B h h') : CallOk P B f args h cr h' ∧ Keeps B h h' :=
  ⟨fun w1 ι w vs hS ha => (hh hS.base).1 w1 ι w vs hS ha, fun hB => (hh hB).2 hB⟩
theorem dK_ok {P : Program} (hm : P.follows .mixedOrders = true) (hf : ∀ f fn, lookT tab f = some fn → FnOk P f fn) (hb : bodyOk P 10 = true)
    (hw : ∀ w : World, Calls P 10 #[] w fun e w' => e = .returned (.bool true) ∧ Go.RowKit.Below w.heap.size w w') : OrcOk P (orcOf dK) := by
  intro B f args h cr h' ho
  unfold orcOf dK at ho
  split at ho
  · cases hx : Nat.beq f 10 with
    | false => rw [hx] at ho; cases ho
    | true =>
      rw [hx] at ho
      have := Nat.eq_of_beq_eq_true hx
      subst this
      cases ho
      exact callOk_true hb hw B h
  · rename_i x
    cases hx : Nat.beq f 13 with
    | false => rw [hx] at ho; cases ho
    | true =>
      rw [hx] at ho
      have := Nat.eq_of_beq_eq_true hx
      subst this
      simp only [cond_true] at ho
      unfold dChk at ho
      split at ho
      · rename_i β c1 γ c2
        split at ho
        · rename_i cs hcs
          split at ho
          · rename_i cd hcd
            cases hy : is4000 cs && isCards cd with
            | false => rw [hy] at ho; cases ho
            | true =>
              rw [hy] at ho
              simp only [Bool.and_eq_true] at hy
              cases ho
              rw [is4000_eq hy.1] at hcs
              rw [isCards_eq hy.2] at hcd
              exact callOk_pre fun hB => ev_ok hm hf (chk hB (blkAt_some hcd) (blkAt_some hcs))
          · cases ho
        · cases ho
      · cases ho
  · rename_i x n
    cases hx : Nat.beq f 33 with
    | false => rw [hx] at ho; cases ho
    | true =>
      rw [hx] at ho
      have := Nat.eq_of_beq_eq_true hx
      subst this
      simp only [cond_true] at ho
      unfold dRep at ho
      split at ho
      · rename_i β cap
        split at ho
        · rename_i cs hcs
          cases hy : eatOne cs emptyL with
          | false => rw [hy] at ho; cases ho
          | true =>
            rw [hy] at ho
            obtain ⟨r, e1, e2⟩ := eatOne_eq hy
            rw [emptyL_eq e2] at e1
            subst e1
            cases h4 : isI n 4000 with
            | true =>
              rw [h4] at ho
              cases ho
              rw [isI_eq h4]
              refine callOk_pre fun hB => ?_
              have := ev_ok hm hf (rep (cap := cap) hB (by decide) (by decide) (blkAt_some hcs) (mul59 4000 B h hB (mul79a _ h (Nat.le_refl _))))
              rw [show GG 4000 = g4000 from g4000_eq.symm] at this
              exact this
            | false =>
              rw [h4] at ho
              cases h5 : isI n 4001 with
              | true =>
                rw [h5] at ho
                cases ho
                rw [isI_eq h5]
                refine callOk_pre fun hB => ?_
                have := ev_ok hm hf (rep (cap := cap) hB (by decide) (by decide) (blkAt_some hcs) (mul59 4001 B h hB (mul79b _ h (Nat.le_refl _))))
                rw [← g4001_eq] at this
                exact this
              | false => rw [h5] at ho; cases ho
        · cases ho
      · cases ho
  · cases ho
end Go.Proofs.Ytbjfkbkmoeibdaa
