/-
  Trees: how lists are laid still, for memory that is written out. Conditions: none.
-/
import Derived.Test.YtbjfkbkmoeibdaaLx11
namespace Go.Lx
open Go Go.Mx
set_option linter.unusedSimpArgs false
set_option linter.unusedVariables false
/-- Parts of code. -/
def fstC : C → C
  | .seq a _ => a
  | .block _ c => c
  | .loop c => c
  | .cond _ a _ => a
  | .scope c => c
  | c => c
def sndC : C → C
  | .seq _ b => b
  | .cond _ _ b => b
  | c => c
section
variable {k0 : Nat}
def envAv (β : Nat) : List (Nat × D) → Prop
  | [] => True
  | (_, d) :: r => d.av β ∧ envAv β r
theorem envAv_lk {β : Nat} {E : List (Nat × D)} (h : envAv β E) {k : Nat} {d : D} (hk : lk E k = some d) : d.av β := by
  induction E with
  | nil => cases hk
  | cons x r ih =>
    obtain ⟨j, e⟩ := x
    simp only [lk] at hk
    split at hk
    · cases hk; exact h.1
    · exact ih h.2 hk
inductive FrzL (β n : Nat) (es : List (List D)) : Nat → List LB → List LB → Prop
  | nil (i : Nat) : FrzL β n es i [] []
  | here {b : LB} {r r' : List LB} : FrzL β n es (β + 1) r r' → FrzL β n es β (b :: r) (.gone :: r')
  | there {i : Nat} {b b' : LB} {r r' : List LB} : i ≠ β → FrzB β n es b b' → FrzL β n es (i + 1) r r' → FrzL β n es i (b :: r) (b' :: r')
theorem FrzL.all {β n i0 : Nat} {es : List (List D)} {L L' : List LB} (h : FrzL β n es i0 L L') : L'.length = L.length ∧ (∀ i, i0 + i = β → i < L.length → L'[i]? = some .gone) ∧ ∀ i b b', i0 + i ≠ β → L[i]? = some b → L'[i]? = some b' → FrzB β n es b b' := by
  induction h with
  | nil i => exact ⟨rfl, fun j _ h => by simp at h, fun j b b' _ h => by simp at h⟩
  | here h ih =>
    obtain ⟨h1, h2, h3⟩ := ih
    refine ⟨by simp [h1], fun j hj hl => ?_, fun j b b' hj g1 g2 => ?_⟩
    · have : j = 0 := by omega
      subst this
      rfl
    · cases j with
      | zero => exact (hj rfl).elim
      | succ j => exact h3 j b b' (by omega) (by simpa using g1) (by simpa using g2)
  | there hne hb h ih =>
    obtain ⟨h1, h2, h3⟩ := ih
    refine ⟨by simp [h1], fun j hj hl => ?_, fun j b b' hj g1 g2 => ?_⟩
    · cases j with
      | zero => exact (hne hj).elim
      | succ j =>
        have := h2 j (by omega) (by simpa using hl)
        simpa using this
    · cases j with
      | zero => simp at g1 g2; subst g1; subst g2; exact hb
      | succ j => exact h3 j b b' (by omega) (by simpa using g1) (by simpa using g2)
/-- A list of one's own is laid still; no temporary knows of it. -/
theorem Weak.frz {N β n : Nat} {E : List (Nat × D)} {L L' : List LB} {es : List (List D)} (hk : k0 ≤ β) (hb : L[β]? = some (.els n es) ∨ L[β]? = some (.grow n es)) (htr : ∀ cells ∈ es, ∀ d ∈ cells, d.tr)
    (hE : envAv β E) (hL : FrzL β n es 0 L L') : Weak k0 ⟨N, E, L⟩ ⟨N, E, L'⟩ := by
  obtain ⟨h1, h2, h3⟩ := hL.all
  have hlt : β < L.length := by
    rcases hb with h | h
    · exact (List.getElem?_eq_some_iff.1 h).1
    · exact (List.getElem?_eq_some_iff.1 h).1
  exact Weak.freeze hk hb htr (fun k d' hkd => ⟨d', hkd, .same (envAv_lk hE hkd)⟩) h1 (h2 β (by omega) hlt) fun i b b' hi => h3 i b b' (by omega)
theorem FrzB.app {β n m : Nat} {es e : List (List D)} {x x' : List D} (h : ∀ cells ∈ e, D.avs β cells) (hl : x.length = x'.length) (hx : ∀ (j : Nat) d d', x[j]? = some d → x'[j]? = some d' → Frz β n es d d') : FrzB β n es (.grow m (e ++ [x])) (.grow m (e ++ [x'])) := by
  refine .grow (by simp) fun i y y' h1 h2 => ?_
  by_cases hi : i < e.length
  · rw [List.getElem?_append_left hi] at h1 h2
    rw [h1] at h2
    cases h2
    refine ⟨rfl, fun j d d' g1 g2 => ?_⟩
    rw [g1] at g2
    cases g2
    exact .same (avs_get (h y (List.mem_of_getElem? h1)) g1)
  · rw [List.getElem?_append_right (by omega)] at h1 h2
    have hi0 : i - e.length = 0 := by
      have := (List.getElem?_eq_some_iff.1 h1).1
      simp at this
      omega
    rw [hi0] at h1 h2
    simp at h1 h2
    subst h1
    subst h2
    exact ⟨hl, hx⟩
theorem frz_cons {β n : Nat} {es : List (List D)} {d d' : D} {ds ds' : List D} (h : Frz β n es d d') (hs : ∀ (j : Nat) x x', ds[j]? = some x → ds'[j]? = some x' → Frz β n es x x') : ∀ (j : Nat) x x', (d :: ds)[j]? = some x → (d' :: ds')[j]? = some x' → Frz β n es x x' := by
  intro j x x' h1 h2
  cases j with
  | zero => simp at h1 h2; subst h1; subst h2; exact h
  | succ j => exact hs j x x' (by simpa using h1) (by simpa using h2)
theorem frz_nil {β n : Nat} {es : List (List D)} : ∀ (j : Nat) x x', ([] : List D)[j]? = some x → ([] : List D)[j]? = some x' → Frz β n es x x' := fun j x x' h => by simp at h
end
end Go.Lx
