/-
  Trees: loops that are unrolled, calls after which what they made is forgotten. Conditions: none.
-/
import Derived.Test.YtbjfkbkmoeibdaaLx9
namespace Go.Lx
open Go Go.Mx
set_option linter.unusedSimpArgs false
set_option linter.unusedVariables false
section
variable {fns : Mach} {k0 : Nat} {Q : LX → LSt → Prop} {c : Cx} {L : List LB} {S S' : LSt} {M : St} {H : Heap} {B : Nat} {rd : Option Nat} {bar top e : Bool}
theorem EvL.unroll {x : C} {k : List K} (h : EvL fns k0 (.code x :: .code (.loop x) :: k) S Q) : EvL fns k0 (.code (.loop x) :: k) S Q := by
  intro c0 H0 c B rd M hw hr hB
  have := h c0 H0 c B rd M hw hr hB
  refine EvC.loop (EvC.mono this fun ex M' hx => ?_)
  cases ex <;> exact hx
theorem cut_rel {c : Cx} {d : D} {v : V} {H : Heap} {R' : List LB} (hH : RelH c (L ++ R') H) (hr : R c d v) (hd : d.sc L.length) (hs : scAll L.length L) : ∃ c', RelH c' L H ∧ R c' d v ∧ Step c H c' H ∧ c.leK L.length c' := by
  have hw := Weak.cut (k0 := L.length) (N := 1) (E := [(0, d)]) (E' := [(0, d)]) (L := L) (R' := R') (Nat.le_refl _) ⟨⟨rfl, hd⟩, trivial⟩ hs
  have hrel : Rel c ⟨1, [(0, d)], L ++ R'⟩ ⟨[v], [], H⟩ := by
    refine ⟨fun k d' hk => ?_, rfl, rfl, hH⟩
    simp only [lk] at hk
    split at hk
    · rename_i hk0; subst hk0; cases hk; exact ⟨v, rfl, hr⟩
    · cases hk
  obtain ⟨c', h1, h2, h3⟩ := hw c ⟨[v], [], H⟩ hrel
  obtain ⟨u, g1, g2⟩ := h1.env 0 d rfl
  simp only [List.getElem?_cons_zero, Option.some.injEq] at g1
  subst g1
  exact ⟨c', h1.heap, g2, h2, h3⟩
/-- What a call has made, and nobody knows of, is forgotten. -/
theorem CallL.cut {f : Nat} {args : List D} {Q1 Qp1 Q2 Qp2 : D → List LB → Prop} (h : CallL fns bar f args L Q1 Qp1)
    (h1 : ∀ d L', Q1 d L' → ∃ L2 R', L' = L2 ++ R' ∧ L.length ≤ L2.length ∧ d.sc L2.length ∧ scAll L2.length L2 ∧ Q2 d L2) (h2 : ∀ d L', Qp1 d L' → Qp2 d L') : CallL fns bar f args L Q2 Qp2 := by
  intro c B H vs hH hB hr
  refine EvF.mono (h c B H vs hH hB hr) ?_
  rintro cr H' ⟨c', d, L', g1, g2, g3, g4⟩
  cases cr with
  | ret v =>
    obtain ⟨L2, R', rfl, k1, k2, k3, k4⟩ := h1 d L' g4.2
    obtain ⟨c2, q1, q2, q3, q4⟩ := cut_rel g2 g4.1 k2 k3
    refine ⟨c2, d, L2, g1.trans q3, q1, ⟨fun b cs hb => q4.za b cs (g3.za b cs hb), fun b cs hb => q4.zf b cs (g3.zf b cs hb), fun β x hx => ?_, q1.apart⟩, q2, k4⟩
    obtain ⟨x', w1, w2⟩ := g3.ρ β x hx
    obtain ⟨x'', w3, w4⟩ := q4.ρ β x' (Nat.lt_of_lt_of_le (hH.scope β x hx) k1) w1
    exact ⟨x'', w3, w2.trans w4⟩
  | pan v => exact ⟨c', d, L', g1, g2, g3, g4.1, h2 d L' g4.2⟩
theorem CallL.mono {f : Nat} {args : List D} {Q1 Qp1 Q2 Qp2 : D → List LB → Prop} (h : CallL fns bar f args L Q1 Qp1) (h1 : ∀ d L', Q1 d L' → Q2 d L') (h2 : ∀ d L', Qp1 d L' → Qp2 d L') : CallL fns bar f args L Q2 Qp2 := by
  intro c B H vs hH hB hr
  refine EvF.mono (h c B H vs hH hB hr) ?_
  rintro cr H' ⟨c', d, L', g1, g2, g3, g4⟩
  cases cr with
  | ret v => exact ⟨c', d, L', g1, g2, g3, g4.1, h1 d L' g4.2⟩
  | pan v => exact ⟨c', d, L', g1, g2, g3, g4.1, h2 d L' g4.2⟩
/-- A call with one's own memory in sight, by what must hold before its code. -/
theorem CallL.code {f : Nat} {fn : Mx.Fn} {args : List D} {Q1 Qp1 : D → List LB → Prop} (hf : fns.has f fn) (hp : fn.p = false) (hN : args.length ≤ fn.N)
    (h : wp fns L.length [.code fn.c] (some ⟨fn.N, argsE 0 args, L⟩) fun x S' => match x with
      | .ret => ∃ ds, resDs S'.heap S'.env fn.rs = some ds ∧ Q1 (mkResD ds) S'.heap
      | .normal => ∃ ds, resDs S'.heap S'.env fn.rs = some ds ∧ Q1 (mkResD ds) S'.heap
      | .panic d => Qp1 d S'.heap
      | .exit _ => False) : CallL fns false f args L Q1 Qp1 := CallL.intro hf hp hN (wp_sound h)
end
end Go.Lx
