/-
  Trees: loops, and what one may forget. Conditions: none.
-/
import Derived.Test.YtobhjbbinnbdaaaNnLy6
namespace Go.Lx
open Go Go.Mx
def zam (k0 : Nat) (S S' : LSt) : Prop := ∀ c M, Rel c S M → ∃ c', Rel c' S' M ∧ Step c M.heap c' M.heap ∧ c.leK k0 c'
theorem zam.refl (k0 : Nat) (S : LSt) : zam k0 S S := fun c M h => ⟨c, h, Step.refl _ _, Cx.leK.refl _ _⟩
theorem zam.trans {k0 : Nat} {S S' S'' : LSt} (h : zam k0 S S') (h' : zam k0 S' S'') : zam k0 S S'' := fun c M hr => by
  obtain ⟨c1, h1, h2, h3⟩ := h c M hr
  obtain ⟨c2, g1, g2, g3⟩ := h' c1 M h1
  exact ⟨c2, g1, h2.trans g2, h3.trans g3⟩
section
variable {fns : Mach} {k0 : Nat} {Q : LX → LSt → Prop} {c : Cx} {S S' : LSt} {M : St} {B : Nat} {rd : Option Nat}
theorem EvL.znM {k : List K} (hw : zam k0 S S') (h : EvL fns k0 k S' Q) : EvL fns k0 k S Q := by
  intro c0 H0 c B rd M hd hway hr hB
  obtain ⟨c1, h1, h2, h3⟩ := hw c M hr
  exact h c0 H0 c1 B rd M hd ⟨hway.step.trans h2, hway.le.trans h3, hway.dfs⟩ h1 (by rw [h2.base]; exact hB)
theorem zqq {k : List KM} {QM QM' : Ex → St → Prop} (h : ∀ ex M, QM ex M → QM' ex M) : (∀ M, (sem fns B rd QM k).1 M → (sem fns B rd QM' k).1 M) ∧ (∀ ex M, (sem fns B rd QM k).2 ex M → (sem fns B rd QM' k).2 ex M) := by
  induction k with
  | nil => exact ⟨fun M hm => h _ _ hm, h⟩
  | cons x k ih =>
    have ht : ∀ ex M, zg5 (sem fns B rd QM k) ex M → zg5 (sem fns B rd QM' k) ex M := by
      intro ex M hx
      cases ex with
      | normal => exact ih.1 _ hx
      | exit id => exact ih.2 _ _ hx
      | ret => exact ih.2 _ _ hx
      | panic v e => exact ih.2 _ _ hx
    cases x with
    | code c => exact ⟨fun M hm => EvC.mono hm ht, ih.2⟩
    | ops bar e l => exact ⟨fun M hm => by obtain ⟨N, ex, S', h1, h2⟩ := hm; exact ⟨N, ex, S', h1, ht _ _ h2⟩, ih.2⟩
    | blk id =>
      refine ⟨ih.1, fun ex M hm => ?_⟩
      cases ex with
      | exit id' =>
        simp only [sem] at hm ⊢
        split at hm
        · rename_i he; rw [if_pos he]; exact ih.1 _ hm
        · rename_i he; rw [if_neg he]; exact ih.2 _ _ hm
      | normal => exact ih.2 _ _ hm
      | ret => exact ih.2 _ _ hm
      | panic v e => exact ih.2 _ _ hm
    | inv J => exact ⟨fun M hm => hm, ih.2⟩
theorem EvL.mono {k : List K} {Q' : LX → LSt → Prop} (h : EvL fns k0 k S Q) (hq : ∀ x S', Q x S' → Q' x S') : EvL fns k0 k S Q' := by
  intro c0 H0 c B rd M hd hway hr hB
  refine (zqq ?_).1 M (h c0 H0 c B rd M hd hway hr hB)
  rintro ex M' ⟨c', S', x, h1, h2, h3, h4⟩
  exact ⟨c', S', x, h1, h2, h3, hq _ _ h4⟩
theorem EvL.loop {α : Type} {x : C} {k : List K} (St : α → LSt) (P : α → Prop) (μ : α → Nat) (a0 : α) (h0 : zam k0 S (St a0)) (hp : P a0)
    (hstep : ∀ a, P a → EvL fns k0 (.code x :: .inv (fun S' => ∃ a', P a' ∧ μ a' < μ a ∧ zam k0 S' (St a')) :: k) (St a) Q) : EvL fns k0 (.code (.loop x) :: k) S Q := by
  refine EvL.znM h0 ?_
  have key : ∀ n a, μ a = n → P a → EvL fns k0 (.code (.loop x) :: k) (St a) Q := by
    intro n
    induction n using Nat.strongRecOn with
    | _ n ih =>
      intro a ha hP c0 H0 c B rd M hd hway hr hB
      have h1 := hstep a hP c0 H0 c B rd M hd hway hr hB
      refine EvC.loop (EvC.mono h1 fun ex M' hx => ?_)
      cases ex with
      | normal =>
        obtain ⟨c', S', g1, g2, a', g3, g4, g5⟩ := hx
        obtain ⟨c2, k1, k2, k3⟩ := g5 c' M' g2
        refine ih (μ a') (by omega) a' rfl g3 c0 H0 c2 B rd M' hd ⟨g1.step.trans k2, g1.le.trans k3, g1.dfs⟩ k1 ?_
        rw [k2.base, g1.step.base, ← hway.step.base]
        exact hB
      | exit id => exact hx
      | ret => exact hx
      | panic v e => exact hx
  exact key _ a0 rfl hp
mutual
def D.sc (n : Nat) : D → Prop
  | .ptr β _ => β < n
  | .eptr β _ _ _ _ => β < n
  | .sl β _ _ _ _ _ => β < n
  | .yld β => β < n
  | .clo _ xs ys => D.scs n xs ∧ D.scs n ys
  | .ifc _ d => d.sc n
  | .agg ds => D.scs n ds
  | .tup ds => D.scs n ds
  | .any => True
  | .lit _ => True
  | .fptr _ _ => True
  | .fz _ _ _ => True
  | .z0 _ _ => True
def D.scs (n : Nat) : List D → Prop
  | [] => True
  | d :: r => d.sc n ∧ D.scs n r
end
theorem zf4 {n : Nat} : ∀ {ds : List D}, D.scs n ds → ∀ {i : Nat} {d : D}, ds[i]? = some d → d.sc n
  | [], _, i, d, h => by simp at h
  | e :: r, hs, 0, d, h => by simp at h; subst h; exact hs.1
  | e :: r, hs, i + 1, d, h => zf4 hs.2 (by simpa using h)
theorem zhO {n : Nat} : ∀ {ds : List D}, D.scs n ds ↔ ∀ d, d ∈ ds → d.sc n
  | [] => by simp [D.scs]
  | e :: r => by simp [D.scs, zhO (ds := r)]
def LB.sc (n : Nat) : LB → Prop
  | .cells ds => D.scs n ds
  | .els _ es => ∀ cells, cells ∈ es → D.scs n cells
  | .grow _ es => ∀ cells, cells ∈ es → D.scs n cells
  | .gone => True
  | .lp _ _ _ E _ _ _ => ∀ k d, lk E k = some d → d.sc n
  | .lost => True
def Cx.cut (c : Cx) (n : Nat) : Cx := { c with ρ := fun β => if β < n then c.ρ β else none }
theorem zfu {n β : Nat} (h : β < n) : (c.cut n).ρ β = c.ρ β := by simp [Cx.cut, h]
theorem R.cut {n : Nat} {d : D} {v : V} (hr : R c d v) (hs : d.sc n) : R (c.cut n) d v := by
  have aux : ∀ {c d v}, R c d v → ∀ {n : Nat}, d.sc n → R (c.cut n) d v := by
    intro c d v hr
    induction hr with
    | any v => intro n _; exact .any v
    | lit v => intro n _; exact .lit v
    | ptr h1 => intro n hs; exact .ptr (by rw [zfu hs]; exact h1)
    | eptr h1 h2 => intro n hs; exact .eptr (by rw [zfu hs]; exact h1) h2
    | sl h1 h2 => intro n hs; exact .sl (by rw [zfu hs]; exact h1) h2
    | slg h1 => intro n hs; exact .slg (by rw [zfu hs]; exact h1)
    | fz h1 h2 h3 h4 h5 h6 ih => intro n _; exact .fz h1 h2 h3 h4 h5 h6
    | fz0 => intro n _; exact .fz0
    | fzn => intro n _; exact .fzn
    | z0 h1 h2 => intro n _; exact .z0 h1 h2
    | z0n => intro n _; exact .z0n
    | fptr h1 h2 h3 ih => intro n _; exact .fptr h1 h2 h3
    | clo h1 h2 _ _ ih1 ih2 => intro n hs; exact .clo h1 h2 (fun i d v g1 g2 => ih1 i d v g1 g2 (zf4 hs.1 g1)) fun i d v g1 g2 => ih2 i d v g1 g2 (zf4 hs.2 g1)
    | yld h1 => intro n hs; exact .yld (by rw [zfu hs]; exact h1)
    | ifc _ ih => intro n hs; exact .ifc (ih hs)
    | agg h1 _ ih => intro n hs; exact .agg h1 fun i d v g1 g2 => ih i d v g1 g2 (zf4 hs g1)
    | tup h1 _ ih => intro n hs; exact .tup h1 fun i d v g1 g2 => ih i d v g1 g2 (zf4 hs g1)
  exact aux hr hs
theorem Rs.cut {n : Nat} {ds : List D} {vs : List V} (hr : Rs c ds vs) (hs : ∀ d, d ∈ ds → d.sc n) : Rs (c.cut n) ds vs := ⟨hr.1, fun i d v h1 h2 => (hr.2 i d v h1 h2).cut (hs d (List.mem_of_getElem? h1))⟩
def zry (E : List (Nat × D)) (n : Nat) : List (Nat × D) → Prop
  | [] => True
  | (k, d) :: r => (lk E k = some d ∧ d.sc n) ∧ zry E n r
theorem zqo {E E' : List (Nat × D)} {n : Nat} (h : zry E n E') {k : Nat} {d : D} (hk : lk E' k = some d) : lk E k = some d ∧ d.sc n := by
  induction E' with
  | nil => cases hk
  | cons x r ih =>
    obtain ⟨j, e⟩ := x
    simp only [lk] at hk
    split at hk
    · rename_i he; subst he; cases hk; exact h.1
    · exact ih h.2 hk
def ze8 (n : Nat) : List LB → Prop
  | [] => True
  | b :: r => b.sc n ∧ ze8 n r
theorem zjw {n : Nat} : ∀ {L : List LB}, ze8 n L → ∀ {i : Nat} {b : LB}, L[i]? = some b → b.sc n
  | [], _, i, b, h => by simp at h
  | e :: r, hs, 0, b, h => by simp at h; subst h; exact hs.1
  | e :: r, hs, i + 1, b, h => zjw hs.2 (by simpa using h)
theorem zkq.cut {H : zaj} {n β : Nat} {lb : LB} (hβ : β < n) (h : zkq c H β lb) (hs : lb.sc n) : zkq (c.cut n) H β lb := by
  cases lb with
  | cells ds =>
    obtain ⟨b, vs, h1, h2, h3⟩ := h
    exact ⟨b, vs, by rw [zfu hβ]; exact h1, h2, h3.cut (zhO.1 hs)⟩
  | els m es =>
    obtain ⟨h0, b, vs, h1, h2, h3⟩ := h
    refine ⟨h0, b, vs, by rw [zfu hβ]; exact h1, h2, h3.len, h3.rel.cut fun d hd => ?_⟩
    obtain ⟨cells, k1, k2⟩ := List.mem_flatten.1 hd
    exact zhO.1 (hs cells k1) d k2
  | grow m es =>
    obtain ⟨h0, ⟨g1, g2⟩ | ⟨g0, b, vs, h1, h2, h3⟩⟩ := h
    · exact ⟨h0, .inl ⟨g1, by rw [zfu hβ]; exact g2⟩⟩
    · refine ⟨h0, .inr ⟨g0, b, vs, by rw [zfu hβ]; exact h1, h2, h3.len, h3.rel.cut fun d hd => ?_⟩⟩
      obtain ⟨cells, k1, k2⟩ := List.mem_flatten.1 hd
      exact zhO.1 (hs cells k1) d k2
  | gone => show (c.cut n).ρ β = none; rw [zfu hβ]; exact h
  | lp st pend N E ps asg body =>
    obtain ⟨b, env, h1, h2, h3, h4⟩ := h
    refine ⟨b, env, by rw [zfu hβ]; exact h1, h2, h3, fun k d hk => ?_⟩
    obtain ⟨v, g1, g2⟩ := h4 k d hk
    exact ⟨v, g1, g2.cut (hs k d hk)⟩
  | lost =>
    obtain ⟨b, h1, h2⟩ := h
    exact ⟨b, by rw [zfu hβ]; exact h1, h2⟩
theorem zpS {H : zaj} (n : Nat) : Step c H (c.cut n) H := ⟨Nat.le_refl _, rfl, rfl, fun _ _ h => h, fun _ _ _ => rfl, fun β x b hx hb => (by
  simp only [Cx.cut] at hx
  split at hx
  · exact .inl ⟨β, x, hx, hb⟩
  · cases hx), fun _ h => h⟩
theorem zam.cut {N : Nat} {E E' : List (Nat × D)} {L R' : List LB} (hk : k0 ≤ L.length) (he : zry E L.length E') (hs : ze8 L.length L) : zam k0 ⟨N, E, L ++ R'⟩ ⟨N, E', L⟩ := by
  intro c M h
  refine ⟨c.cut L.length, ⟨fun k d hkd => ?_, h.len, ⟨h.heap.base, h.heap.za, h.heap.zf, ?_, ?_, ?_, ?_⟩⟩, zpS _, ⟨fun _ _ h => h, fun _ _ h => h, fun β x hβ hx => ⟨x, by rw [zfu (by omega)]; exact hx, Lc.up.refl x⟩⟩⟩
  · obtain ⟨g1, g2⟩ := zqo he hkd
    obtain ⟨v, g3, g4⟩ := h.env k d g1
    exact ⟨v, g3, g4.cut g2⟩
  · intro β x b hx hb
    simp only [Cx.cut] at hx
    split at hx
    · exact h.heap.own β x b hx hb
    · cases hx
  · intro β β' x x' b hx hx' hb hb'
    simp only [Cx.cut] at hx hx'
    split at hx
    · split at hx'
      · exact h.heap.inj β β' x x' b hx hx' hb hb'
      · cases hx'
    · cases hx
  · intro β x hx
    simp only [Cx.cut] at hx
    split at hx
    · assumption
    · cases hx
  · intro β o ho
    have hβ : β < L.length := (List.getElem?_eq_some_iff.1 ho).1
    exact (h.heap.obj β o (by rw [List.getElem?_append_left hβ]; exact ho)).cut hβ (zjw hs ho)
theorem zam.env {N : Nat} {E E' : List (Nat × D)} {L : List LB} (he : ∀ k d, lk E' k = some d → lk E k = some d) : zam k0 ⟨N, E, L⟩ ⟨N, E', L⟩ :=
  fun c M h => ⟨c, ⟨fun k d hk => h.env k d (he k d hk), h.len, h.heap⟩, Step.refl _ _, Cx.leK.refl _ _⟩
def zoS (E : List (Nat × D)) : List (Nat × D) → Prop
  | [] => True
  | (k, d) :: r => lk E k = some d ∧ zoS E r
theorem zna {E E' : List (Nat × D)} (h : zoS E E') {k : Nat} {d : D} (hk : lk E' k = some d) : lk E k = some d := by
  induction E' with
  | nil => cases hk
  | cons x r ih =>
    obtain ⟨j, e⟩ := x
    simp only [lk] at hk
    split at hk
    · rename_i he; subst he; cases hk; exact h.1
    · exact ih h.2 hk
theorem zam.sub {N : Nat} {E E' : List (Nat × D)} {L : List LB} (he : zoS E E') : zam k0 ⟨N, E, L⟩ ⟨N, E', L⟩ := zam.env fun k d hk => zna he hk
theorem zam.ghost {N n k : Nat} {E : List (Nat × D)} {L : List LB} (hn : 0 < n) (hk : lk E k = some (.lit (.slice none 0 0))) : zam k0 ⟨N, E, L⟩ ⟨N, (k, .sl L.length 0 n 0 none 0) :: E, L ++ [.grow n []]⟩ := by
  intro c M h
  obtain ⟨g1, g2, g3⟩ := h.heap.new (x := .ghost) (lb := .grow n []) (o := []) (.inl ⟨rfl, rfl⟩) fun c' hle hρ => ⟨hn, .inl ⟨rfl, hρ⟩⟩
  rw [List.append_nil] at g1 g2
  refine ⟨_, ⟨fun j d hj => ?_, h.len, g1⟩, g2, g3.leK k0⟩
  simp only [lk] at hj
  split at hj
  · rename_i he
    subst he
    cases hj
    obtain ⟨v, q1, q2⟩ := h.env k _ hk
    cases zgY q2
    exact ⟨_, q1, .slg (zaC _ _ _)⟩
  · obtain ⟨v, q1, q2⟩ := h.env j d hj
    exact ⟨v, q1, q2.mono g3⟩
end
end Go.Lx
