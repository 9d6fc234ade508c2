/-
  Trees: loops that are unrolled, calls after which what they made is forgotten. Conditions: none.
-/
import Derived.Test.YtobhjbbinnbdaaaNnLy9
namespace Go.Lx
open Go Go.Mx
section
variable {fns : Mach} {k0 : Nat} {Q : LX → LSt → Prop} {c : Cx} {L : List LB} {S S' : LSt} {M : St} {H : zaj} {B : Nat} {rd : Option Nat} {bar top e : Bool}
theorem znU {c : Cx} {d : D} {v : V} {H : zaj} {R' : List LB} (hH : RelH c (L ++ R') H) (hr : R c d v) (hd : d.sc L.length) (hs : ze8 L.length L) : ∃ c', RelH c' L H ∧ R c' d v ∧ Step c H c' H ∧ c.leK L.length c' := by
  have hw := zam.cut (k0 := L.length) (N := 1) (E := [(0, d)]) (E' := [(0, d)]) (L := L) (R' := R') (Nat.le_refl _) ⟨⟨rfl, hd⟩, trivial⟩ hs
  have hrel : Rel c ⟨1, [(0, d)], L ++ R'⟩ ⟨[v], [], H⟩ := by
    refine ⟨fun k d' hk => ?_, rfl, hH⟩
    simp only [lk] at hk
    split at hk
    · rename_i hk0; subst hk0; cases hk; exact ⟨v, rfl, hr⟩
    · cases hk
  obtain ⟨c', h1, h2, h3⟩ := hw c ⟨[v], [], H⟩ hrel
  obtain ⟨u, g1, g2⟩ := h1.env 0 d rfl
  simp only [List.getElem?_cons_zero, Option.some.injEq] at g1
  subst g1
  exact ⟨c', h1.heap, g2, h2, h3⟩
theorem zc5.cut {f : Nat} {args : List D} {Q1 Qp1 Q2 Qp2 : D → List LB → Prop} (h : zc5 fns bar f args L Q1 Qp1)
    (h1 : ∀ d L', Q1 d L' → ∃ L2 R', L' = L2 ++ R' ∧ L.length ≤ L2.length ∧ d.sc L2.length ∧ ze8 L2.length L2 ∧ Q2 d L2) (h2 : ∀ d L', Qp1 d L' → Qp2 d L') : zc5 fns bar f args L Q2 Qp2 := by
  intro c B H vs hH hB hr
  refine EvF.mono (h c B H vs hH hB hr) ?_
  rintro cr H' ⟨c', d, L', g1, g2, g3, g4⟩
  cases cr with
  | ret v =>
    obtain ⟨L2, R', rfl, k1, k2, k3, k4⟩ := h1 d L' g4.2
    obtain ⟨c2, q1, q2, q3, q4⟩ := znU g2 g4.1 k2 k3
    refine ⟨c2, d, L2, g1.trans q3, q1, ⟨fun b cs hb => q4.za b cs (g3.za b cs hb), fun b cs hb => q4.zf b cs (g3.zf b cs hb), fun β x hx => ?_, q1.apart⟩, q2, k4⟩
    obtain ⟨x', w1, w2⟩ := g3.ρ β x hx
    obtain ⟨x'', w3, w4⟩ := q4.ρ β x' (Nat.lt_of_lt_of_le (hH.scope β x hx) k1) w1
    exact ⟨x'', w3, w2.trans w4⟩
  | pan v => exact ⟨c', d, L', g1, g2, g3, g4.1, h2 d L' g4.2⟩
theorem zc5.mono {f : Nat} {args : List D} {Q1 Qp1 Q2 Qp2 : D → List LB → Prop} (h : zc5 fns bar f args L Q1 Qp1) (h1 : ∀ d L', Q1 d L' → Q2 d L') (h2 : ∀ d L', Qp1 d L' → Qp2 d L') : zc5 fns bar f args L Q2 Qp2 := by
  intro c B H vs hH hB hr
  refine EvF.mono (h c B H vs hH hB hr) ?_
  rintro cr H' ⟨c', d, L', g1, g2, g3, g4⟩
  cases cr with
  | ret v => exact ⟨c', d, L', g1, g2, g3, g4.1, h1 d L' g4.2⟩
  | pan v => exact ⟨c', d, L', g1, g2, g3, g4.1, h2 d L' g4.2⟩
theorem zc5.code {f : Nat} {fn : Mx.Fn} {args : List D} {Q1 Qp1 : D → List LB → Prop} (hf : fns.has f fn) (hp : fn.p = false) (hN : args.length ≤ fn.N)
    (h : wp fns L.length [.code fn.c] (some ⟨fn.N, zeH 0 args, L⟩) fun x S' => match x with
      | .ret => ∃ ds, zer S'.heap S'.env fn.rs = some ds ∧ Q1 (zdd ds) S'.heap
      | .normal => ∃ ds, zer S'.heap S'.env fn.rs = some ds ∧ Q1 (zdd ds) S'.heap
      | .panic d => Qp1 d S'.heap
      | .exit _ => False) : zc5 fns false f args L Q1 Qp1 := zc5.intro hf hp hN (zaa h)
end
end Go.Lx
namespace Go.Lx
open Go Go.Mx
mutual
def D.av (β : Nat) : D → Prop
  | .ptr b _ => b ≠ β
  | .eptr b _ _ _ _ => b ≠ β
  | .sl b _ _ _ _ _ => b ≠ β
  | .yld b => b ≠ β
  | .clo _ xs ys => D.avs β xs ∧ D.avs β ys
  | .ifc _ d => d.av β
  | .agg ds => D.avs β ds
  | .tup ds => D.avs β ds
  | .any => True
  | .lit _ => True
  | .fptr _ _ => True
  | .fz _ _ _ => True
  | .z0 _ _ => True
def D.avs (β : Nat) : List D → Prop
  | [] => True
  | d :: r => d.av β ∧ D.avs β r
end
theorem zd3 {β : Nat} : ∀ {ds : List D}, D.avs β ds → ∀ {i : Nat} {d : D}, ds[i]? = some d → d.av β
  | [], _, i, d, h => by simp at h
  | e :: r, hs, 0, d, h => by simp at h; subst h; exact hs.1
  | e :: r, hs, i + 1, d, h => zd3 hs.2 (by simpa using h)
theorem zoa {β : Nat} {ds : List D} (h : D.avs β ds) {d : D} (hd : d ∈ ds) : d.av β := by
  obtain ⟨i, hi⟩ := List.mem_iff_getElem?.1 hd
  exact zd3 h hi
def LB.av (β : Nat) : LB → Prop
  | .cells ds => D.avs β ds
  | .els _ es => ∀ cells, cells ∈ es → D.avs β cells
  | .grow _ es => ∀ cells, cells ∈ es → D.avs β cells
  | .gone => True
  | .lp _ _ _ E _ _ _ => ∀ k d, lk E k = some d → d.av β
  | .lost => True
section
variable {k0 : Nat} {c : Cx} {L : List LB} {H : zaj}
structure Cx.but (β : Nat) (c c' : Cx) : Prop where
  za : c'.za = c.za
  zf : ∀ b cs, c.zf b = some cs → c'.zf b = some cs
  ρ : ∀ k, k ≠ β → c'.ρ k = c.ρ k
  base : c'.base = c.base
  apart : ∀ b cs cs', c'.zf b = some cs → c'.za b = some cs' → cs = cs'
theorem Cx.but.look {β : Nat} {c c' : Cx} (h : c.but β c') {t : Bool} {b : Nat} {cs : List V} (hl : c.look t b = some cs) : c'.look t b = some cs := by
  unfold Cx.look at hl ⊢
  cases hz : c.zf b with
  | some x => rw [hz] at hl; cases hl; rw [h.zf b _ hz]
  | none =>
    rw [hz] at hl
    cases t with
    | true => simp at hl
    | false =>
      simp only [Bool.false_eq_true, if_false] at hl
      have : c'.za b = some cs := by rw [h.za]; exact hl
      cases hz' : c'.zf b with
      | some y => exact congrArg some (h.apart b y cs hz' this)
      | none => simpa using this
theorem Cx.but.frz {β : Nat} {c c' : Cx} (h : c.but β c') (t : Bool) : (c.frz t).le (c'.frz t) where
  za b cs hb := by
    cases t with
    | true => simp [Cx.frz] at hb
    | false => simp only [Cx.frz, Bool.false_eq_true, if_false] at hb ⊢; rw [h.za]; exact hb
  zf b cs hb := h.zf b cs hb
  ρ β x hx := by simp [Cx.frz] at hx
  apart b cs cs' h1 h2 := by
    cases t with
    | true => simp [Cx.frz] at h2
    | false => simp only [Cx.frz, Bool.false_eq_true, if_false] at h1 h2; exact h.apart b cs cs' h1 h2
theorem R.but {β : Nat} {d : D} {v : V} (hr : R c d v) : ∀ {c' : Cx}, c.but β c' → d.av β → R c' d v := by
  induction hr with
  | any v => intro c' _ _; exact .any v
  | lit v => intro c' _ _; exact .lit v
  | ptr h1 => intro c' h hs; exact .ptr (by rw [h.ρ _ hs]; exact h1)
  | eptr h1 h2 => intro c' h hs; exact .eptr (by rw [h.ρ _ hs]; exact h1) h2
  | sl h1 h2 => intro c' h hs; exact .sl (by rw [h.ρ _ hs]; exact h1) h2
  | slg h1 => intro c' h hs; exact .slg (by rw [h.ρ _ hs]; exact h1)
  | fz h1 h2 h3 h4 h5 h6 ih => intro c' h _; exact .fz (h.look h1) h2 h3 h4 h5 fun i cells k d v g1 g2 g3 => (h6 i cells k d v g1 g2 g3).mono (h.frz _)
  | fz0 => intro c' _ _; exact .fz0
  | fzn => intro c' _ _; exact .fzn
  | z0 h1 h2 => intro c' h _; exact .z0 (h.look h1) h2
  | z0n => intro c' _ _; exact .z0n
  | fptr h1 h2 h3 ih => intro c' h _; exact .fptr (h.look h1) h2 fun k d v g1 g2 => (h3 k d v g1 g2).mono (h.frz _)
  | clo h1 h2 _ _ ih1 ih2 => intro c' h hs; exact .clo h1 h2 (fun i d v g1 g2 => ih1 i d v g1 g2 h (zd3 hs.1 g1)) fun i d v g1 g2 => ih2 i d v g1 g2 h (zd3 hs.2 g1)
  | yld h1 => intro c' h hs; exact .yld (by rw [h.ρ _ hs]; exact h1)
  | ifc _ ih => intro c' h hs; exact .ifc (ih h hs)
  | agg h1 _ ih => intro c' h hs; exact .agg h1 fun i d v g1 g2 => ih i d v g1 g2 h (zd3 hs g1)
  | tup h1 _ ih => intro c' h hs; exact .tup h1 fun i d v g1 g2 => ih i d v g1 g2 h (zd3 hs g1)
def D.tr : D → Prop
  | .lit _ => True
  | .fz t _ _ => t = true
  | .any => True
  | _ => False
theorem R.tr {d : D} {v : V} (hr : R c d v) (hd : d.tr) {c' : Cx} (hz : ∀ b cs, c.zf b = some cs → c'.zf b = some cs) : R (c'.frz true) d v := by
  have hle : (c.frz true).le (c'.frz true) := ⟨fun b cs hb => by simp [Cx.frz] at hb, fun b cs hb => hz b cs hb, fun β x hx => by simp [Cx.frz] at hx, fun b cs cs' _ h2 => by simp [Cx.frz] at h2⟩
  cases d <;> first | (exact hd.elim) | skip
  · exact .any v
  · cases hr; exact .lit _
  · cases hd
    cases hr with
    | fz0 => exact .fz0
    | fzn => exact .fzn
    | fz h1 h2 h3 h4 h5 h6 =>
      rename_i b o cap cs
      have hl : c'.zf b = some cs := by
        unfold Cx.look at h1
        cases hzb : c.zf b with
        | some x => rw [hzb] at h1; cases h1; exact hz b _ hzb
        | none => rw [hzb] at h1; simp at h1
      refine .fz (by simp [Cx.look, Cx.frz, hl]) h2 h3 h4 h5 fun i cells k d v g1 g2 g3 => ?_
      have := (h6 i cells k d v g1 g2 g3).mono hle
      exact this.mono ⟨fun b cs hb => by simp [Cx.frz] at hb, fun b cs hb => hb, fun β x hx => by simp [Cx.frz] at hx, fun b cs cs' _ h2 => by simp [Cx.frz] at h2⟩
inductive Frz (β n : Nat) (es : List (List D)) : D → D → Prop
  | same {d : D} : d.av β → Frz β n es d d
  | sl {s len : Nat} {cap : Option Nat} {st : Nat} : st = es.length → s + len ≤ es.length → (∀ k, cap = some k → len ≤ k) → Frz β n es (.sl β s n len cap st) (.fz true n ((es.drop s).take len))
  | nil {m : Nat} : Frz β n es (.lit (.slice none 0 0)) (.fz true m [])
inductive FrzB (β n : Nat) (es : List (List D)) : LB → LB → Prop
  | same {b : LB} : b.av β → FrzB β n es b b
  | cells {ds ds' : List D} : ds.length = ds'.length → (∀ (i : Nat) d d', ds[i]? = some d → ds'[i]? = some d' → Frz β n es d d') → FrzB β n es (.cells ds) (.cells ds')
  | grow {m : Nat} {e e' : List (List D)} : e.length = e'.length → (∀ (i : Nat) x x', e[i]? = some x → e'[i]? = some x' → x.length = x'.length ∧ ∀ (j : Nat) d d', x[j]? = some d → x'[j]? = some d' → Frz β n es d d') → FrzB β n es (.grow m e) (.grow m e')
theorem zi0 {e e' : List (List D)} (h1 : e.length = e'.length) (h2 : ∀ (i : Nat) x x', e[i]? = some x → e'[i]? = some x' → x.length = x'.length) : e.flatten.length = e'.flatten.length := by
  induction e generalizing e' with
  | nil => cases e' with | nil => rfl | cons _ _ => simp at h1
  | cons a r ih =>
    cases e' with
    | nil => simp at h1
    | cons b s =>
      have := ih (by simpa using h1) (fun i x x' q1 q2 => h2 (i + 1) x x' (by simpa using q1) (by simpa using q2))
      have := h2 0 a b rfl rfl
      simp only [List.flatten_cons, List.length_append]
      omega
theorem zlB {e e' : List (List D)} {P : D → D → Prop} (h1 : e.length = e'.length) (h2 : ∀ (i : Nat) x x', e[i]? = some x → e'[i]? = some x' → x.length = x'.length ∧ ∀ (j : Nat) d d', x[j]? = some d → x'[j]? = some d' → P d d') :
    ∀ (i : Nat) d d', e.flatten[i]? = some d → e'.flatten[i]? = some d' → P d d' := by
  induction e generalizing e' with
  | nil => intro i d d' q1; simp at q1
  | cons a r ih =>
    cases e' with
    | nil => simp at h1
    | cons b s =>
      have hab := h2 0 a b rfl rfl
      intro i d d' q1 q2
      rw [List.flatten_cons] at q1 q2
      by_cases hi : i < a.length
      · rw [List.getElem?_append_left hi] at q1
        rw [List.getElem?_append_left (by omega)] at q2
        exact hab.2 i d d' q1 q2
      · rw [List.getElem?_append_right (by omega)] at q1
        rw [List.getElem?_append_right (by omega), ← hab.1] at q2
        exact ih (by simpa using h1) (fun i x x' q1 q2 => h2 (i + 1) x x' (by simpa using q1) (by simpa using q2)) _ d d' q1 q2
theorem zam.freeze {N β n : Nat} {E E' : List (Nat × D)} {L L' : List LB} {es : List (List D)} (hk : k0 ≤ β) (hb : L[β]? = some (.els n es) ∨ L[β]? = some (.grow n es)) (htr : ∀ cells ∈ es, ∀ d ∈ cells, d.tr)
    (hE : ∀ k d', lk E' k = some d' → ∃ d, lk E k = some d ∧ Frz β n es d d') (hL : L'.length = L.length) (hβ : L'[β]? = some .gone) (hLL : ∀ i b b', i ≠ β → L[i]? = some b → L'[i]? = some b' → FrzB β n es b b') : zam k0 ⟨N, E, L⟩ ⟨N, E', L'⟩ := by
  intro c M h
  have hH := h.heap
  have hbr : 0 < n ∧ ((es = [] ∧ c.ρ β = some .ghost) ∨ ∃ b vs, c.ρ β = some (.list b es.length) ∧ M.heap[b]? = some (.blk vs) ∧ Els c n es vs) := by
    rcases hb with hb | hb
    · obtain ⟨h0, h1⟩ := hH.obj β _ hb
      exact ⟨h0, .inr h1⟩
    · obtain ⟨h0, h1 | ⟨_, h1⟩⟩ := hH.obj β _ hb
      · exact ⟨h0, .inl h1⟩
      · exact ⟨h0, .inr h1⟩
  obtain ⟨hn, hcase⟩ := hbr
  have key : ∃ c', c.but β c' ∧ c'.ρ β = none ∧ Step c M.heap c' M.heap ∧ (∀ b cs, c'.zf b = some cs → c.base ≤ b ∧ M.heap[b]? = some (.blk cs)) ∧ (∀ k x b, k ≠ β → c.ρ k = some x → x.blk = some b → c'.zf b = none) ∧
      (∀ d d' v, Frz β n es d d' → R c d v → R c' d' v) := by
    rcases hcase with ⟨rfl, hρ⟩ | ⟨b, vs, hρ, hv, hels⟩
    · refine ⟨{ c with ρ := fun k => if k = β then none else c.ρ k }, ⟨rfl, fun _ _ h => h, fun k hk => by simp [hk], rfl, hH.apart⟩, by simp, ⟨Nat.le_refl _, rfl, rfl, fun _ _ h => h, fun _ _ _ => rfl, fun k x b hx hxb => ?_, fun _ h => h⟩, hH.zf, fun k x b hk hx hxb => (hH.own k x b hx hxb).2.2, ?_⟩
      · simp only at hx
        split at hx
        · cases hx
        · exact .inl ⟨k, x, hx, hxb⟩
      · intro d d' v hf hr
        cases hf with
        | same ha => exact hr.but ⟨rfl, fun _ _ h => h, fun k hk => by simp [hk], rfl, hH.apart⟩ ha
        | nil => cases zgY hr; exact .fzn
        | sl h1 h2 h3 =>
          rename_i s len cap st
          have hl : len = 0 := by simp at h2; omega
          subst hl
          cases hr with
          | sl g1 g2 => rw [hρ] at g1; cases g1
          | slg g1 => simp; exact .fzn
    · obtain ⟨o1, o2, o3⟩ := hH.own β _ b hρ rfl
      have hap : ∀ b' cs cs', (if b' = b then some vs else c.zf b') = some cs → c.za b' = some cs' → cs = cs' := by
        intro b' cs cs' h1 h2
        split at h1
        · rename_i he; subst he; have := (hH.za _ _ h2).1; omega
        · exact hH.apart b' cs cs' h1 h2
      have hbut : c.but β { c with ρ := fun k => if k = β then none else c.ρ k, zf := fun b' => if b' = b then some vs else c.zf b' } := by
        refine ⟨rfl, fun b' cs hz => ?_, fun k hk => by simp [hk], rfl, hap⟩
        have : b' ≠ b := by rintro rfl; rw [o3] at hz; cases hz
        simp [this, hz]
      refine ⟨_, hbut, by simp, ⟨Nat.le_refl _, rfl, rfl, hbut.zf, fun _ _ _ => rfl, fun k x b hx hxb => ?_, fun _ h => h⟩, fun b' cs hz => ?_, fun k x b' hk hx hxb => ?_, ?_⟩
      · simp only at hx
        split at hx
        · cases hx
        · exact .inl ⟨k, x, hx, hxb⟩
      · simp only at hz
        split at hz
        · rename_i he; subst he; cases hz; exact ⟨o1, hv⟩
        · exact hH.zf b' cs hz
      · have : b' ≠ b := by rintro rfl; exact hk (hH.inj k β x _ b' hx hρ hxb rfl)
        simp only [this, if_false]
        exact (hH.own k x b' hx hxb).2.2
      · intro d d' v hf hr
        cases hf with
        | same ha => exact hr.but hbut ha
        | nil => cases zgY hr; exact .fzn
        | sl h1 h2 h3 =>
          rename_i s len cap st
          have hvv : v = .sl b (s * n) n len cap := by
            cases hr with
            | sl g1 g2 =>
              rw [hρ] at g1
              cases g1
              rcases g2 with ⟨g2, _⟩ | ⟨_, g2⟩
              · omega
              · exact g2
            | slg g1 => rw [hρ] at g1; cases g1
          subst hvv
          have hlen : ((es.drop s).take len).length = len := by simp; omega
          have hget : ∀ (i : Nat) cells, ((es.drop s).take len)[i]? = some cells → es[s + i]? = some cells := by
            intro i cells hi
            rw [List.getElem?_take] at hi
            split at hi
            · rwa [List.getElem?_drop] at hi
            · cases hi
          have hroom : s * n + ((es.drop s).take len).length * n ≤ vs.length := by
            rw [hels.zj6, hlen, ← Nat.add_mul]; exact Nat.mul_le_mul_right n h2
          have := R.fz (c := { c with ρ := fun k => if k = β then none else c.ρ k, zf := fun b' => if b' = b then some vs else c.zf b' }) (t := true) (n := n) (els := (es.drop s).take len) (b := b) (o := s * n) (cap := cap) (cs := vs) (by simp [Cx.look]) hn (by rw [hlen]; exact h3) hroom
            (fun i cells hi => hels.len cells (List.mem_of_getElem? (hget i cells hi))) fun i cells k d u g1 g2 g3 => by
              have hi := hget i cells g1
              have hcl := hels.len cells (List.mem_of_getElem? hi)
              have hkl := (List.getElem?_eq_some_iff.1 g2).1
              have hrel := (hels.at_ hi).2 k d u g2 (by
                rw [List.getElem?_take, if_pos (by omega), List.getElem?_drop, ← g3]
                congr 1
                rw [Nat.add_mul])
              exact hrel.tr (htr cells (List.mem_of_getElem? hi) d (List.mem_of_getElem? g2)) hbut.zf
          rw [hlen] at this
          exact this
  obtain ⟨c', hbut, hnone, hstep, hzf, hown, hfr⟩ := key
  have hrs : ∀ {ds ds' : List D} {vs : List V}, ds.length = ds'.length → (∀ (i : Nat) d d', ds[i]? = some d → ds'[i]? = some d' → Frz β n es d d') → Rs c ds vs → Rs c' ds' vs := by
    intro ds ds' vs h1 h2 h3
    refine ⟨by rw [← h1]; exact h3.1, fun i d' v q1 q2 => ?_⟩
    have hi := (List.getElem?_eq_some_iff.1 q1).1
    have hi0 : ds[i]? = some (ds[i]'(by omega)) := List.getElem?_eq_getElem _
    exact hfr _ d' v (h2 i _ d' hi0 q1) (h3.2 i _ v hi0 q2)
  refine ⟨c', ⟨fun k d' hkd => ?_, h.len, ⟨by rw [hbut.base]; exact hH.base, fun b cs hz => by rw [hbut.za] at hz; rw [hbut.base]; exact hH.za b cs hz, fun b cs hz => by rw [hbut.base]; exact hzf b cs hz, ?_, ?_, ?_, ?_⟩⟩, hstep, ⟨fun b cs hz => by rw [hbut.za]; exact hz, hbut.zf, fun k x hk0 hx => ⟨x, by rw [hbut.ρ k (by omega)]; exact hx, Lc.up.refl x⟩⟩⟩
  · obtain ⟨d, g1, g2⟩ := hE k d' hkd
    obtain ⟨v, g3, g4⟩ := h.env k d g1
    exact ⟨v, g3, hfr d d' v g2 g4⟩
  · intro k x b hx hxb
    have hkβ : k ≠ β := by rintro rfl; rw [hnone] at hx; cases hx
    rw [hbut.ρ k hkβ] at hx
    rw [hbut.base]
    obtain ⟨q1, q2, _⟩ := hH.own k x b hx hxb
    exact ⟨q1, q2, hown k x b hkβ hx hxb⟩
  · intro k k' x x' b hx hx' hxb hxb'
    have hkβ : k ≠ β := by rintro rfl; rw [hnone] at hx; cases hx
    have hkβ' : k' ≠ β := by rintro rfl; rw [hnone] at hx'; cases hx'
    rw [hbut.ρ k hkβ] at hx
    rw [hbut.ρ k' hkβ'] at hx'
    exact hH.inj k k' x x' b hx hx' hxb hxb'
  · intro k x hx
    have hkβ : k ≠ β := by rintro rfl; rw [hnone] at hx; cases hx
    rw [hbut.ρ k hkβ] at hx
    have := hH.scope k x hx
    show k < L'.length
    rw [hL]
    exact this
  · intro i b' hi
    by_cases hiβ : i = β
    · subst hiβ
      have hi' : L'[i]? = some b' := hi
      rw [hβ] at hi'
      cases hi'
      exact hnone
    · have hlt : i < L.length := by rw [← hL]; exact (List.getElem?_eq_some_iff.1 hi).1
      have hi0 : L[i]? = some L[i] := List.getElem?_eq_getElem hlt
      have hfb := hLL i L[i] b' hiβ hi0 hi
      have hob := hH.obj i L[i] hi0
      generalize L[i] = b0 at hfb hob
      have hρi : c'.ρ i = c.ρ i := hbut.ρ i hiβ
      cases hfb with
      | same ha =>
        cases b' with
        | cells ds =>
          obtain ⟨b, vs, q1, q2, q3⟩ := hob
          exact ⟨b, vs, by rw [hρi]; exact q1, q2, q3.1, fun j d v w1 w2 => (q3.2 j d v w1 w2).but hbut (zd3 ha w1)⟩
        | els m e =>
          obtain ⟨q0, b, vs, q1, q2, q3⟩ := hob
          refine ⟨q0, b, vs, by rw [hρi]; exact q1, q2, q3.len, q3.rel.1, fun j d v w1 w2 => (q3.rel.2 j d v w1 w2).but hbut ?_⟩
          obtain ⟨cells, r1, r2⟩ := List.mem_flatten.1 (List.mem_of_getElem? w1)
          exact zoa (ha cells r1) r2
        | grow m e =>
          obtain ⟨q0, ⟨r1, r2⟩ | ⟨r0, b, vs, q1, q2, q3⟩⟩ := hob
          · exact ⟨q0, .inl ⟨r1, by rw [hρi]; exact r2⟩⟩
          · refine ⟨q0, .inr ⟨r0, b, vs, by rw [hρi]; exact q1, q2, q3.len, q3.rel.1, fun j d v w1 w2 => (q3.rel.2 j d v w1 w2).but hbut ?_⟩⟩
            obtain ⟨cells, r1, r2⟩ := List.mem_flatten.1 (List.mem_of_getElem? w1)
            exact zoa (ha cells r1) r2
        | gone => exact hρi.trans hob
        | lp st pend N E ps asg body =>
          obtain ⟨b, env, q1, q2, q3, q4⟩ := hob
          refine ⟨b, env, by rw [hρi]; exact q1, q2, q3, fun k d hk => ?_⟩
          obtain ⟨v, w1, w2⟩ := q4 k d hk
          exact ⟨v, w1, w2.but hbut (ha k d hk)⟩
        | lost =>
          obtain ⟨b, q1, q2⟩ := hob
          exact ⟨b, by rw [hρi]; exact q1, q2⟩
      | cells h1 h2 =>
        obtain ⟨b, vs, q1, q2, q3⟩ := hob
        exact ⟨b, vs, by rw [hρi]; exact q1, q2, hrs h1 h2 q3⟩
      | grow h1 h2 =>
        rename_i m e e'
        obtain ⟨q0, ⟨r1, r2⟩ | ⟨r0, b, vs, q1, q2, q3⟩⟩ := hob
        · subst r1
          have : e' = [] := List.eq_nil_of_length_eq_zero (by simpa using h1.symm)
          exact ⟨q0, .inl ⟨this, by rw [hρi]; exact r2⟩⟩
        · refine ⟨q0, .inr ⟨fun he => r0 (List.eq_nil_of_length_eq_zero (by rw [h1, he]; rfl)), b, vs, by rw [hρi, ← h1]; exact q1, q2, fun cells hc => ?_, hrs (zi0 h1 fun i x x' w1 w2 => (h2 i x x' w1 w2).1) (zlB h1 h2) q3.rel⟩⟩
          obtain ⟨j, hj⟩ := List.mem_iff_getElem?.1 hc
          have hjl := (List.getElem?_eq_some_iff.1 hj).1
          have hj0 : e[j]? = some (e[j]'(by omega)) := List.getElem?_eq_getElem _
          rw [← (h2 j _ cells hj0 hj).1]
          exact q3.len _ (List.mem_of_getElem? hj0)
end
end Go.Lx
namespace Go.Lx
open Go Go.Mx
section
variable {k0 : Nat}
def zrq (β : Nat) : List (Nat × D) → Prop
  | [] => True
  | (_, d) :: r => d.av β ∧ zrq β r
theorem zpB {β : Nat} {E : List (Nat × D)} (h : zrq β E) {k : Nat} {d : D} (hk : lk E k = some d) : d.av β := by
  induction E with
  | nil => cases hk
  | cons x r ih =>
    obtain ⟨j, e⟩ := x
    simp only [lk] at hk
    split at hk
    · cases hk; exact h.1
    · exact ih h.2 hk
inductive FrzL (β n : Nat) (es : List (List D)) : Nat → List LB → List LB → Prop
  | nil (i : Nat) : FrzL β n es i [] []
  | here {b : LB} {r r' : List LB} : FrzL β n es (β + 1) r r' → FrzL β n es β (b :: r) (.gone :: r')
  | there {i : Nat} {b b' : LB} {r r' : List LB} : i ≠ β → FrzB β n es b b' → FrzL β n es (i + 1) r r' → FrzL β n es i (b :: r) (b' :: r')
theorem FrzL.all {β n i0 : Nat} {es : List (List D)} {L L' : List LB} (h : FrzL β n es i0 L L') : L'.length = L.length ∧ (∀ i, i0 + i = β → i < L.length → L'[i]? = some .gone) ∧ ∀ i b b', i0 + i ≠ β → L[i]? = some b → L'[i]? = some b' → FrzB β n es b b' := by
  induction h with
  | nil i => exact ⟨rfl, fun j _ h => by simp at h, fun j b b' _ h => by simp at h⟩
  | here h ih =>
    obtain ⟨h1, h2, h3⟩ := ih
    refine ⟨by simp [h1], fun j hj hl => ?_, fun j b b' hj g1 g2 => ?_⟩
    · have : j = 0 := by omega
      subst this
      rfl
    · cases j with
      | zero => exact (hj rfl).elim
      | succ j => exact h3 j b b' (by omega) (by simpa using g1) (by simpa using g2)
  | there hne hb h ih =>
    obtain ⟨h1, h2, h3⟩ := ih
    refine ⟨by simp [h1], fun j hj hl => ?_, fun j b b' hj g1 g2 => ?_⟩
    · cases j with
      | zero => exact (hne hj).elim
      | succ j =>
        have := h2 j (by omega) (by simpa using hl)
        simpa using this
    · cases j with
      | zero => simp at g1 g2; subst g1; subst g2; exact hb
      | succ j => exact h3 j b b' (by omega) (by simpa using g1) (by simpa using g2)
theorem zam.frz {N β n : Nat} {E : List (Nat × D)} {L L' : List LB} {es : List (List D)} (hk : k0 ≤ β) (hb : L[β]? = some (.els n es) ∨ L[β]? = some (.grow n es)) (htr : ∀ cells ∈ es, ∀ d ∈ cells, d.tr)
    (hE : zrq β E) (hL : FrzL β n es 0 L L') : zam k0 ⟨N, E, L⟩ ⟨N, E, L'⟩ := by
  obtain ⟨h1, h2, h3⟩ := hL.all
  have hlt : β < L.length := by
    rcases hb with h | h
    · exact (List.getElem?_eq_some_iff.1 h).1
    · exact (List.getElem?_eq_some_iff.1 h).1
  exact zam.freeze hk hb htr (fun k d' hkd => ⟨d', hkd, .same (zpB hE hkd)⟩) h1 (h2 β (by omega) hlt) fun i b b' hi => h3 i b b' (by omega)
theorem FrzB.app {β n m : Nat} {es e : List (List D)} {x x' : List D} (h : ∀ cells ∈ e, D.avs β cells) (hl : x.length = x'.length) (hx : ∀ (j : Nat) d d', x[j]? = some d → x'[j]? = some d' → Frz β n es d d') : FrzB β n es (.grow m (e ++ [x])) (.grow m (e ++ [x'])) := by
  refine .grow (by simp) fun i y y' h1 h2 => ?_
  by_cases hi : i < e.length
  · rw [List.getElem?_append_left hi] at h1 h2
    rw [h1] at h2
    cases h2
    refine ⟨rfl, fun j d d' g1 g2 => ?_⟩
    rw [g1] at g2
    cases g2
    exact .same (zd3 (h y (List.mem_of_getElem? h1)) g1)
  · rw [List.getElem?_append_right (by omega)] at h1 h2
    have hi0 : i - e.length = 0 := by
      have := (List.getElem?_eq_some_iff.1 h1).1
      simp at this
      omega
    rw [hi0] at h1 h2
    simp at h1 h2
    subst h1
    subst h2
    exact ⟨hl, hx⟩
end
end Go.Lx
