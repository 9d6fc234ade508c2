/-
  Trees over the plain machine: values that bear what they hold, a small memory of one's own, and what they stand for. Conditions: none.
-/
import Derived.Test.YtobhjbbinnbdaaaNnLy0
namespace Go.Lx
open Go Go.Mx
inductive D where
  | any
  | lit (v : Value)
  | ptr (β o : Nat)
  | eptr (β n i off st : Nat)
  | fptr (t : Bool) (ds : List D)
  | sl (β s n len : Nat) (cap : Option Nat) (st : Nat)
  | fz (t : Bool) (n : Nat) (els : List (List D))
  | z0 (t : Bool) (n : Nat)
  | clo (f : Nat) (first cap : List D)
  | yld (l : Nat)
  | ifc (t : TypeId) (d : D)
  | agg (ds : List D)
  | tup (ds : List D)
  deriving Inhabited
inductive LB where
  | cells (ds : List D)
  | els (n : Nat) (es : List (List D))
  | grow (n : Nat) (es : List (List D))
  | gone
  | lp (st : Bool) (pend : Option Jump) (N : Nat) (E : List (Nat × D)) (ps : List Nat) (asg body : C)
  | lost
  deriving Inhabited
inductive Lc where
  | cell (b : Nat)
  | list (b m : Nat)
  | ghost
def Lc.blk : Lc → Option Nat
  | .cell b => some b
  | .list b _ => some b
  | .ghost => none
structure Cx where
  za : Nat → Option (List V)
  zf : Nat → Option (List V)
  ρ : Nat → Option Lc
  base : Nat
def Cx.frz (c : Cx) (t : Bool) : Cx := { c with za := fun b => if t then none else c.za b, ρ := fun _ => none }
def Cx.look (c : Cx) (t : Bool) (b : Nat) : Option (List V) :=
  match c.zf b with
  | some cs => some cs
  | none => if t then none else c.za b
inductive R : Cx → D → V → Prop
  | any {c} (v) : R c .any v
  | lit {c} (v) : R c (.lit v) (.lit v)
  | ptr {c β o b} : c.ρ β = some (.cell b) → R c (.ptr β o) (.ptr b o)
  | eptr {c β n i off st b m v} : c.ρ β = some (.list b m) → ((st < m ∧ v.one = true) ∨ (st = m ∧ v = .ptr b (i * n + off))) → R c (.eptr β n i off st) v
  | sl {c β s n len cap st b m v} : c.ρ β = some (.list b m) → ((st < m ∧ v.one = true) ∨ (st = m ∧ v = .sl b (s * n) n len cap)) → R c (.sl β s n len cap st) v
  | slg {c β n} : c.ρ β = some .ghost → R c (.sl β 0 n 0 none 0) (.lit (.slice none 0 0))
  | fz {c t n els b o cap cs} : c.look t b = some cs → 0 < n → (∀ k, cap = some k → els.length ≤ k) → o + els.length * n ≤ cs.length →
      (∀ (i : Nat) (cells : List D), els[i]? = some cells → cells.length = n) →
      (∀ (i : Nat) (cells : List D) (k : Nat) d v, els[i]? = some cells → cells[k]? = some d → cs[o + i * n + k]? = some v → R (c.frz t) d v) → R c (.fz t n els) (.sl b o n els.length cap)
  | fz0 {c t n b o cap} : R c (.fz t n []) (.sl b o n 0 cap)
  | fzn {c t n} : R c (.fz t n []) (.lit (.slice none 0 0))
  | z0 {c t n b o cs} : c.look t b = some cs → o ≤ cs.length → R c (.z0 t n) (.sl b o n 0 (some 0))
  | z0n {c t n} : R c (.z0 t n) (.lit (.slice none 0 0))
  | fptr {c t ds b o cs} : c.look t b = some cs → o + ds.length ≤ cs.length → (∀ (k : Nat) d v, ds[k]? = some d → cs[o + k]? = some v → R (c.frz t) d v) → R c (.fptr t ds) (.ptr b o)
  | clo {c f xs ys vs us} : xs.length = vs.length → ys.length = us.length → (∀ (i : Nat) d v, xs[i]? = some d → vs[i]? = some v → R c d v) →
      (∀ (i : Nat) d v, ys[i]? = some d → us[i]? = some v → R c d v) → R c (.clo f xs ys) (.clo f vs us)
  | yld {c l b} : c.ρ l = some (.cell b) → R c (.yld l) (.yld b)
  | ifc {c t d v} : R c d v → R c (.ifc t d) (.ifc t v)
  | agg {c ds vs} : ds.length = vs.length → (∀ (i : Nat) d v, ds[i]? = some d → vs[i]? = some v → R c d v) → R c (.agg ds) (.agg vs)
  | tup {c ds vs} : ds.length = vs.length → (∀ (i : Nat) d v, ds[i]? = some d → vs[i]? = some v → R c d v) → R c (.tup ds) (.tup vs)
def Rs (c : Cx) (ds : List D) (vs : List V) : Prop := ds.length = vs.length ∧ ∀ (i : Nat) d v, ds[i]? = some d → vs[i]? = some v → R c d v
theorem Rs.nil (c : Cx) : Rs c [] [] := ⟨rfl, fun i d v h => by simp at h⟩
theorem Rs.cons {c : Cx} {d : D} {v : V} {ds : List D} {vs : List V} (h : R c d v) (hs : Rs c ds vs) : Rs c (d :: ds) (v :: vs) := by
  refine ⟨by simp [hs.1], fun i d' v' h1 h2 => ?_⟩
  cases i with
  | zero => simp at h1 h2; subst h1; subst h2; exact h
  | succ i => simp at h1 h2; exact hs.2 i d' v' h1 h2
theorem Rs.inv {c : Cx} {d : D} {ds : List D} {vs : List V} (hs : Rs c (d :: ds) vs) : ∃ v vs', vs = v :: vs' ∧ R c d v ∧ Rs c ds vs' := by
  cases vs with
  | nil => simp [Rs] at hs
  | cons v vs' => exact ⟨v, vs', rfl, hs.2 0 d v rfl rfl, ⟨by simpa using hs.1, fun i d' v' h1 h2 => hs.2 (i + 1) d' v' (by simpa using h1) (by simpa using h2)⟩⟩
theorem Rs.get {c : Cx} {ds : List D} {vs : List V} (hs : Rs c ds vs) {i : Nat} {d : D} (h : ds[i]? = some d) : ∃ v, vs[i]? = some v ∧ R c d v := by
  have hi : i < vs.length := by rw [← hs.1]; exact (List.getElem?_eq_some_iff.1 h).1
  exact ⟨vs[i], List.getElem?_eq_getElem hi, hs.2 i d _ h (List.getElem?_eq_getElem hi)⟩
theorem Rs.append {c : Cx} {ds ds' : List D} {vs vs' : List V} (h : Rs c ds vs) (h' : Rs c ds' vs') : Rs c (ds ++ ds') (vs ++ vs') := by
  refine ⟨by simp [h.1, h'.1], fun i d v h1 h2 => ?_⟩
  by_cases hi : i < ds.length
  · rw [List.getElem?_append_left hi] at h1
    rw [List.getElem?_append_left (by rw [← h.1]; exact hi)] at h2
    exact h.2 i d v h1 h2
  · rw [List.getElem?_append_right (by omega)] at h1
    rw [List.getElem?_append_right (by have := h.1; omega), ← h.1] at h2
    exact h'.2 _ d v h1 h2
theorem Rs.take {c : Cx} {ds : List D} {vs : List V} (h : Rs c ds vs) (k : Nat) : Rs c (ds.take k) (vs.take k) := by
  refine ⟨by simp [h.1], fun i d v h1 h2 => ?_⟩
  rw [List.getElem?_take] at h1 h2
  by_cases hi : i < k
  · rw [if_pos hi] at h1 h2; exact h.2 i d v h1 h2
  · rw [if_neg hi] at h1; cases h1
theorem Rs.drop {c : Cx} {ds : List D} {vs : List V} (h : Rs c ds vs) (k : Nat) : Rs c (ds.drop k) (vs.drop k) := by
  refine ⟨by simp [h.1], fun i d v h1 h2 => ?_⟩
  rw [List.getElem?_drop] at h1 h2
  exact h.2 _ d v h1 h2
theorem Rs.lits {c : Cx} (l : List Value) : Rs c (l.map .lit) (l.map .lit) := by
  refine ⟨by simp, fun i d v h1 h2 => ?_⟩
  simp only [List.getElem?_map, Option.map_eq_some_iff] at h1 h2
  obtain ⟨x, h1, rfl⟩ := h1
  obtain ⟨y, h2, rfl⟩ := h2
  rw [h1] at h2
  cases h2
  exact .lit _
def Lc.up : Lc → Lc → Prop
  | .cell b, x => x = .cell b
  | .list b m, x => x = .list b m ∨ ∃ b' m', x = .list b' m' ∧ m < m'
  | .ghost, x => x = .ghost ∨ ∃ b' m', x = .list b' m' ∧ 0 < m'
theorem Lc.up.refl (x : Lc) : x.up x := by
  cases x with
  | cell b => rfl
  | list b m => exact .inl rfl
  | ghost => exact .inl rfl
structure Cx.le (c c' : Cx) : Prop where
  za : ∀ b cs, c.za b = some cs → c'.za b = some cs
  zf : ∀ b cs, c.zf b = some cs → c'.zf b = some cs
  ρ : ∀ β x, c.ρ β = some x → ∃ x', c'.ρ β = some x' ∧ x.up x'
  apart : ∀ b cs cs', c'.zf b = some cs → c'.za b = some cs' → cs = cs'
theorem Cx.le.look {c c' : Cx} (h : c.le c') {t : Bool} {b : Nat} {cs : List V} (hl : c.look t b = some cs) : c'.look t b = some cs := by
  unfold Cx.look at hl ⊢
  cases hz : c.zf b with
  | some x => rw [hz] at hl; cases hl; rw [h.zf b _ hz]
  | none =>
    rw [hz] at hl
    cases t with
    | true => simp at hl
    | false =>
      simp only [Bool.false_eq_true, if_false] at hl
      have := h.za b cs hl
      cases hz' : c'.zf b with
      | some y => exact congrArg some (h.apart b y cs hz' this)
      | none => simpa using this
theorem Cx.le.frz {c c' : Cx} (h : c.le c') (t : Bool) : (c.frz t).le (c'.frz t) where
  za b cs hb := by
    cases t with
    | true => simp [Cx.frz] at hb
    | false => simp only [Cx.frz, Bool.false_eq_true, if_false] at hb ⊢; exact h.za b cs hb
  zf b cs hb := h.zf b cs hb
  ρ β x hx := by simp [Cx.frz] at hx
  apart b cs cs' h1 h2 := by
    cases t with
    | true => simp [Cx.frz] at h2
    | false => simp only [Cx.frz, Bool.false_eq_true, if_false] at h1 h2; exact h.apart b cs cs' h1 h2
theorem R.mono {c c' : Cx} {d : D} {v : V} (hr : R c d v) (h : c.le c') : R c' d v := by
  induction hr generalizing c' with
  | any v => exact .any v
  | lit v => exact .lit v
  | ptr h1 => obtain ⟨x', g1, g2⟩ := h.ρ _ _ h1; cases g2; exact .ptr g1
  | eptr h1 h2 =>
    obtain ⟨x', g1, g2⟩ := h.ρ _ _ h1
    rcases g2 with rfl | ⟨b', m', rfl, g2⟩
    · exact .eptr g1 h2
    · refine .eptr g1 (.inl ?_)
      rcases h2 with ⟨h2, h3⟩ | ⟨rfl, rfl⟩
      · exact ⟨by omega, h3⟩
      · exact ⟨g2, rfl⟩
  | sl h1 h2 =>
    obtain ⟨x', g1, g2⟩ := h.ρ _ _ h1
    rcases g2 with rfl | ⟨b', m', rfl, g2⟩
    · exact .sl g1 h2
    · refine .sl g1 (.inl ?_)
      rcases h2 with ⟨h2, h3⟩ | ⟨rfl, rfl⟩
      · exact ⟨by omega, h3⟩
      · exact ⟨g2, rfl⟩
  | slg h1 =>
    obtain ⟨x', g1, g2⟩ := h.ρ _ _ h1
    rcases g2 with rfl | ⟨b', m', rfl, g2⟩
    · exact .slg g1
    · exact .sl g1 (.inl ⟨g2, rfl⟩)
  | fz h1 h2 h3 h4 h5 _ ih => exact .fz (h.look h1) h2 h3 h4 h5 fun i cells k d v g1 g2 g3 => ih i cells k d v g1 g2 g3 (h.frz _)
  | fz0 => exact .fz0
  | fzn => exact .fzn
  | z0 h1 h2 => exact .z0 (h.look h1) h2
  | z0n => exact .z0n
  | fptr h1 h2 _ ih => exact .fptr (h.look h1) h2 fun k d v g1 g2 => ih k d v g1 g2 (h.frz _)
  | clo h1 h2 _ _ ih1 ih2 => exact .clo h1 h2 (fun i d v g1 g2 => ih1 i d v g1 g2 h) fun i d v g1 g2 => ih2 i d v g1 g2 h
  | yld h1 => obtain ⟨x', g1, g2⟩ := h.ρ _ _ h1; cases g2; exact .yld g1
  | ifc _ ih => exact .ifc (ih h)
  | agg h1 _ ih => exact .agg h1 fun i d v g1 g2 => ih i d v g1 g2 h
  | tup h1 _ ih => exact .tup h1 fun i d v g1 g2 => ih i d v g1 g2 h
theorem Rs.mono {c c' : Cx} {ds : List D} {vs : List V} (hr : Rs c ds vs) (h : c.le c') : Rs c' ds vs := ⟨hr.1, fun i d v h1 h2 => (hr.2 i d v h1 h2).mono h⟩
theorem R.zqh {c : Cx} (hap : ∀ b cs cs', c.zf b = some cs → c.za b = some cs' → cs = cs') {t : Bool} {d : D} {v : V} (hr : R (c.frz t) d v) : R c d v := by
  refine hr.mono ⟨fun b cs hb => ?_, fun b cs hb => hb, fun β x hx => (by simp [Cx.frz] at hx), hap⟩
  cases t with
  | true => simp [Cx.frz] at hb
  | false => simpa [Cx.frz] using hb
structure Els (c : Cx) (n : Nat) (es : List (List D)) (vs : List V) : Prop where
  len : ∀ cells, cells ∈ es → cells.length = n
  rel : Rs c es.flatten vs
theorem Els.mono {c c' : Cx} {n : Nat} {es : List (List D)} {vs : List V} (h : Els c n es vs) (hl : c.le c') : Els c' n es vs := ⟨h.len, h.rel.mono hl⟩
def lk : List (Nat × D) → Nat → Option D
  | [], _ => none
  | (k, d) :: r, j => if k = j then some d else lk r j
def zbs (c : Cx) (E : List (Nat × D)) (env : List V) : Prop := ∀ k d, lk E k = some d → ∃ v, env[k]? = some v ∧ R c d v
theorem zbs.mono {c c' : Cx} {E : List (Nat × D)} {env : List V} (h : zbs c E env) (hl : c.le c') : zbs c' E env := fun k d hk => by
  obtain ⟨v, g1, g2⟩ := h k d hk
  exact ⟨v, g1, g2.mono hl⟩
def zkq (c : Cx) (H : zaj) (β : Nat) : LB → Prop
  | .cells ds => ∃ b vs, c.ρ β = some (.cell b) ∧ H[b]? = some (.blk vs) ∧ Rs c ds vs
  | .els n es => 0 < n ∧ ∃ b vs, c.ρ β = some (.list b es.length) ∧ H[b]? = some (.blk vs) ∧ Els c n es vs
  | .grow n es => 0 < n ∧ ((es = [] ∧ c.ρ β = some .ghost) ∨ (es ≠ [] ∧ ∃ b vs, c.ρ β = some (.list b es.length) ∧ H[b]? = some (.blk vs) ∧ Els c n es vs))
  | .gone => c.ρ β = none
  | .lp st pend N E ps asg body => ∃ b env, c.ρ β = some (.cell b) ∧ H[b]? = some (.loop st pend env ps asg body) ∧ env.length = N ∧ zbs c E env
  | .lost => ∃ b, c.ρ β = some (.cell b) ∧ H[b]? = some .dead
structure RelH (c : Cx) (L : List LB) (H : zaj) : Prop where
  base : c.base ≤ H.length
  za : ∀ b cs, c.za b = some cs → b < c.base ∧ H[b]? = some (.blk cs)
  zf : ∀ b cs, c.zf b = some cs → c.base ≤ b ∧ H[b]? = some (.blk cs)
  own : ∀ β x b, c.ρ β = some x → x.blk = some b → c.base ≤ b ∧ b < H.length ∧ c.zf b = none
  inj : ∀ β β' x x' b, c.ρ β = some x → c.ρ β' = some x' → x.blk = some b → x'.blk = some b → β = β'
  scope : ∀ β x, c.ρ β = some x → β < L.length
  obj : ∀ β o, L[β]? = some o → zkq c H β o
theorem RelH.apart {c : Cx} {L : List LB} {H : zaj} (h : RelH c L H) (b : Nat) (cs cs' : List V) (h1 : c.zf b = some cs) (h2 : c.za b = some cs') : cs = cs' := by
  have := (h.zf b cs h1).1
  have := (h.za b cs' h2).1
  omega
theorem RelH.look {c : Cx} {L : List LB} {H : zaj} (h : RelH c L H) {t : Bool} {b : Nat} {cs : List V} (hl : c.look t b = some cs) : H[b]? = some (.blk cs) := by
  unfold Cx.look at hl
  cases hz : c.zf b with
  | some x => rw [hz] at hl; cases hl; exact (h.zf b _ hz).2
  | none =>
    rw [hz] at hl
    cases t with
    | true => simp at hl
    | false => exact (h.za b cs (by simpa using hl)).2
def zqc (H : zaj) (b : Nat) : Prop := ∃ st pend env ps asg body, H[b]? = some (Ob.loop st pend env ps asg body)
theorem zqc.lt {H : zaj} {b : Nat} (h : zqc H b) : b < H.length := by
  obtain ⟨_, _, _, _, _, _, h⟩ := h
  exact (List.getElem?_eq_some_iff.1 h).1
theorem zqc.zdx {H H' : zaj} {b : Nat} (h : zqc H b) (e : H'[b]? = H[b]?) : zqc H' b := by
  obtain ⟨a1, a2, a3, a4, a5, a6, h⟩ := h
  exact ⟨a1, a2, a3, a4, a5, a6, e.trans h⟩
structure Step (c : Cx) (H : zaj) (c' : Cx) (H' : zaj) : Prop where
  len : H.length ≤ H'.length
  za : c'.za = c.za
  base : c'.base = c.base
  zf : ∀ b cs, c.zf b = some cs → c'.zf b = some cs
  zdx : ∀ b, b < H.length → (∀ β x, c.ρ β = some x → x.blk ≠ some b) → H'[b]? = H[b]?
  own : ∀ β x b, c'.ρ β = some x → x.blk = some b → (∃ β0 x0, c.ρ β0 = some x0 ∧ x0.blk = some b) ∨ H.length ≤ b
  lp : ∀ b, zqc H b → zqc H' b
theorem Step.refl (c : Cx) (H : zaj) : Step c H c H := ⟨Nat.le_refl _, rfl, rfl, fun _ _ h => h, fun _ _ _ => rfl, fun β x b h hb => .inl ⟨β, x, h, hb⟩, fun _ h => h⟩
theorem Step.trans {c c1 c2 : Cx} {H H1 H2 : zaj} (h : Step c H c1 H1) (h' : Step c1 H1 c2 H2) : Step c H c2 H2 where
  len := Nat.le_trans h.len h'.len
  za := h'.za.trans h.za
  base := h'.base.trans h.base
  zf b cs hb := h'.zf b cs (h.zf b cs hb)
  zdx b hb hn := by
    rw [h'.zdx b (Nat.lt_of_lt_of_le hb h.len) ?_, h.zdx b hb hn]
    intro β x hx hxb
    rcases h.own β x b hx hxb with ⟨β0, x0, h0, h1⟩ | h0
    · exact hn β0 x0 h0 h1
    · omega
  own β x b hx hb := by
    rcases h'.own β x b hx hb with ⟨β0, x0, h0, h1⟩ | h0
    · exact h.own β0 x0 b h0 h1
    · exact .inr (Nat.le_trans h.len h0)
  lp b hb := h'.lp b (h.lp b hb)
structure LSt where
  N : Nat
  env : List (Nat × D)
  heap : List LB
structure Rel (c : Cx) (S : LSt) (M : St) : Prop where
  env : ∀ k d, lk S.env k = some d → ∃ v, M.env[k]? = some v ∧ R c d v
  len : M.env.length = S.N
  heap : RelH c S.heap M.heap
end Go.Lx
