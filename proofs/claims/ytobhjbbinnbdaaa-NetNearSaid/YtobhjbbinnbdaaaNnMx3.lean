/-
  The plain machine's values and memory, and the world's: what stands for what. Conditions: none.
-/
import Derived.Test.YtobhjbbinnbdaaaNnMx2
import Derived.Laws.Append
import Derived.Laws.Small
import Derived.RangeFuncLeaves
namespace Go.Mx
open Go Go.RowKit
abbrev Io := Nat → Option (Nat × Nat × Nat)
inductive VRel (ι : Io) : V → Value → Prop
  | lit (v : Value) : VRel ι (.lit v) v
  | ptr (β o b s sz : Nat) : ι β = some (b, s, sz) → VRel ι (.ptr β o) (.pointer (some ⟨b, s + o, none⟩))
  | sl (β o n len : Nat) (cap : Option Nat) (b s sz cap' : Nat) : ι β = some (b, s, sz) → s + o + cap' * n ≤ sz → len ≤ cap' → cap' < 2 ^ 63 → 0 < n → (∀ c, cap = some c → c = cap') → (cap = none → sz ≤ s + o + cap' * n) →
      VRel ι (.sl β o n len cap) (.slice (some ⟨b, s + o, none⟩) len cap')
  | sl0 (β o n : Nat) (cap : Option Nat) (ad : Addr) : 0 < n → (∀ c, cap = some c → c = 0) → (cap = none → ∃ b s sz, ι β = some (b, s, sz) ∧ sz ≤ s + o) → VRel ι (.sl β o n 0 cap) (.slice (some ad) 0 0)
  | clo (f : Nat) (first cap : List V) (xs ys : Array Value) : xs.size = first.length → ys.size = cap.length → (∀ (i : Nat) x v, first[i]? = some x → xs[i]? = some v → VRel ι x v) →
      (∀ (i : Nat) x v, cap[i]? = some x → ys[i]? = some v → VRel ι x v) → VRel ι (.clo f first cap) (.func (.func f) xs ys)
  | yld (l b s sz : Nat) : ι l = some (b, s, sz) → VRel ι (.yld l) (.func (.yield b) #[] #[])
  | ifc (t : TypeId) (v : V) (u : Value) : VRel ι v u → VRel ι (.ifc t v) (.iface t u)
  | agg (vs : List V) (arr : Array Value) : arr.size = vs.length → (∀ (i : Nat) x v, vs[i]? = some x → arr[i]? = some v → VRel ι x v) → (∀ (i : Nat) v, arr[i]? = some v → v.oneCell' = true) → VRel ι (.agg vs) (.agg arr)
  | tup (vs : List V) (arr : Array Value) : arr.size = vs.length → (∀ (i : Nat) x v, vs[i]? = some x → arr[i]? = some v → VRel ι x v) → VRel ι (.tup vs) (.tuple arr)
def Io.le (ι ι' : Io) : Prop := ∀ β x, ι β = some x → ι' β = some x
theorem Io.le.refl (ι : Io) : Io.le ι ι := fun _ _ h => h
theorem Io.le.trans {ι ι' ι'' : Io} (h : Io.le ι ι') (h' : Io.le ι' ι'') : Io.le ι ι'' := fun β x hx => h' β x (h β x hx)
theorem VRel.mono {ι ι' : Io} (h : Io.le ι ι') {v : V} {u : Value} (hr : VRel ι v u) : VRel ι' v u := by
  induction hr with
  | lit v => exact .lit v
  | ptr β o b s sz h1 => exact .ptr β o b s sz (h _ _ h1)
  | sl β o n len cap b s sz cap' h1 h2 h3 h4 h5 h6 h7 => exact .sl β o n len cap b s sz cap' (h _ _ h1) h2 h3 h4 h5 h6 h7
  | sl0 β o n cap ad h1 h2 h3 => exact .sl0 β o n cap ad h1 h2 fun hc => by obtain ⟨b, s, sz, g1, g2⟩ := h3 hc; exact ⟨b, s, sz, h _ _ g1, g2⟩
  | clo f first cap xs ys h1 h2 _ _ ih1 ih2 => exact .clo f first cap xs ys h1 h2 ih1 ih2
  | yld l b s sz h1 => exact .yld l b s sz (h _ _ h1)
  | ifc t v u _ ih => exact .ifc t v u ih
  | agg vs arr h1 _ h3 ih => exact .agg vs arr h1 ih h3
  | tup vs arr h1 _ ih => exact .tup vs arr h1 ih
def zdP (ι : Io) (vs : List V) (arr : Array Value) : Prop :=
  arr.size = vs.length ∧ ∀ (i : Nat) x v, vs[i]? = some x → arr[i]? = some v → VRel ι x v ∧ v.oneCell' = true
def zhG (ι : Io) (vs : List V) (arr : Array Value) : Prop :=
  arr.size = vs.length ∧ ∀ (i : Nat) x v, vs[i]? = some x → arr[i]? = some v → VRel ι x v
theorem zdP.mono {ι ι' : Io} (h : Io.le ι ι') {vs : List V} {arr : Array Value} (hr : zdP ι vs arr) : zdP ι' vs arr :=
  ⟨hr.1, fun i x v h1 h2 => ⟨(hr.2 i x v h1 h2).1.mono h, (hr.2 i x v h1 h2).2⟩⟩
theorem zhG.mono {ι ι' : Io} (h : Io.le ι ι') {vs : List V} {arr : Array Value} (hr : zhG ι vs arr) : zhG ι' vs arr :=
  ⟨hr.1, fun i x v h1 h2 => (hr.2 i x v h1 h2).mono h⟩
theorem zdP.get {ι : Io} {vs : List V} {arr : Array Value} (hr : zdP ι vs arr) {i : Nat} {x : V} (h : vs[i]? = some x) : ∃ u, arr[i]? = some u ∧ VRel ι x u ∧ u.oneCell' = true := by
  have hi : i < arr.size := by rw [hr.1]; exact (List.getElem?_eq_some_iff.1 h).1
  exact ⟨arr[i], Array.getElem?_eq_getElem hi, hr.2 i x _ h (Array.getElem?_eq_getElem hi)⟩
def zex (P : Program) (f : Nat) : Bool := match P.funcs[f]? with | some fn => !(fn.name == "runtime.NumGoroutine") && fn.body.isSome | none => false
def zem : Jump → Code
  | .ret => .ret
  | .exit id => .exit id
def zqb (P : Program) (B : Nat) (w : World) (ι : Io) (β : Nat) : Ob → Prop
  | .dead => True
  | .blk cs => ∃ b s sz arr T fr, ι β = some (b, s, sz) ∧ w.heap[b]? = some (.cells arr T fr) ∧ arr.size = sz ∧ s + cs.length ≤ sz ∧
      (∀ (k : Nat) v, cs[k]? = some v → ∃ u, arr[s + k]? = some u ∧ VRel ι v u ∧ u.oneCell' = true) ∧ (B ≤ β → fr = (0, 0))
  | .loop st pend env ps asg body => ∃ b s sz R, ι β = some (b, s, sz) ∧ w.heap[b]? = some (.loop R) ∧ R.state = (bif st then .ready else bif pend.isSome then .done else .busy) ∧ R.pending = pend.map zem ∧
      R.tmps.size = env.length ∧ (∀ (k : Nat) v, env[k]? = some v → VRel ι v (R.tmps.getD k undef)) ∧ R.params.toList = ps ∧ comp P env.length R.assign = asg ∧ comp P env.length R.body = body
  | .dfr => ∃ b s sz, ι β = some (b, s, sz) ∧ w.heap[b]? = some (.deferred (some []))
def Ob.live : Ob → Prop
  | .dead => False
  | _ => True
theorem zqb.mono {P : Program} {B : Nat} {w w' : World} {ι ι' : Io} {β : Nat} {o : Ob} (hι : Io.le ι ι') (hw : ∀ b s sz, ι β = some (b, s, sz) → w'.heap[b]? = w.heap[b]?) (h : zqb P B w ι β o) : zqb P B w' ι' β o := by
  cases o with
  | dead => trivial
  | blk cs =>
    obtain ⟨b, s, sz, arr, T, fr, h1, h2, h3, h4, h5, h6⟩ := h
    exact ⟨b, s, sz, arr, T, fr, hι _ _ h1, (hw _ _ _ h1).trans h2, h3, h4, fun k v hk => by
      obtain ⟨u, g1, g2, g3⟩ := h5 k v hk
      exact ⟨u, g1, g2.mono hι, g3⟩, h6⟩
  | loop st pend env ps asg body =>
    obtain ⟨b, s, sz, R, h1, h2, h3, h4, h5, h6, h7, h8, h9⟩ := h
    exact ⟨b, s, sz, R, hι _ _ h1, (hw _ _ _ h1).trans h2, h3, h4, h5, fun k v hk => (h6 k v hk).mono hι, h7, h8, h9⟩
  | dfr =>
    obtain ⟨b, s, sz, h1, h2⟩ := h
    exact ⟨b, s, sz, hι _ _ h1, (hw _ _ _ h1).trans h2⟩
theorem zqb.at_ {P : Program} {B : Nat} {w : World} {ι : Io} {β : Nat} {o : Ob} (h : zqb P B w ι β o) (hl : o.live) : ∃ b s sz ob, ι β = some (b, s, sz) ∧ w.heap[b]? = some ob := by
  cases o with
  | dead => exact hl.elim
  | blk cs => obtain ⟨b, s, sz, arr, T, fr, h1, h2, _⟩ := h; exact ⟨b, s, sz, _, h1, h2⟩
  | loop st pend env ps asg body => obtain ⟨b, s, sz, R, h1, h2, _⟩ := h; exact ⟨b, s, sz, _, h1, h2⟩
  | dfr => obtain ⟨b, s, sz, h1, h2⟩ := h; exact ⟨b, s, sz, _, h1, h2⟩
structure Sim (P : Program) (B : Nat) (w1 : World) (ι : Io) (h : zaj) (w : World) : Prop where
  base : B ≤ h.length
  below : Below w1.heap.size w1 w
  obj : ∀ β o, h[β]? = some o → zqb P B w ι β o
  own : ∀ β o b s sz, h[β]? = some o → o.live → B ≤ β → ι β = some (b, s, sz) → w1.heap.size ≤ b
  old : ∀ β o b s sz, h[β]? = some o → o.live → β < B → ι β = some (b, s, sz) → b < w1.heap.size
  inj : ∀ β β' o o' b s sz s' sz', h[β]? = some o → h[β']? = some o' → o.live → o'.live → B ≤ β → B ≤ β' → ι β = some (b, s, sz) → ι β' = some (b, s', sz') → β = β'
  scope : ∀ β x, ι β = some x → β < h.length
section
variable {P : Program} {B : Nat} {w1 w w' : World} {ι : Io} {h : zaj}
theorem zbc {b : Nat} {o : Obj} (h : w.heap[b]? = some o) : b < w.heap.size := (Array.getElem?_eq_some_iff.1 h).1
theorem Sim.lt (hS : Sim P B w1 ι h w) {β b s sz : Nat} {o : Ob} (hβ : h[β]? = some o) (hl : o.live) (hι : ι β = some (b, s, sz)) : b < w.heap.size := by
  obtain ⟨b', s', sz', ob, h1, h2⟩ := (hS.obj β o hβ).at_ hl
  rw [hι] at h1
  cases h1
  exact zbc h2
theorem Sim.grown (hS : Sim P B w1 ι h w) (hg : w.grownBy w' none) : Sim P B w1 ι h w' where
  base := hS.base
  below := hS.below.grown hg hS.below.size (by simp)
  obj β o hβ := by
    cases hd : o with
    | dead => trivial
    | _ =>
      rw [← hd]
      have hl : o.live := by rw [hd]; trivial
      exact (hS.obj β o hβ).mono (Io.le.refl _) fun b s sz hb => hg.block b (hS.lt hβ hl hb) (by simp)
  own := hS.own
  old := hS.old
  inj := hS.inj
  scope := hS.scope
theorem Sim.kill (hS : Sim P B w1 ι h w) (β : Nat) : Sim P B w1 ι (h.set β .dead) w := by
  have key : ∀ (γ : Nat) (o : Ob), (h.set β .dead)[γ]? = some o → o.live → h[γ]? = some o := by
    intro γ o hγ hl
    by_cases hβ : β = γ
    · subst hβ
      by_cases hlt : β < h.length
      · rw [List.getElem?_set_self hlt] at hγ; cases hγ; exact hl.elim
      · rw [List.getElem?_eq_none (by simp; omega)] at hγ; cases hγ
    · rwa [List.getElem?_set_ne hβ] at hγ
  refine ⟨by simpa using hS.base, hS.below, fun γ o hγ => ?_, fun γ o b s sz hγ hl => hS.own γ o b s sz (key γ o hγ hl) hl, fun γ o b s sz hγ hl => hS.old γ o b s sz (key γ o hγ hl) hl,
    fun γ γ' o o' b s sz s' sz' h1 h2 h3 h4 => hS.inj γ γ' o o' b s sz s' sz' (key γ o h1 h3) (key γ' o' h2 h4) h3 h4, fun γ x hx => by simpa using hS.scope γ x hx⟩
  cases hd : o with
  | dead => trivial
  | _ => rw [← hd]; exact hS.obj γ o (key γ o hγ (by rw [hd]; trivial))
def Io.ext (ι : Io) (β : Nat) (x : Nat × Nat × Nat) : Io := fun γ => if γ = β then some x else ι γ
theorem Io.zaK (ι : Io) (β : Nat) (x : Nat × Nat × Nat) : ι.ext β x β = some x := by simp [Io.ext]
theorem Sim.zci (hS : Sim P B w1 ι h w) (x : Nat × Nat × Nat) : Io.le ι (ι.ext h.length x) := fun β y hy => by
  have := hS.scope β y hy
  simp only [Io.ext]
  rw [if_neg (by omega)]; exact hy
theorem Sim.zss (hS : Sim P B w1 ι h w) {b s sz : Nat} {o : Ob} (hg : w.grownBy w' (some b)) (hb : w1.heap.size ≤ b) (hfree : ∀ β o b' s sz, h[β]? = some o → o.live → B ≤ β → ι β = some (b', s, sz) → b' ≠ b)
    (hob : zqb P B w' (ι.ext h.length (b, s, sz)) h.length o) : Sim P B w1 (ι.ext h.length (b, s, sz)) (h ++ [o]) w' := by
  have hle := hS.zci (b, s, sz)
  have hold : ∀ γ, γ < h.length → (ι.ext h.length (b, s, sz)) γ = ι γ := fun γ hγ => by simp only [Io.ext]; rw [if_neg (by omega)]
  have key : ∀ γ p, (h ++ [o])[γ]? = some p → (γ < h.length ∧ h[γ]? = some p) ∨ (γ = h.length ∧ p = o) := by
    intro γ p hγ
    by_cases hlt : γ < h.length
    · rw [List.getElem?_append_left hlt] at hγ; exact .inl ⟨hlt, hγ⟩
    · rw [List.getElem?_append_right (by omega)] at hγ
      have : γ - h.length = 0 := by
        rcases Nat.eq_zero_or_pos (γ - h.length) with h0 | h0
        · exact h0
        · rw [List.getElem?_eq_none (by simp; omega)] at hγ; cases hγ
      rw [this] at hγ
      simp at hγ
      exact .inr ⟨by omega, hγ.symm⟩
  refine ⟨by have := hS.base; simp; omega, hS.below.grown hg hS.below.size (fun k hk => by cases hk; exact hb), ?_, ?_, ?_, ?_, ?_⟩
  · intro γ p hγ
    rcases key γ p hγ with ⟨hlt, hp⟩ | ⟨rfl, rfl⟩
    · cases hd : p with
      | dead => trivial
      | _ =>
        rw [← hd]
        have hl : p.live := by rw [hd]; trivial
        refine (hS.obj γ p hp).mono hle fun b' s' sz' hb' => hg.block b' (hS.lt hp hl hb') ?_
        intro he
        cases he
        by_cases hB : B ≤ γ
        · exact hfree γ p b s' sz' hp hl hB hb' rfl
        · have := hS.old γ p b s' sz' hp hl (by omega) hb'; omega
    · exact hob
  · intro γ p b' s' sz' hγ hl hB hι
    rcases key γ p hγ with ⟨hlt, hp⟩ | ⟨rfl, rfl⟩
    · rw [hold γ hlt] at hι; exact hS.own γ p b' s' sz' hp hl hB hι
    · rw [Io.zaK] at hι; cases hι; exact hb
  · intro γ p b' s' sz' hγ hl hB hι
    rcases key γ p hγ with ⟨hlt, hp⟩ | ⟨rfl, rfl⟩
    · rw [hold γ hlt] at hι; exact hS.old γ p b' s' sz' hp hl hB hι
    · have := hS.base; omega
  · intro γ γ' p p' b' s' sz' s'' sz'' h1 h2 h3 h4 h5 h6 h7 h8
    rcases key γ p h1 with ⟨hlt, hp⟩ | ⟨rfl, rfl⟩
    · rcases key γ' p' h2 with ⟨hlt', hp'⟩ | ⟨rfl, rfl⟩
      · rw [hold γ hlt] at h7; rw [hold γ' hlt'] at h8
        exact hS.inj γ γ' p p' b' s' sz' s'' sz'' hp hp' h3 h4 h5 h6 h7 h8
      · rw [hold γ hlt] at h7; rw [Io.zaK] at h8; cases h8
        exact absurd rfl (hfree γ p _ _ _ hp h3 h5 h7)
    · rcases key γ' p' h2 with ⟨hlt', hp'⟩ | ⟨rfl, rfl⟩
      · rw [hold γ' hlt'] at h8; rw [Io.zaK] at h7; cases h7
        exact absurd rfl (hfree γ' p' _ _ _ hp' h4 h6 h8)
      · rfl
  · intro γ x hx
    simp only [Io.ext] at hx
    split at hx
    · rename_i he; subst he; simp
    · have := hS.scope γ x hx; simp; omega
theorem Sim.change (hS : Sim P B w1 ι h w) {β b s sz : Nat} {o o' : Ob} (hβ : h[β]? = some o) (hl : o.live) (hB : B ≤ β) (hι : ι β = some (b, s, sz)) (hg : w.grownBy w' (some b))
    (hob : zqb P B w' ι β o') : Sim P B w1 ι (h.set β o') w' := by
  have hlt : β < h.length := (List.getElem?_eq_some_iff.1 hβ).1
  have key : ∀ γ p, (h.set β o')[γ]? = some p → (γ = β ∧ p = o') ∨ (γ ≠ β ∧ h[γ]? = some p) := by
    intro γ p hγ
    by_cases hc : β = γ
    · subst hc; rw [List.getElem?_set_self hlt] at hγ; cases hγ; exact .inl ⟨rfl, rfl⟩
    · rw [List.getElem?_set_ne hc] at hγ; exact .inr ⟨Ne.symm hc, hγ⟩
  have hsome : ∀ (γ : Nat) (p : Ob), (h.set β o')[γ]? = some p → p.live → ∃ p' : Ob, h[γ]? = some p' ∧ p'.live := by
    intro γ p hγ hp
    rcases key γ p hγ with ⟨rfl, rfl⟩ | ⟨_, h1⟩
    · exact ⟨o, hβ, hl⟩
    · exact ⟨p, h1, hp⟩
  have hb := hS.own β o b s sz hβ hl hB hι
  refine ⟨by simpa using hS.base, hS.below.grown hg hS.below.size (fun k hk => by cases hk; exact hb), ?_, ?_, ?_, ?_, fun γ x hx => by simpa using hS.scope γ x hx⟩
  · intro γ p hγ
    rcases key γ p hγ with ⟨rfl, rfl⟩ | ⟨hne, hp⟩
    · exact hob
    · cases hd : p with
      | dead => trivial
      | _ =>
        rw [← hd]
        have hpl : p.live := by rw [hd]; trivial
        refine (hS.obj γ p hp).mono (Io.le.refl _) fun b' s' sz' hb' => hg.block b' (hS.lt hp hpl hb') ?_
        intro he
        cases he
        by_cases hBγ : B ≤ γ
        · exact hne (hS.inj γ β p o b s' sz' s sz hp hβ hpl hl hBγ hB hb' hι)
        · have := hS.old γ p b s' sz' hp hpl (by omega) hb'; omega
  · intro γ p b' s' sz' hγ hp
    obtain ⟨p', h1, h2⟩ := hsome γ p hγ hp
    exact hS.own γ p' b' s' sz' h1 h2
  · intro γ p b' s' sz' hγ hp
    obtain ⟨p', h1, h2⟩ := hsome γ p hγ hp
    exact hS.old γ p' b' s' sz' h1 h2
  · intro γ γ' p p' b' s' sz' s'' sz'' h1 h2 h3 h4
    obtain ⟨q, g1, g2⟩ := hsome γ p h1 h3
    obtain ⟨q', g3, g4⟩ := hsome γ' p' h2 h4
    exact hS.inj γ γ' q q' b' s' sz' s'' sz'' g1 g3 g2 g4
def zaU (w : World) (o : Obj) : World := { w with heap := w.heap.push o }
theorem zdV (w : World) (o : Obj) (b : Option Nat) : w.grownBy (zaU w o) b :=
  ⟨rfl, rfl, rfl, by simp [zaU], fun k hk _ => by simp only [zaU, Array.getElem?_push]; rw [if_neg (by omega)]⟩
theorem zdq (w : World) (o : Obj) : (zaU w o).heap[w.heap.size]? = some o := by simp only [zaU, Array.getElem?_push_size]
theorem zat (w : World) (o : Obj) : Below w.heap.size w (zaU w o) :=
  ⟨rfl, rfl, rfl, by simp [zaU], fun k hk => by simp only [zaU, Array.getElem?_push]; rw [if_neg (by omega)]⟩
theorem Sim.alloc (hS : Sim P B w1 ι h w) (ob : Obj) {o : Ob} {s sz : Nat} (hob : zqb P B (zaU w ob) (ι.ext h.length (w.heap.size, s, sz)) h.length o) :
    Sim P B w1 (ι.ext h.length (w.heap.size, s, sz)) (h ++ [o]) (zaU w ob) :=
  hS.zss (zdV w ob _) hS.below.size (fun β o' b' s' sz' h1 h2 _ h4 => by have := hS.lt h1 h2 h4; omega) hob
theorem Sim.zf2 (hS : Sim P B w1 ι h w) {cs : List V} {arr : Array Value} {T : TypeId} (hL : zdP ι cs arr) :
    Sim P B w1 (ι.ext h.length (w.heap.size, 0, arr.size)) (h ++ [.blk cs]) (zaU w (.cells arr T (0, 0))) :=
  hS.alloc _ ⟨w.heap.size, 0, arr.size, arr, T, (0, 0), Io.zaK _ _ _, zdq _ _, rfl, by rw [hL.1]; omega, fun k v hk => by
    obtain ⟨u, h1, h2, h3⟩ := hL.get hk
    exact ⟨u, by rw [Nat.zero_add]; exact h1, h2.mono (hS.zci _), h3⟩, fun _ => rfl⟩
def zgU (w : World) (b : Nat) (o : Obj) : World := { w with heap := w.heap.setIfInBounds b o }
theorem zcL (w : World) (b : Nat) (o : Obj) : w.grownBy (zgU w b o) (some b) :=
  ⟨rfl, rfl, rfl, by simp [zgU], fun k _ hne => by simp only [zgU]; rw [Array.getElem?_setIfInBounds_ne (by intro he; exact hne (by rw [he]))]⟩
theorem zgs {b : Nat} (o : Obj) (hb : b < w.heap.size) : (zgU w b o).heap[b]? = some o := by simp [zgU, hb]
theorem zcB {β : Nat} {cs : List V} (h0 : zaD h β = some cs) : h[β]? = some (.blk cs) := by
  unfold zaD at h0
  split at h0
  · rename_i h1; cases h0; exact h1
  · cases h0
end
inductive DfRel (ι : Io) : Df → Deferred → Prop
  | coll (d b s sz : Nat) : ι d = some (b, s, sz) → DfRel ι (.coll d) { target := .collected b, args := #[] }
  | fn (f : Nat) (args : List V) (xs ys : Array Value) : zhG ι args (xs ++ ys) → DfRel ι (.fn f args) { target := .fn (.func f) ys, args := xs }
inductive DfsRel (ι : Io) : List Df → List Deferred → Prop
  | nil : DfsRel ι [] []
  | cons {d : Df} {e : Deferred} {ds : List Df} {es : List Deferred} : DfRel ι d e → DfsRel ι ds es → DfsRel ι (d :: ds) (e :: es)
theorem DfsRel.mono {ι ι' : Io} (h : Io.le ι ι') {ds : List Df} {es : List Deferred} (hr : DfsRel ι ds es) : DfsRel ι' ds es := by
  induction hr with
  | nil => exact .nil
  | cons h1 _ ih =>
    refine .cons ?_ ih
    cases h1 with
    | coll d b s sz h2 => exact .coll d b s sz (h _ _ h2)
    | fn f args xs ys h2 => exact .fn f args xs ys (h2.mono h)
def zbs (ι : Io) (N : Nat) (env : List V) (a : Act) : Prop := a.tmps.size = N ∧ env.length = N ∧ ∀ (k : Nat) v, env[k]? = some v → VRel ι v (a.tmps.getD k undef)
theorem zbs.mono {ι ι' : Io} (h : Io.le ι ι') {N : Nat} {env : List V} {a : Act} (hr : zbs ι N env a) : zbs ι' N env a := ⟨hr.1, hr.2.1, fun k v hk => (hr.2.2 k v hk).mono h⟩
theorem zbs.put {ι : Io} {N : Nat} {env : List V} {a : Act} (hr : zbs ι N env a) {d : Nat} {v : V} {u : Value} (hv : VRel ι v u) : zbs ι N (env.set d v) (a.put (some d) u) := by
  refine ⟨by simp [Act.put, hr.1], by simp [hr.2.1], fun k x hk => ?_⟩
  by_cases hkd : d = k
  · subst hkd
    have hd : d < env.length := by
      have := (List.getElem?_eq_some_iff.1 hk).1
      simpa using this
    have hd' : d < a.tmps.size := by rw [hr.1, ← hr.2.1]; exact hd
    rw [List.getElem?_set_self hd] at hk
    cases hk
    simp [Act.put, hd', hv]
  · rw [List.getElem?_set_ne hkd] at hk
    have := hr.2.2 k x hk
    simp only [Act.put, Array.getD_eq_getD_getElem?] at this ⊢
    rw [Array.getElem?_setIfInBounds_ne hkd]
    exact this
structure FSim (P : Program) (N B : Nat) (w1 : World) (ι : Io) (S : St) (a : Act) (w : World) : Prop where
  sim : Sim P B w1 ι S.heap w
  env : zbs ι N S.env a
  dfs : DfsRel ι S.dfs a.defers
end Go.Mx
