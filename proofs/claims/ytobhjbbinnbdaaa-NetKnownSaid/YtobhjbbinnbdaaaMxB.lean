/-
  Regions that draw their order: what makes a block may come up ahead. Conditions: none.
-/
import Derived.Test.YtobhjbbinnbdaaaMx11
import Derived.Test.YtobhjbbinnbdaaaMxA
namespace Go.Mx
open Go Go.RowKit
set_option linter.unusedSimpArgs false
set_option linter.unusedVariables false

section
variable {P : Program} {B N : Nat} {w1 w : World} {ι : Io} {S S' : St} {a : Act} {r : Rec} {ops : Array Oper} {rd rb : Option Nat} {Q : Exit → Act → World → Prop} {ex : Ex} {bar e : Bool} {Sx : World → Prop}

/-- One operation 'oj', apart from 'oi': the value of 'oi' may already be in its temporary. -/
theorem wpOpIn_putOut {j : Nat} {oi oj : Oper} {u : Value} (hj : ops[j]? = some oj) (hap : oi.apart ops oj = true) (hsj : ∀ cs b, oj.op ≠ .select cs b) (hdj : ∀ c, oj.op ≠ .defer c)
    (hQ : ∀ c a w, Q (.panic c) a w → Q (.panic c) (a.put oi.dst u) w) {K : Act → World → Prop} {a : Act} {w : World}
    (h : wpOpIn (FW rb) 0 P ops Q j K a w) : wpOpIn (FW rb) 0 P ops Q j (fun a' w' => ∃ a'', a' = a''.put oi.dst u ∧ K a'' w') (a.put oi.dst u) w := by
  obtain ⟨h1, h2, h3⟩ := Oper.apart_spec hap
  unfold wpOpIn at *
  simp only [hj] at *
  rw [wanted_put oj a oi.dst u h1]
  split
  · rename_i hw
    simp only [hw, if_true] at h
    refine ⟨fun _ _ => trivial, ?_⟩
    have h := h.2
    rw [Oper.semAt_eq _ _ oj hdj] at h
    rw [Oper.semAt_eq _ _ oj hdj, execOp_put oj hsj a oi.dst u h1]
    generalize (execOp a.eval oj).run P w = res at *
    cases res with
    | ok x w' =>
      cases x <;> simp only [Oper.uponIn] at h ⊢
      case value v => exact ⟨_, Act.put_comm a u v h2, h⟩
      case skip => exact ⟨_, Act.put_comm a u undef h2, h⟩
      case defer d =>
        refine ⟨_, ?_, h⟩
        rw [Act.put_defers]
        exact Act.put_comm _ u undef h2
      case enter f args =>
        refine ⟨h.1, CallsIn.mono h.2 fun e w'' he => ?_⟩
        cases e with
        | returned v => exact ⟨_, Act.put_comm a u v h2, he⟩
        | panicked c => exact hQ _ _ _ he
        | outgrown => exact he
      case row row args => exact ⟨h.1, RowsIn.mono h.2 fun v w'' he => ⟨_, Act.put_comm a u v h2, he⟩⟩
      case round l f tmps assign body =>
        refine ⟨h.1, RoundIn.mono h.2 fun e w'' he => ?_⟩
        cases e with
        | returned v => exact ⟨_, Act.put_comm a u v h2, he⟩
        | panicked c => exact hQ _ _ _ he
        | outgrown => exact he
    | halt x w' =>
      cases x <;> simp only [Oper.uponIn] at h ⊢
      case panic v => exact hQ _ _ _ h
  · rename_i hw
    simp only [hw] at h
    exact ⟨fun _ _ => trivial, _, Act.put_comm a u undef h2, h.2⟩

/-- What has come up ahead: which operation, the block, the value. -/
abbrev Pen := List (Nat × Option Nat × Value)
def dstO (ops : Array Oper) (y : Nat) : Option Tmp := (ops[y]?).bind (·.dst)
theorem dstO_eq {y : Nat} {oy : Oper} (h : ops[y]? = some oy) : dstO ops y = oy.dst := by simp [dstO, h]
def putsY (ops : Array Oper) : Pen → Act → Act
  | [], a => a
  | p :: Y, a => (putsY ops Y a).put (dstO ops p.1) p.2.2
def setY : Pen → Array Bool → Array Bool
  | [], M => M
  | p :: Y, M => (setY Y M).setIfInBounds p.1 true
/-- Apart from all that has come up ahead. -/
def ApY (ops : Array Oper) (Y : Pen) (oj : Oper) : Prop := ∀ p ∈ Y, ∃ oy, ops[p.1]? = some oy ∧ oy.apart ops oj = true
theorem putsY_put {oj : Oper} {v : Value} : ∀ (Y : Pen) (a : Act), ApY ops Y oj → (putsY ops Y a).put oj.dst v = putsY ops Y (a.put oj.dst v)
  | [], a, _ => rfl
  | p :: Y, a, h => by
    obtain ⟨oy, h1, h2⟩ := h p (by simp)
    obtain ⟨g1, g2, g3⟩ := Oper.apart_spec h2
    simp only [putsY, dstO_eq h1]
    rw [Act.put_comm _ p.2.2 v g2, putsY_put Y a fun q hq => h q (by simp [hq])]
theorem putsY_exec {oj : Oper} (hs : ∀ cs b, oj.op ≠ .select cs b) : ∀ (Y : Pen) (a : Act), ApY ops Y oj → execOp (putsY ops Y a).eval oj = execOp a.eval oj
  | [], a, _ => rfl
  | p :: Y, a, h => by
    obtain ⟨oy, h1, h2⟩ := h p (by simp)
    obtain ⟨g1, g2, g3⟩ := Oper.apart_spec h2
    simp only [putsY, dstO_eq h1]
    rw [execOp_put oj hs _ oy.dst p.2.2 g1, putsY_exec hs Y a fun q hq => h q (by simp [hq])]
theorem putsY_wanted {oj : Oper} : ∀ (Y : Pen) (a : Act), ApY ops Y oj → Region.wanted oj (yielded ops (putsY ops Y a).tmps) = Region.wanted oj (yielded ops a.tmps)
  | [], a, _ => rfl
  | p :: Y, a, h => by
    obtain ⟨oy, h1, h2⟩ := h p (by simp)
    obtain ⟨g1, g2, g3⟩ := Oper.apart_spec h2
    simp only [putsY, dstO_eq h1]
    rw [wanted_put oj _ oy.dst p.2.2 g1, putsY_wanted Y a fun q hq => h q (by simp [hq])]
theorem wpOpIn_out {j : Nat} {oj : Oper} (hj : ops[j]? = some oj) (hsj : ∀ cs b, oj.op ≠ .select cs b) (hdj : ∀ c, oj.op ≠ .defer c) (hQ : ∀ (d : Option Tmp) u c a w, Q (.panic c) a w → Q (.panic c) (a.put d u) w) {K : Act → World → Prop} :
    ∀ (Y : Pen) (a : Act), ApY ops Y oj → wpOpIn (FW rb) 0 P ops Q j K a w → wpOpIn (FW rb) 0 P ops Q j (fun a' w' => ∃ a'', a' = putsY ops Y a'' ∧ K a'' w') (putsY ops Y a) w
  | [], a, _, h => wpOpIn_mono (fun a' w' hk => ⟨a', rfl, hk⟩) h
  | p :: Y, a, hap, h => by
    obtain ⟨oy, h1, h2⟩ := hap p (by simp)
    have := wpOpIn_out hj hsj hdj hQ Y a (fun q hq => hap q (by simp [hq])) h
    have := wpOpIn_putOut (u := p.2.2) hj h2 hsj hdj (fun c a w => hQ _ _ c a w) this
    simp only [putsY, dstO_eq h1]
    refine wpOpIn_mono ?_ this
    rintro a' w' ⟨a1, rfl, a2, rfl, hk⟩
    exact ⟨a2, by simp only [putsY, dstO_eq h1], hk⟩

/-- What is known of a thing that has come up ahead of the machine. -/
structure PenOk (P : Program) (ops : Array Oper) (B : Nat) (a : Act) (w w1 : World) (ι : Io) (h : Heap) (M : Array Bool) (p : Nat × Option Nat × Value) : Prop where
  ready : p.1 ∈ Region.ready .any ops M
  al : alI (irAt P ops p.1) = true
  free : ∀ oy, ops[p.1]? = some oy → ∀ j oj, ops[j]? = some oj → j ≠ p.1 → M.getD j true = false → (∀ e ∈ oj.after, Region.binds .any e = true → e.on ≠ p.1) → oy.apart ops oj = true
  made : ∃ oy, ops[p.1]? = some oy ∧ ((Region.wanted oy (yielded ops a.tmps) = true ∧ ∃ b mk arr T, p.2.1 = some b ∧ Makes P oy a mk arr T ∧ p.2.2 = mk b ∧ w.heap[b]? = some (.cells arr T (0, 0)) ∧ w1.heap.size ≤ b ∧
      ∀ β o b' s sz, h[β]? = some o → o.live → B ≤ β → ι β = some (b', s, sz) → b' ≠ b) ∨ (Region.wanted oy (yielded ops a.tmps) = false ∧ p.2.1 = none ∧ p.2.2 = undef))
theorem ready_mono' {M : Array Bool} {i j : Nat} (h : j ∈ Region.ready .any ops M) (hne : j ≠ i) : j ∈ Region.ready .any ops (M.setIfInBounds i true) := ready_mono h hne
/-- A step of something else. -/
theorem PenOk.step {M : Array Bool} {p : Nat × Option Nat × Value} {h h' : Heap} {ι' : Io} {w' : World} (hp : PenOk P ops B a w w1 ι h M p) {j : Nat} {oj : Oper} (hj : ops[j]? = some oj) (hjr : j ∈ Region.ready .any ops M) (hne : j ≠ p.1) (hsel : ∀ (j : Nat) (o : Oper) cs b, ops[j]? = some o → o.op ≠ .select cs b)
    {u : Value} {ds : List Deferred} (hb : ∀ b, p.2.1 = some b → b < w.heap.size → (∀ β o b' s sz, h[β]? = some o → o.live → B ≤ β → ι β = some (b', s, sz) → b' ≠ b) → w'.heap[b]? = w.heap[b]?)
    (hfr : ∀ b, p.2.1 = some b → b < w.heap.size → (∀ β o b' s sz, h[β]? = some o → o.live → B ≤ β → ι β = some (b', s, sz) → b' ≠ b) → ∀ β o b' s sz, h'[β]? = some o → o.live → B ≤ β → ι' β = some (b', s, sz) → b' ≠ b) :
    PenOk P ops B (({ a with defers := ds } : Act).put oj.dst u) w' w1 ι' h' (M.setIfInBounds j true) p := by
  obtain ⟨oy, hoy, hm⟩ := hp.made
  obtain ⟨hju, oj', hoj', hall⟩ := mem_ready.1 hjr
  have : oj' = oj := Option.some.inj (hoj'.symm.trans hj)
  subst this
  have hjun : M.getD j true = false := hju
  have hpu := (mem_ready.1 hp.ready).1
  have hno : ∀ e ∈ oj'.after, Region.binds .any e = true → e.on ≠ p.1 := fun e he hb' heq => by
    have h1 := hall e he hb'
    rw [heq] at h1
    rcases Nat.lt_or_ge p.1 M.size with h2 | h2
    · simp [h2] at h1 hpu; rw [h1] at hpu; cases hpu
    · simp [Array.getElem?_eq_none h2] at h1
  have hap := hp.free oy hoy j oj' hj hne hjun hno
  obtain ⟨g1, g2, g3⟩ := Oper.apart_spec hap
  have hex : execOp (({ a with defers := ds } : Act).put oj'.dst u).eval oy = execOp a.eval oy := by
    rw [execOp_put oy (fun cs b => hsel p.1 oy cs b hoy) _ oj'.dst u g3]
    rfl
  have hwa : Region.wanted oy (yielded ops (({ a with defers := ds } : Act).put oj'.dst u).tmps) = Region.wanted oy (yielded ops a.tmps) := by
    rw [wanted_put oy _ oj'.dst u g3]
  refine ⟨ready_mono' hp.ready (Ne.symm hne), hp.al, fun oy' hoy' k ok hk hkp hun hno' => hp.free oy' hoy' k ok hk hkp ?_ hno', oy, hoy, ?_⟩
  · by_cases hjk : j = k
    · subst hjk; exact hjun
    · rw [getD_set_ne true hjk] at hun; exact hun
  · rw [hwa]
    rcases hm with ⟨h1, b, mk, arr, T, h2, h3, h4, h5, h6, h7⟩ | h1
    · have hlt : b < w.heap.size := (Array.getElem?_eq_some_iff.1 h5).1
      refine .inl ⟨h1, b, mk, arr, T, h2, fun w0 => ?_, h4, by rw [hb b h2 hlt h7]; exact h5, h6, hfr b h2 hlt h7⟩
      rw [hex]
      exact h3 w0
    · exact .inr h1
end
end Go.Mx
