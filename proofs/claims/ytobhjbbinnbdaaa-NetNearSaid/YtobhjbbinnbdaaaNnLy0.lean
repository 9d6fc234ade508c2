/-
  Rules for what the machine does, in steps as great as one likes. Conditions: none.
-/
import Derived.Test.YtobhjbbinnbdaaaNnMxF
namespace Go.Lx
open Go Go.Mx
structure Mach where
  fns : Nat → Option Mx.Fn
  orc : Orc
def Mach.run (m : Mach) (n : Nat) : Rec := zo0 m.orc m.fns n
def Mach.has (m : Mach) (f : Nat) (fn : Mx.Fn) : Prop := m.fns f = some fn ∧ ∀ B args h, m.orc B f args h = none
theorem Mach.zkD {m : Mach} {f : Nat} {fn : Mx.Fn} (h : m.has f fn) (n B : Nat) (args : List V) (hp : zaj) : (m.run (n + 1)).call B f args hp = zga (m.run n) m.fns B f args hp := by
  show zuU (m.orc B f args hp) (zga (zo0 m.orc m.fns n) m.fns B f args hp) = _
  rw [h.2]
  rfl
section
variable (fns : Mach)
def EvC (B : Nat) (rd : Option Nat) (c : C) (S : St) (Q : Ex → St → Prop) : Prop := ∃ N ex S', (∀ n, N ≤ n → exec (fns.run n) B rd c S = some (ex, S')) ∧ Q ex S'
def EvO (B : Nat) (bar top e : Bool) (l : List O) (S : St) (Q : Ex → St → Prop) : Prop := ∃ N ex S', (∀ n, N ≤ n → zaE (fns.run n) B bar top e l S = some (ex, S')) ∧ Q ex S'
def EvF (B f : Nat) (args : List V) (h : zaj) (Q : CR → zaj → Prop) : Prop := ∃ N cr h', (∀ n, N ≤ n → (fns.run n).call B f args h = some (cr, h')) ∧ Q cr h'
end
section
variable {fns : Mach} {B : Nat} {rd : Option Nat} {bar top e : Bool} {S : St} {Q : Ex → St → Prop}
theorem EvC.mono {Q' : Ex → St → Prop} {c : C} (h : EvC fns B rd c S Q) (hq : ∀ ex S', Q ex S' → Q' ex S') : EvC fns B rd c S Q' := by
  obtain ⟨N, ex, S', h1, h2⟩ := h
  exact ⟨N, ex, S', h1, hq _ _ h2⟩
theorem EvF.mono {f : Nat} {args : List V} {h : zaj} {Q Q' : CR → zaj → Prop} (hf : EvF fns B f args h Q) (hq : ∀ cr h', Q cr h' → Q' cr h') : EvF fns B f args h Q' := by
  obtain ⟨N, cr, h', h1, h2⟩ := hf
  exact ⟨N, cr, h', h1, hq _ _ h2⟩
theorem EvO.nil (h : Q .normal S) : EvO fns B bar top e [] S Q := ⟨0, .normal, S, fun _ _ => rfl, h⟩
theorem EvO.skip {o : O} {l : List O} (hw : wanted S.env o.g = false) (h : EvO fns B bar top e l (S.put o.dst zaF) Q) : EvO fns B bar top e (o :: l) S Q := by
  obtain ⟨N, ex, S', h1, h2⟩ := h
  exact ⟨N, ex, S', fun n hn => by rw [zaE, zbT, hw]; exact h1 n hn, h2⟩
theorem EvO.quiet {o : O} {l : List O} {v : V} (hw : wanted S.env o.g = true) (hi : zah o.i = true) (hq : q S.heap S.env o.i = some v) (h : EvO fns B bar top e l (S.put o.dst v) Q) : EvO fns B bar top e (o :: l) S Q := by
  obtain ⟨N, ex, S', h1, h2⟩ := h
  refine ⟨N, ex, S', fun n hn => ?_, h2⟩
  have h3 := h1 n hn
  rw [zaE, zbT, hw]
  cases ho : o.i <;> rw [ho] at hi hq <;> first | (cases hi; done) | (simp only [zah, cond_true, hq]; exact h3)
theorem EvO.eff {o : O} {l : List O} {v : V} {hp : zaj} (hw : wanted S.env o.g = true) (hi : zah o.i = false) (hq : Mx.eff B S.heap S.env o.i = some (v, hp)) (h : EvO fns B bar top e l ({ S with heap := hp }.put o.dst v) Q) : EvO fns B bar top e (o :: l) S Q := by
  obtain ⟨N, ex, S', h1, h2⟩ := h
  refine ⟨N, ex, S', fun n hn => ?_, h2⟩
  have h3 := h1 n hn
  rw [zaE, zbT, hw]
  cases ho : o.i <;> rw [ho] at hi hq <;> first | (cases hi; done) | (cases hq; done) | (simp only [zah, cond_false, hq]; exact h3)
theorem EvO.call {o : O} {l : List O} {f : Nat} {xs : List X} {vs : List V} (hw : wanted S.env o.g = true) (hi : o.i = .call f xs) (hv : evs S.env xs = some vs)
    (h : EvF fns (bif bar then S.heap.length else B) f vs S.heap fun cr hp => match cr with | .ret v => EvO fns B bar top e l ({ S with heap := hp }.put o.dst v) Q | .pan v => Q (.panic v e) { S with heap := hp }) : EvO fns B bar top e (o :: l) S Q := by
  obtain ⟨N, cr, h', h1, h2⟩ := h
  cases cr with
  | ret v =>
    obtain ⟨N2, ex, S', h3, h4⟩ := h2
    refine ⟨max N N2, ex, S', fun n hn => ?_, h4⟩
    rw [zaE, zbT, hw, hi]
    simp only [hv, zj3, h1 n (by omega)]
    exact h3 n (by omega)
  | pan v =>
    refine ⟨N, _, _, fun n hn => ?_, h2⟩
    rw [zaE, zbT, hw, hi]
    simp only [hv, zj3, h1 n hn]
theorem EvC.reg {dr : Bool} {os : List O} (h : EvO fns B bar rd.isNone (!dr) os S Q) : EvC fns B rd (.reg dr bar os) S Q := h
theorem EvC.skip (h : Q .normal S) : EvC fns B rd .skip S Q := ⟨0, _, _, fun _ _ => rfl, h⟩
theorem EvC.label {t : Nat} (h : Q .normal S) : EvC fns B rd (.label t) S Q := ⟨0, _, _, fun _ _ => rfl, h⟩
theorem EvC.ret (h : Q .ret S) : EvC fns B rd .ret S Q := ⟨0, _, _, fun _ _ => rfl, h⟩
theorem EvC.exit {id : Nat} (h : Q (.exit id) S) : EvC fns B rd (.exit id) S Q := ⟨0, _, _, fun _ _ => rfl, h⟩
theorem EvC.seq {a b : C} (h : EvC fns B rd a S fun ex S' => match ex with | .normal => EvC fns B rd b S' Q | ex => Q ex S') : EvC fns B rd (.seq a b) S Q := by
  obtain ⟨N, ex, S', h1, h2⟩ := h
  cases ex with
  | normal =>
    obtain ⟨N2, ex, S2, h3, h4⟩ := h2
    exact ⟨max N N2, ex, S2, fun n hn => by rw [exec, h1 n (by omega)]; exact h3 n (by omega), h4⟩
  | _ => exact ⟨N, _, S', fun n hn => by rw [exec, h1 n hn], h2⟩
theorem EvC.cond {x : X} {a b : C} {t : Bool} (hx : evB S.env x = some t) (h : EvC fns B rd (bif t then a else b) S Q) : EvC fns B rd (.cond x a b) S Q := by
  obtain ⟨N, ex, S', h1, h2⟩ := h
  refine ⟨N, ex, S', fun n hn => ?_, h2⟩
  have h3 := h1 n hn
  rw [exec, hx]
  cases t <;> exact h3
theorem EvC.block {id : Nat} {c : C} (h : EvC fns B rd c S fun ex S' => match ex with | .exit id' => if id' = id then Q .normal S' else Q (.exit id') S' | ex => Q ex S') : EvC fns B rd (.block id c) S Q := by
  obtain ⟨N, ex, S', h1, h2⟩ := h
  cases ex with
  | exit id' =>
    simp only at h2
    by_cases hid : id' = id
    · rw [if_pos hid] at h2
      subst hid
      exact ⟨N, _, S', fun n hn => by rw [exec, h1 n hn]; simp, h2⟩
    · rw [if_neg hid] at h2
      have hb : (id' == id) = false := by simp [hid]
      exact ⟨N, _, S', fun n hn => by rw [exec, h1 n hn]; simp only [hb, cond_false], h2⟩
  | _ => exact ⟨N, _, S', fun n hn => by rw [exec, h1 n hn], h2⟩
theorem EvC.loop {c : C} (h : EvC fns B rd c S fun ex S' => match ex with | .normal => EvC fns B rd (.loop c) S' Q | ex => Q ex S') : EvC fns B rd (.loop c) S Q := by
  obtain ⟨N, ex, S', h1, h2⟩ := h
  cases ex with
  | normal =>
    obtain ⟨N2, ex, S2, h3, h4⟩ := h2
    refine ⟨max N (N2 + 1), ex, S2, fun n hn => ?_, h4⟩
    rw [exec, h1 n (by omega)]
    obtain ⟨m, rfl⟩ : ∃ m, n = m + 1 := ⟨n - 1, by omega⟩
    exact h3 m (by omega)
  | _ => exact ⟨N, _, S', fun n hn => by rw [exec, h1 n hn], h2⟩
def Leaves (B : Nat) (dfs : List Df) (H H' : zaj) : Prop := ∀ r pv, leave r B pv dfs H = some (pv, H')
def zgi (n : Nat) (dfs : List Df) (H : zaj) : Prop := ∃ l : List Nat, dfs = l.map .coll ∧ l.Nodup ∧ ∀ d ∈ l, n ≤ d ∧ H[d]? = some .dfr
theorem zgi.nil (n : Nat) (H : zaj) : zgi n [] H := ⟨[], rfl, List.nodup_nil, fun d h => (by cases h)⟩
theorem zgi.leaves {n B : Nat} (hB : B ≤ n) {dfs : List Df} {H : zaj} (h : zgi n dfs H) : ∃ H', Leaves B dfs H H' ∧ H'.length = H.length ∧ (∀ b : Nat, H[b]? ≠ some Ob.dfr → H'[b]? = H[b]?) ∧ ∀ b : Nat, b < n → H'[b]? = H[b]? := by
  obtain ⟨l, rfl, hn, hd⟩ := h
  induction l generalizing H with
  | nil => exact ⟨H, fun _ _ => rfl, rfl, fun _ _ => rfl, fun _ _ => rfl⟩
  | cons d l ih =>
    obtain ⟨h1, h2⟩ := List.nodup_cons.1 hn
    obtain ⟨g1, g2⟩ := hd d (by simp)
    obtain ⟨H', k1, k2, k3, k4⟩ := ih (H := H.set d .dead) h2 fun e he => ⟨(hd e (by simp [he])).1, by
      rw [List.getElem?_set_ne (fun hde => h1 (by rw [hde]; exact he))]; exact (hd e (by simp [he])).2⟩
    refine ⟨H', fun r pv => ?_, by simpa using k2, fun b hb => ?_, fun b hb => ?_⟩
    · simp only [List.map_cons, leave, g2, Nat.ble_eq_true_of_le (Nat.le_trans hB g1), cond_true]
      exact k1 r pv
    · have hne : d ≠ b := by rintro rfl; exact hb g2
      rw [k3 b (by rw [List.getElem?_set_ne hne]; exact hb), List.getElem?_set_ne hne]
    · rw [k4 b hb, List.getElem?_set_ne (by omega)]
theorem EvF.pure {f : Nat} {fn : Mx.Fn} {args : List V} {h : zaj} {v : V} (hf : fns.has f fn) (hp : fn.p = true) (hN : args.length ≤ fn.N) (hB : B ≤ h.length) (hv : v.plain = true)
    (hb : EvC fns h.length none fn.c ⟨args ++ List.replicate (fn.N - args.length) zaF, [], h⟩ fun ex S' => (ex = .ret ∨ ex = .normal) ∧ ∃ H', Leaves h.length S'.dfs S'.heap H' ∧ (zbK H' S'.env fn.rs).map zeL = some v) :
    EvF fns B f args h fun cr h' => cr = .ret v ∧ h' = h := by
  obtain ⟨N, ex, S', h1, h2, H', h3, h4⟩ := hb
  refine ⟨N + 1, _, _, fun n hn => ?_, rfl, rfl⟩
  obtain ⟨m, rfl⟩ : ∃ m, n = m + 1 := ⟨n - 1, by omega⟩
  have h5 := h1 m (by omega)
  rw [Mach.zkD hf]
  unfold zga
  rw [hf.1]
  simp only [hp, cond_true, Nat.ble_eq_true_of_le hB, body, Nat.ble_eq_true_of_le hN, h5]
  cases hx : zbK H' S'.env fn.rs with
  | none => rw [hx] at h4; cases h4
  | some vs =>
    rw [hx] at h4
    simp only [Option.map_some, Option.some.injEq] at h4
    rcases h2 with rfl | rfl <;> simp [fin, h3 _ _, hx, h4, forget, hv]
theorem EvF.plain {f : Nat} {fn : Mx.Fn} {args : List V} {h : zaj} {Q : CR → zaj → Prop} (hf : fns.has f fn) (hp : fn.p = false) (hN : args.length ≤ fn.N)
    (hb : EvC fns B none fn.c ⟨args ++ List.replicate (fn.N - args.length) zaF, [], h⟩ fun ex S' => (ex = .ret ∨ ex = .normal) ∧ ∃ H', Leaves B S'.dfs S'.heap H' ∧ ∃ vs, zbK H' S'.env fn.rs = some vs ∧ Q (.ret (zeL vs)) H') :
    EvF fns B f args h Q := by
  obtain ⟨N, ex, S', h1, h2, H', h3, vs, h4, h6⟩ := hb
  refine ⟨N + 1, _, _, fun n hn => ?_, h6⟩
  obtain ⟨m, rfl⟩ : ∃ m, n = m + 1 := ⟨n - 1, by omega⟩
  have h5 := h1 m (by omega)
  rw [Mach.zkD hf]
  unfold zga
  rw [hf.1]
  simp only [hp, cond_false, body, Nat.ble_eq_true_of_le hN, h5, cond_true]
  rcases h2 with rfl | rfl <;> simp [fin, h3 _ _, h4]
end
end Go.Lx
