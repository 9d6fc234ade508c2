/-
  Contracts: try, newRun, Eval. Conditions: none.
-/
import Derived.Test.YtbjfkbkmoeibdaaEvCc8
namespace Go.Proofs.Ytbjfkbkmoeibdaa.C
open Go Go.Mx Go.Lx
set_option linter.unusedSimpArgs false
set_option linter.unusedVariables false
set_option maxRecDepth 100000
theorem has50 : mC.has 50 fn50 := ⟨rfl, fun _ _ _ => rfl⟩
theorem fns70 : mC.fns 70 = some fn70 := rfl
theorem dcall_eq (n B f : Nat) (args : List V) (pv : Option V) (h : Heap) : (mC.run (n + 1)).dcall B f args pv h = callD (mC.run n) mC.fns B f args pv h := rfl
theorem nb13 : Nat.ble 1 3 = true := rfl
theorem nb11 : Nat.ble 1 1 = true := rfl
theorem nb16 : Nat.ble 1 6 = true := rfl
theorem dcall_none (n B b : Nat) (h : Heap) : (mC.run (n + 1)).dcall B 70 [.ptr b 0] none h = some (none, h) := by
  rw [dcall_eq]
  unfold callD
  rw [fns70]
  simp [fn70, execD, exec, opsD, isRec, isRecI, wanted, St.put, quietI, q, ev, evB, resAll, undefV, List.replicate, nb13]
theorem dcall_some (n B b : Nat) (h : Heap) (t : TypeId) (u : V) (hB : B ≤ b) (hb : h[b]? = some (.blk [.lit (.int .i64 0)])) : (mC.run (n + 1)).dcall B 70 [.ptr b 0] (some (.ifc t u)) h = some (none, h.set b (.blk [.lit (.int .i64 6)])) := by
  rw [dcall_eq]
  unfold callD
  rw [fns70]
  have hbk : blkAt h b = some [.lit (.int .i64 0)] := by simp [blkAt, hb]
  simp [fn70, execD, opsD, runOps, stepO, isRec, isRecI, wanted, St.put, quietI, q, Mx.eff, ev, evB, resAll, undefV, List.replicate, V.cells, oneV, hbk, Nat.ble_eq_true_of_le hB, putAt, nb13, nb11]
theorem try_run {B : Nat} {h : Heap} {f : Nat} {us ws : List V} {Q : CR → Heap → Prop} (hB : B ≤ h.length)
    (hc : EvF mC B f (us ++ [] ++ ws) (h ++ [.blk [.lit (.int .i64 0)]]) fun cr H' => H'[h.length]? = some (.blk [.lit (.int .i64 0)]) ∧ match cr with
      | .ret v => Q (.ret (.lit (.int .i64 0))) (H'.set h.length (.blk [.lit (.int .i64 0)]))
      | .pan v => (∃ t u, v = .ifc t u) ∧ Q (.ret (.lit (.int .i64 6))) (H'.set h.length (.blk [.lit (.int .i64 6)]))) : EvF mC B 50 [.clo f us ws] h Q := by
  obtain ⟨N, cr, H', h1, h2, h3⟩ := hc
  have hbk : blkAt H' h.length = some [.lit (.int .i64 0)] := by simp [blkAt, h2]
  have hlt : h.length < H'.length := (List.getElem?_eq_some_iff.1 h2).1
  have hset : ∀ l, blkAt (H'.set h.length (.blk l)) h.length = some l := fun l => by simp [blkAt, hlt]
  rw [List.append_nil] at h1
  cases cr with
  | ret v =>
    refine ⟨N + 3, _, _, fun n hn => ?_, h3⟩
    obtain ⟨m, rfl⟩ : ∃ m, n = m + 2 := ⟨n - 2, by omega⟩
    rw [Mach.call_eq has50]
    unfold callF
    rw [has50.1]
    have hh := h1 (m + 1) (by omega)
    have hdc := dcall_none m B h.length (H'.set h.length (.blk [.lit (.int .i64 0)]))
    simp [fn50, body, exec, runOps, stepO, wanted, St.put, quietI, q, Mx.eff, ev, evs, undefV, List.replicate, V.cells, oneV, Nat.ble_eq_true_of_le hB, putAt, callV, finO, hh, hbk, fin, leave, hdc, resAll, resOne, hset, takeN, mkRes, nb11, nb16]
  | pan v =>
    obtain ⟨⟨t, u, rfl⟩, h3⟩ := h3
    refine ⟨N + 3, _, _, fun n hn => ?_, h3⟩
    obtain ⟨m, rfl⟩ : ∃ m, n = m + 2 := ⟨n - 2, by omega⟩
    rw [Mach.call_eq has50]
    unfold callF
    rw [has50.1]
    have hh := h1 (m + 1) (by omega)
    have hdc := dcall_some m B h.length H' t u hB h2
    simp [fn50, body, exec, runOps, stepO, wanted, St.put, quietI, q, Mx.eff, ev, evs, undefV, List.replicate, V.cells, oneV, Nat.ble_eq_true_of_le hB, putAt, callV, finO, hh, fin, leave, hdc, resAll, resOne, hset, takeN, mkRes, nb16]
theorem le_trans' {c c' c'' : Cx} (h : c.le c') (h' : c'.le c'') : c.le c'' where
  za b cs hb := h'.za b cs (h.za b cs hb)
  zf b cs hb := h'.zf b cs (h.zf b cs hb)
  ρ β x hx := by
    obtain ⟨x', h1, h2⟩ := h.ρ β x hx
    obtain ⟨x'', h3, h4⟩ := h'.ρ β x' h1
    exact ⟨x'', h3, h2.trans h4⟩
  apart := h'.apart
theorem one_rs {c : Cx} {v : Value} {vs : List V} (h : Rs c [.lit v] vs) : vs = [.lit v] := by
  obtain ⟨u, us, rfl, h1, h2⟩ := h.inv
  cases litR h1
  have := h2.1
  cases us with
  | nil => rfl
  | cons _ _ => simp at this
theorem lit_rs (c : Cx) (v : Value) : Rs c [.lit v] [.lit v] := (Rs.nil c).cons (.lit v)
theorem try_ok {L : List LB} {f : Nat} {first cap : List D} {Q1 Qp1 : D → List LB → Prop} (hc : CallL mC false f (first ++ [] ++ cap) (L ++ [.cells [dI 0]]) Q1 Qp1) (hq : ∀ d L', Q1 d L' → L'[L.length]? = some (.cells [dI 0]))
    (hp : ∀ d L', Qp1 d L' → (∃ t r, d = .ifc t r) ∧ L'[L.length]? = some (.cells [dI 0])) :
    CallL mC false 50 [.clo f first cap] L (fun d L' => (d = dI 0 ∧ ∃ r, Q1 r L') ∨ (d = dI 6 ∧ ∃ r L0, Qp1 r L0 ∧ L' = L0.set L.length (.cells [dI 6]))) fun _ _ => False := by
  intro c B H vs hH hB hr
  obtain ⟨v, vs', rfl, h1, h2⟩ := hr.inv
  have hvs : vs' = [] := List.eq_nil_of_length_eq_zero h2.1.symm
  subst hvs
  cases h1 with
  | clo q1 q2 q3 q4 =>
    rename_i us ws
    obtain ⟨g1, g2, g3⟩ := hH.new (x := .cell H.length) (lb := .cells [dI 0]) (o := [.blk [.lit (.int .i64 0)]]) (.inr ⟨_, rfl, rfl⟩) fun c' hle hρ => ⟨H.length, [.lit (.int .i64 0)], hρ, by simp, lit_rs _ _⟩
    show EvF mC B 50 [.clo f us ws] H _
    have hBl : B ≤ H.length := Nat.le_trans hB hH.base
    have hrs : Rs (c.put L.length (.cell H.length)) (first ++ [] ++ cap) (us ++ [] ++ ws) := (Rs.append (Rs.append ⟨q1, q3⟩ (Rs.nil _)) ⟨q2, q4⟩).mono g3
    refine try_run hBl (EvF.mono (hc _ B _ _ g1 hB hrs) ?_)
    rintro cr H' ⟨c', d, L', k1, k2, k3, k4⟩
    have key : ∀ (hL' : L'[L.length]? = some (.cells [dI 0])), c'.ρ L.length = some (.cell H.length) ∧ H'[H.length]? = some (.blk [.lit (.int .i64 0)]) := by
      intro hL'
      obtain ⟨b, vs', w1, w2, w3⟩ := k2.obj _ _ hL'
      obtain ⟨x', w4, w5⟩ := k3.ρ L.length _ (put_self c L.length (.cell H.length))
      cases w5
      rw [w4] at w1
      cases w1
      rw [one_rs w3] at w2
      exact ⟨w4, w2⟩
    have wr : ∀ (n : Int), c'.ρ L.length = some (.cell H.length) → RelH c' (L'.set L.length (.cells [dI n])) (H'.set H.length (.blk [.lit (.int .i64 n)])) ∧ Step c' H' c' (H'.set H.length (.blk [.lit (.int .i64 n)])) := fun n hρ =>
      k2.write hρ rfl fun H'' hb => ⟨H.length, _, hρ, hb, lit_rs _ _⟩
    cases cr with
    | ret v =>
      have hL' := hq d L' k4.2
      obtain ⟨w1, w2⟩ := key hL'
      obtain ⟨r1, r2⟩ := wr 0 w1
      rw [set_same hL'] at r1
      exact ⟨w2, c', dI 0, L', (g2.trans k1).trans r2, r1, le_trans' g3 k3, .lit _, .inl ⟨rfl, d, k4.2⟩⟩
    | pan v =>
      obtain ⟨⟨t, r, rfl⟩, hL'⟩ := hp d L' k4.2
      obtain ⟨w1, w2⟩ := key hL'
      obtain ⟨r1, r2⟩ := wr 6 w1
      have hv : ∃ t u, v = .ifc t u := by
        cases k4.1 with
        | ifc _ => exact ⟨_, _, rfl⟩
      exact ⟨w2, hv, c', dI 6, _, (g2.trans k1).trans r2, r1, le_trans' g3 k3, .lit _, .inr ⟨rfl, _, L', k4.2, rfl⟩⟩
end Go.Proofs.Ytbjfkbkmoeibdaa.C
