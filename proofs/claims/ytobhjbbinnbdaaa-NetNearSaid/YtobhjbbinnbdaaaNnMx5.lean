/-
  Slices of slices, struct literals; all operations that leave the world alone. Conditions: none.
-/
import Derived.Test.YtobhjbbinnbdaaaNnMx4
namespace Go.Mx
open Go Go.RowKit
section
variable {P : Program} {B N : Nat} {w1 w : World} {ι : Io} {h : zaj} {env : List V} {a : Act}
def OIs (v : Option Value) (i : Option Int) : Prop := (v = none ∧ i = none) ∨ ∃ n k, v = some (.int k n) ∧ i = some n
theorem zl6 (hE : zbs ι N env a) {x : Option Operand} {m : Option Int} (hx : zmi env (x.map opX) = some m) : OIs (x.map a.eval) m := by
  rcases zlX hE hx with ⟨rfl, rfl⟩ | ⟨y, n, k, rfl, rfl, hk⟩
  · exact .inl ⟨rfl, rfl⟩
  · exact .inr ⟨n, k, by simp [hk], rfl⟩
theorem zbq {k : IntKind} {n : Int} {y : Nat} {code : BoundsCode} (h0 : 0 ≤ n) (h1 : n ≤ y) (w' : World) : (Instr.sliceBound (.int k n) y code).run P w' = .ok n.toNat w' := by
  simp [Instr.sliceBound, asIntOf, h0, h1]
theorem zb3 {isSl : Bool} {len cap' : Nat} {cap : Option Nat} (hcap : ∀ c, cap = some c → c = cap') (hlen : len ≤ cap') {lo hi mx : Option Int} {vlo vhi vmx : Option Value} (h1 : OIs vlo lo) (h2 : OIs vhi hi) (h3 : OIs vmx mx)
    {l hh : Nat} {c : Option Nat} (hb : bounds len cap lo hi mx = some (l, hh, c)) :
    ∃ m, (∀ w', (Instr.sliceBounds isSl len cap' vlo vhi vmx).run P w' = .ok (l, hh, m) w') ∧ l ≤ hh ∧ hh ≤ m ∧ m ≤ cap' ∧ (∀ x, c = some x → x = m - l) ∧ (c = none → m = cap' ∧ cap = none) := by
  unfold bounds at hb
  have htop : zdR len cap ≤ cap' := by
    cases cap with
    | none => simp [zdR]; exact hlen
    | some c => simp [zdR, hcap c rfl]
  generalize zdR len cap = top at hb htop
  rcases h3 with ⟨rfl, rfl⟩ | ⟨m, km, rfl, rfl⟩
  · cases hc : decide (0 ≤ lo.getD 0) && decide (lo.getD 0 ≤ hi.getD len) && decide (hi.getD len ≤ top) with
    | false => simp only [hc, cond_false] at hb; cases hb
    | true =>
      simp only [hc, cond_true, Option.some.injEq, Prod.mk.injEq] at hb
      simp only [Bool.and_eq_true, decide_eq_true_eq] at hc
      obtain ⟨⟨g0, g1⟩, g2⟩ := hc
      obtain ⟨rfl, rfl, rfl⟩ := hb
      refine ⟨cap', fun w' => ?_, by omega, by omega, Nat.le_refl _, fun x hx => ?_, fun hcn => ⟨rfl, by cases cap with | none => rfl | some y => simp at hcn⟩⟩
      · rcases h2 with ⟨rfl, rfl⟩ | ⟨n, k, rfl, rfl⟩
        · simp only [Option.getD_none] at *
          rcases h1 with ⟨rfl, rfl⟩ | ⟨nl, kl, rfl, rfl⟩
          · simp [Instr.sliceBounds]
          · simp only [Option.getD_some] at *
            have hl := zbq (P := P) (k := kl) (n := nl) (y := len) (code := if (none : Option Value).isSome = true then BoundsCode.slice3C else .sliceB) (by omega) (by omega) w'
            simp only [Instr.sliceBounds, Sem.run_bind, Sem.run_pure, Result.andThen_ok, hl, Int.toNat_natCast]
        · simp only [Option.getD_some] at *
          have hh := zbq (P := P) (k := k) (n := n) (y := cap') (code := if isSl = true then BoundsCode.sliceAcap else .sliceAlen) (by omega) (by omega) w'
          rcases h1 with ⟨rfl, rfl⟩ | ⟨nl, kl, rfl, rfl⟩
          · simp only [Instr.sliceBounds, Sem.run_bind, Sem.run_pure, Result.andThen_ok, hh, Option.getD_none, Int.toNat_zero]
          · simp only [Option.getD_some] at *
            have hl := zbq (P := P) (k := kl) (n := nl) (y := n.toNat) (code := if (none : Option Value).isSome = true then BoundsCode.slice3C else .sliceB) (by omega) (by omega) w'
            simp only [Instr.sliceBounds, Sem.run_bind, Sem.run_pure, Result.andThen_ok, hh, hl]
      · simp only [Option.map_eq_some_iff] at hx
        obtain ⟨y, hy, rfl⟩ := hx
        rw [hcap y hy]
  · cases hc : hi.isSome && decide (0 ≤ lo.getD 0) && decide (lo.getD 0 ≤ hi.getD len) && decide (hi.getD len ≤ m) && decide (m ≤ top) with
    | false => simp only [hc, cond_false] at hb; cases hb
    | true =>
      simp only [hc, cond_true, Option.some.injEq, Prod.mk.injEq] at hb
      simp only [Bool.and_eq_true, decide_eq_true_eq] at hc
      obtain ⟨⟨⟨⟨gs, g0⟩, g1⟩, g2⟩, g3⟩ := hc
      obtain ⟨rfl, rfl, rfl⟩ := hb
      refine ⟨m.toNat, fun w' => ?_, by omega, by omega, by omega, fun x hx => by cases hx; rfl, fun hcn => by cases hcn⟩
      rcases h2 with ⟨rfl, rfl⟩ | ⟨n, k, rfl, rfl⟩
      · simp at gs
      · simp only [Option.getD_some] at *
        have hm := zbq (P := P) (k := km) (n := m) (y := cap') (code := if isSl = true then BoundsCode.slice3Acap else .slice3Alen) (by omega) (by omega) w'
        have hh := zbq (P := P) (k := k) (n := n) (y := m.toNat) (code := BoundsCode.slice3B) (by omega) (by omega) w'
        rcases h1 with ⟨rfl, rfl⟩ | ⟨nl, kl, rfl, rfl⟩
        · simp only [Instr.sliceBounds, Sem.run_bind, Sem.run_pure, Result.andThen_ok, hm, hh, Option.getD_none, Int.toNat_zero]
        · simp only [Option.getD_some] at *
          have hl := zbq (P := P) (k := kl) (n := nl) (y := n.toNat) (code := if (some (Value.int km m)).isSome = true then BoundsCode.slice3C else .sliceB) (by omega) (by omega) w'
          simp only [Instr.sliceBounds, Sem.run_bind, Sem.run_pure, Result.andThen_ok, hm, hh, hl]
theorem znk {β o n l hh m : Nat} {c : Option Nat} {b s sz cap' : Nat} (hι : ι β = some (b, s, sz)) (h1 : s + o + cap' * n ≤ sz) (h3 : cap' < 2 ^ 63) (hn : 0 < n) (hl : l ≤ hh) (hm : hh ≤ m) (hc : m ≤ cap') (hx : ∀ x, c = some x → x = m - l) (h7 : c = none → m = cap' ∧ sz ≤ s + o + cap' * n) :
    VRel ι (.sl β (o + l * n) n (hh - l) c) (.slice (if m = l then some ⟨b, s + o, none⟩ else (some ⟨b, s + o, none⟩ : Option Addr).map (·.add (l * n))) (hh - l) (m - l)) := by
  by_cases hml : m = l
  · rw [if_pos hml]
    have e1 : hh - l = 0 := by omega
    have e2 : m - l = 0 := by omega
    rw [e1, e2]
    exact .sl0 _ _ _ _ _ hn (fun x hx' => by rw [hx x hx']; exact e2) fun hcn => ⟨b, s, sz, hι, by obtain ⟨g1, g2⟩ := h7 hcn; subst hml; subst g1; omega⟩
  · rw [if_neg hml]
    simp only [Option.map_some, zcr]
    rw [Nat.add_assoc]
    have hml2 : (m - l) * n + l * n = m * n := by rw [← Nat.add_mul]; congr 1; omega
    refine .sl _ _ _ _ _ b s sz _ hι ?_ (by omega) (by omega) hn hx fun hcn => ?_
    · have : (m - l) * n + l * n ≤ cap' * n := by rw [← Nat.add_mul]; exact Nat.mul_le_mul_right n (by omega)
      omega
    · obtain ⟨g1, g2⟩ := h7 hcn
      subst g1
      omega
theorem zvk (hS : Sim P B w1 ι h w) (hE : zbs ι N env a) {o : Oper} {t el : TypeId} {x : Operand} {lo hi mx : Option Operand} (ho : o.op = .slice t x lo hi mx) (hs : P.underlying t = some (.slice el)) (ht : zb0 P el = true) {v : V}
    (hq : q h env (.slc (P.cellsOf el) (opX x) (lo.map opX) (hi.map opX) (mx.map opX)) = some v) : QOk P ι a w o v := by
  simp only [zb0, Bool.and_eq_true] at ht
  simp only [q] at hq
  split at hq
  · rename_i v1 l1 hh1 m1 hx1 hl1 hh2 hm1
    have hx := zac hE hx1
    have g1 := zl6 hE hl1
    have g2 := zl6 hE hh2
    have g3 := zl6 hE hm1
    generalize hu0 : a.eval x = u0 at hx
    have hrun : ∀ (ad : Option Addr) (len cap' l hh m : Nat), u0 = .slice ad len cap' → (∀ w', (Instr.sliceBounds true len cap' (lo.map a.eval) (hi.map a.eval) (mx.map a.eval)).run P w' = .ok (l, hh, m) w') →
        ∀ w' : World, (execOp a.eval o).run P w' = .ok (.value (.slice (if m = l then ad else ad.map (·.add (l * P.cellsOf el))) (hh - l) (m - l))) w' := by
      intro ad len cap' l hh m hb hB w'
      simp [execOp, ho, Instr.sliceAt, zae hs, Instr.slice, hu0, hb, hB, zar ht.1]
    cases hsv : zoc (P.cellsOf el) l1 hh1 m1 v1 with
    | some r0 =>
      rw [zjl hsv] at hq
      cases hq
      replace hq := hsv
      unfold zoc at hq
      split at hq
      · rename_i β off n' len cap
        cases hb : (P.cellsOf el == n') with
        | false => simp only [hb, cond_false] at hq; cases hq
        | true =>
          simp only [hb, cond_true, Option.map_eq_some_iff, Prod.exists] at hq
          obtain ⟨l, hh, c, hbd, rfl⟩ := hq
          have hn : P.cellsOf el = n' := by simpa using hb
          subst hn
          cases hx with
          | sl _ _ _ _ _ b s sz cap' hι k1 k2 k3 k4 k5 k6 =>
            obtain ⟨m, r1, r2, r3, r4, r5, r6⟩ := zb3 (P := P) (isSl := true) k5 k2 g1 g2 g3 hbd
            exact ⟨_, fun w' _ => hrun _ _ _ _ _ _ rfl r1 w', znk hι k1 k3 k4 r2 r3 r4 r5 fun hcn => ⟨(r6 hcn).1, k6 (r6 hcn).2⟩⟩
          | sl0 _ _ _ _ ad k4 k5 k6 =>
            obtain ⟨m, r1, r2, r3, r4, r5, r6⟩ := zb3 (P := P) (isSl := true) k5 (Nat.le_refl 0) g1 g2 g3 hbd
            refine ⟨_, fun w' _ => hrun _ _ _ _ _ _ rfl r1 w', ?_⟩
            have e0 : m = l := by omega
            have e1 : hh - l = 0 := by omega
            have e2 : m - l = 0 := by omega
            rw [if_pos e0, e1, e2]
            exact .sl0 _ _ _ _ _ k4 (fun x hx' => by rw [r5 x hx']; exact e2) fun hcn => by obtain ⟨b, s, sz, g1, g2⟩ := k6 (r6 hcn).2; exact ⟨b, s, sz, g1, by omega⟩
      · simp only [Option.map_eq_some_iff, Prod.exists] at hq
        obtain ⟨l, hh, c, hbd, rfl⟩ := hq
        have hx' := hx.zbL
        obtain ⟨m, r1, r2, r3, r4, r5, _⟩ := zb3 (P := P) (isSl := true) (cap' := 0) (by simp) (Nat.le_refl 0) g1 g2 g3 hbd
        refine ⟨_, fun w' _ => hrun _ _ _ _ _ _ hx' r1 w', ?_⟩
        have e0 : m = l := by omega
        have e1 : hh - l = 0 := by omega
        have e2 : m - l = 0 := by omega
        rw [if_pos e0, e1, e2]
        exact .lit _
      · cases hq
    | none =>
      unfold ztG at hq
      rw [hsv] at hq
      simp only at hq
      unfold zos at hq
      split at hq
      · rename_i β off n' len
        split at hq
        · rename_i x0 cs hcs
          cases hb : (P.cellsOf el == n') && decide (0 ≤ l1.getD 0) && decide (l1.getD 0 ≤ x0) && Nat.ble (off + x0.toNat * P.cellsOf el) cs.length with
          | false => simp only [hb, cond_false] at hq; cases hq
          | true =>
            simp only [hb, cond_true, Option.some.injEq] at hq
            subst hq
            simp only [Bool.and_eq_true, decide_eq_true_eq, beq_iff_eq] at hb
            obtain ⟨⟨⟨hn, b1⟩, b2⟩, b3⟩ := hb
            have b3 := Nat.le_of_ble_eq_true b3
            subst hn
            obtain ⟨b0, s0, sz0, arr0, T0, fr0, q1, q2, q3, q4, q5, q6⟩ := hS.cells hcs
            have hlen : ∀ cap', len ≤ cap' → x0.toNat ≤ cap' → bounds len (some cap') l1 (some x0) none = some ((l1.getD 0).toNat, x0.toNat, some (cap' - (l1.getD 0).toNat)) := by
              intro cap' _ hx0
              have b4 : x0 ≤ (cap' : Int) := by omega
              simp [bounds, zdR, b1, b2, b4]
            cases hx with
            | sl _ _ _ _ _ b s sz cap' hι k1 k2 k3 k4 k5 k6 =>
              have q1' : some (b, s, sz) = some (b0, s0, sz0) := hι.symm.trans q1
              simp only [Option.some.injEq, Prod.mk.injEq] at q1'
              obtain ⟨rfl, rfl, rfl⟩ := q1'
              have g4 := k6 rfl
              have hx0 : x0.toNat ≤ cap' := by
                refine Nat.le_of_mul_le_mul_right ?_ k4
                omega
              obtain ⟨m, r1, r2, r3, r4, r5, r6⟩ := zb3 (P := P) (isSl := true) (cap := some cap') (fun c hc => by cases hc; rfl) k2 g1 g2 g3 (hlen cap' k2 hx0)
              have r7 := r5 _ rfl
              exact ⟨_, fun w' _ => hrun _ _ _ _ _ _ rfl r1 w', znk hι k1 k3 k4 r2 r3 r4 (fun y hy => by cases hy) fun _ => ⟨by omega, g4⟩⟩
            | sl0 _ _ _ _ ad k4 k5 k6 =>
              obtain ⟨b, s, sz, g5, g6⟩ := k6 rfl
              have q1' : some (b, s, sz) = some (b0, s0, sz0) := g5.symm.trans q1
              simp only [Option.some.injEq, Prod.mk.injEq] at q1'
              obtain ⟨rfl, rfl, rfl⟩ := q1'
              have hx0 : x0.toNat ≤ 0 := by
                refine Nat.le_of_mul_le_mul_right ?_ k4
                omega
              obtain ⟨m, r1, r2, r3, r4, r5, r6⟩ := zb3 (P := P) (isSl := true) (cap := some 0) (fun c hc => by cases hc; rfl) (Nat.le_refl 0) g1 g2 g3 (hlen 0 (Nat.le_refl 0) hx0)
              refine ⟨_, fun w' _ => hrun _ _ _ _ _ _ rfl r1 w', ?_⟩
              have e0 : m = (l1.getD 0).toNat := by omega
              have e1 : x0.toNat - (l1.getD 0).toNat = 0 := by omega
              have e2 : m - (l1.getD 0).toNat = 0 := by omega
              rw [if_pos e0, e1, e2]
              exact .sl0 _ _ _ _ _ k4 (fun y hy => by cases hy) fun _ => ⟨b, s, sz, g5, by omega⟩
        · cases hq
      · cases hq
  · cases hq
theorem zti (hS : Sim P B w1 ι h w) (hE : zbs ι N env a) {o : Oper} {t el : TypeId} {cnt : Nat} {x : Operand} {lo hi mx : Option Operand} (ho : o.op = .slice t x lo hi mx) (hs : P.underlying t = some (.array cnt el)) (ht : zb0 P el = true) {v : V}
    (hq : q h env (.slcA (P.cellsOf el) cnt (opX x) (lo.map opX) (hi.map opX) (mx.map opX)) = some v) : QOk P ι a w o v := by
  simp only [zb0, Bool.and_eq_true] at ht
  simp only [q] at hq
  split at hq
  · rename_i β off l1 hh1 m1 hx1 hl1 hh2 hm1
    cases hb : Nat.blt 0 (P.cellsOf el) && Nat.blt cnt (2 ^ 63) && zu2 h β (off + cnt * P.cellsOf el) with
    | false => simp only [hb, cond_false] at hq; cases hq
    | true =>
      simp only [hb, cond_true, Option.map_eq_some_iff, Prod.exists] at hq
      obtain ⟨l, hh, c, hbd, rfl⟩ := hq
      simp only [Bool.and_eq_true] at hb
      obtain ⟨⟨hb1, hb2⟩, hb3⟩ := hb
      have hn : 0 < P.cellsOf el := Nat.blt_eq.mp hb1
      have hc63 : cnt < 2 ^ 63 := Nat.blt_eq.mp hb2
      have hx := zac hE hx1
      have g1 := zl6 hE hl1
      have g2 := zl6 hE hh2
      have g3 := zl6 hE hm1
      unfold zu2 at hb3
      split at hb3
      · rename_i cs hcs
        have hle := Nat.le_of_ble_eq_true hb3
        obtain ⟨b', s', sz', arr, T, fr, k1, k2, k3, k4, _⟩ := hS.cells hcs
        generalize hu0 : a.eval x = u0 at hx
        cases hx with
        | ptr _ _ b s sz hι =>
          rw [hι] at k1; cases k1
          obtain ⟨m, r1, r2, r3, r4, r5, r6⟩ := zb3 (P := P) (isSl := false) (cap := some cnt) (cap' := cnt) (by simp) (Nat.le_refl cnt) g1 g2 g3 hbd
          refine ⟨_, fun w' _ => ?_, znk hι (by omega) hc63 hn r2 r3 r4 r5 fun hcn => by cases (r6 hcn).2⟩
          simp only [execOp, ho, Instr.sliceAt, Sem.run_bind, zae hs, Result.andThen_ok, Instr.sureAddr, hu0, Sem.run_pure, r1, zar ht.1]
          by_cases hml : m = l
          · simp [hml]
          · simp [hml]
      · cases hb3
  · cases hq
theorem zdp {x : V} {u : Value} {l : List V} (hr : VRel ι x u) (hc : x.cells = some l) : zdP ι l u.cells := by
  cases hr with
  | lit v =>
    simp only [V.cells] at hc
    cases ho : zez u with
    | false => simp only [ho, cond_false] at hc; cases hc
    | true =>
      simp only [ho, cond_true, Option.some.injEq] at hc
      subst hc
      have h1 : u.cells = #[u] ∧ u.oneCell' = true := by cases u <;> first | exact ⟨rfl, rfl⟩ | (simp [zez] at ho)
      rw [h1.1]
      refine ⟨rfl, fun i y v hy hv => ?_⟩
      cases i with
      | zero => simp at hy hv; subst hy; subst hv; exact ⟨.lit _, h1.2⟩
      | succ i => simp at hy
  | agg vs arr h1 h2 h3 =>
    simp only [V.cells, Option.some.injEq] at hc
    subst hc
    exact ⟨h1, fun i y v hy hv => ⟨h2 i y v hy hv, h3 i v hv⟩⟩
  | tup => simp [V.cells] at hc
  | ptr β o b s sz h1 =>
    simp only [V.cells, Option.some.injEq] at hc; subst hc
    refine ⟨rfl, fun i y v hy hv => ?_⟩
    cases i with
    | zero => simp [Value.cells] at hy hv; subst hy; subst hv; exact ⟨.ptr β o b s sz h1, rfl⟩
    | succ i => simp at hy
  | sl β o n len cap b s sz cap' h1 h2 h3 h4 h5 h6 h7 =>
    simp only [V.cells, Option.some.injEq] at hc; subst hc
    refine ⟨rfl, fun i y v hy hv => ?_⟩
    cases i with
    | zero => simp [Value.cells] at hy hv; subst hy; subst hv; exact ⟨.sl β o n len cap b s sz cap' h1 h2 h3 h4 h5 h6 h7, rfl⟩
    | succ i => simp at hy
  | sl0 β o n cap ad h1 h2 h3 =>
    simp only [V.cells, Option.some.injEq] at hc; subst hc
    refine ⟨rfl, fun i y v hy hv => ?_⟩
    cases i with
    | zero => simp [Value.cells] at hy hv; subst hy; subst hv; exact ⟨.sl0 β o n cap ad h1 h2 h3, rfl⟩
    | succ i => simp at hy
  | clo f first cap xs ys h1 h2 h3 h4 =>
    simp only [V.cells, Option.some.injEq] at hc; subst hc
    refine ⟨rfl, fun i y v hy hv => ?_⟩
    cases i with
    | zero => simp [Value.cells] at hy hv; subst hy; subst hv; exact ⟨.clo f first cap xs ys h1 h2 h3 h4, rfl⟩
    | succ i => simp at hy
  | yld l b s sz h1 =>
    simp only [V.cells, Option.some.injEq] at hc; subst hc
    refine ⟨rfl, fun i y v hy hv => ?_⟩
    cases i with
    | zero => simp [Value.cells] at hy hv; subst hy; subst hv; exact ⟨.yld l b s sz h1, rfl⟩
    | succ i => simp at hy
  | ifc t v0 u0 h1 =>
    simp only [V.cells, Option.some.injEq] at hc; subst hc
    refine ⟨rfl, fun i y v hy hv => ?_⟩
    cases i with
    | zero => simp [Value.cells] at hy hv; subst hy; subst hv; exact ⟨.ifc t v0 u0 h1, rfl⟩
    | succ i => simp at hy
theorem zgf (off : Nat) : ∀ (l : List Value) (k : Nat) (arr : Array Value), off + k + l.length ≤ arr.size →
    ((l.zipIdx k).foldl (fun cs x => cs.setIfInBounds (off + x.2) x.1) arr).size = arr.size ∧
    ∀ i, ((l.zipIdx k).foldl (fun cs x => cs.setIfInBounds (off + x.2) x.1) arr)[i]? = if off + k ≤ i ∧ i < off + k + l.length then l[i - (off + k)]? else arr[i]?
  | [], k, arr, _ => by
    refine ⟨rfl, fun i => ?_⟩
    simp only [List.zipIdx_nil, List.foldl_nil, List.length_nil]
    rw [if_neg (by omega)]
  | v :: l, k, arr, h => by
    simp only [List.length_cons] at h
    obtain ⟨h1, h2⟩ := zgf off l (k + 1) (arr.setIfInBounds (off + k) v) (by simp; omega)
    simp only [List.zipIdx_cons, List.foldl_cons]
    refine ⟨by rw [h1]; simp, fun i => ?_⟩
    rw [h2 i]
    by_cases hi : i = off + k
    · subst hi
      rw [if_neg (by omega), if_pos (by simp), Array.getElem?_setIfInBounds_self_of_lt (by omega)]
      simp
    · simp only [List.length_cons]
      by_cases h3 : off + (k + 1) ≤ i ∧ i < off + (k + 1) + l.length
      · rw [if_pos h3, if_pos (by omega)]
        have : i - (off + k) = (i - (off + (k + 1))) + 1 := by omega
        rw [this, List.getElem?_cons_succ]
      · rw [if_neg h3, if_neg (by omega), Array.getElem?_setIfInBounds_ne (by omega)]
theorem zd2 (cs ns : List V) (off : Nat) (h : off + ns.length ≤ cs.length) : (za1 cs off ns).length = cs.length ∧
    ∀ i, (za1 cs off ns)[i]? = if off ≤ i ∧ i < off + ns.length then ns[i - off]? else cs[i]? := by
  unfold za1
  refine ⟨by simp; omega, fun i => ?_⟩
  rw [List.append_assoc, List.getElem?_append]
  simp only [List.length_take, Nat.min_eq_left (show off ≤ cs.length by omega)]
  by_cases h1 : i < off
  · rw [if_pos h1, if_neg (by omega), List.getElem?_take, if_pos h1]
  · rw [if_neg h1, List.getElem?_append]
    by_cases h2 : i - off < ns.length
    · rw [if_pos h2, if_pos (by omega)]
    · rw [if_neg h2, if_neg (by omega), List.getElem?_drop]
      congr 1; omega
theorem zdP.put {cs ns : List V} {arr narr : Array Value} {off : Nat} (hc : zdP ι cs arr) (hn : zdP ι ns narr) (hle : off + ns.length ≤ cs.length) :
    zdP ι (za1 cs off ns) (narr.zipIdx.foldl (fun cs x => cs.setIfInBounds (off + x.2) x.1) arr) := by
  obtain ⟨h1, h2⟩ := zd2 cs ns off hle
  have hl : (narr.zipIdx.foldl (fun cs x => cs.setIfInBounds (off + x.2) x.1) arr) = ((narr.toList.zipIdx 0).foldl (fun cs x => cs.setIfInBounds (off + x.2) x.1) arr) := by
    rw [← Array.foldl_toList]; simp
  obtain ⟨h3, h4⟩ := zgf off narr.toList 0 arr (by have := hc.1; have := hn.1; simp; omega)
  rw [hl]
  refine ⟨by rw [h3, h1]; exact hc.1, fun i x v hx hv => ?_⟩
  rw [h2 i] at hx
  rw [h4 i] at hv
  have hsz : narr.toList.length = ns.length := by simpa using hn.1
  simp only [Nat.add_zero, hsz] at hv
  split at hx
  · rename_i hcd
    rw [if_pos hcd] at hv
    exact hn.2 _ x v hx (by simpa using hv)
  · rename_i hcd
    rw [if_neg hcd] at hv
    exact hc.2 i x v hx hv
theorem zf1 (z : List Value) (hz : z.all zez = true) : zdP ι (z.map .lit) z.toArray := by
  refine ⟨by simp, fun i x v hx hv => ?_⟩
  simp only [List.getElem?_map, Option.map_eq_some_iff] at hx
  obtain ⟨u, hu, rfl⟩ := hx
  have : v = u := by simp [hu] at hv; exact hv.symm
  subst this
  have hone := List.all_eq_true.1 hz v (List.mem_of_getElem? hu)
  exact ⟨.lit _, by cases v <;> first | rfl | (simp [zez] at hone)⟩
theorem zb5 (hE : zbs ι N env a) {place : Nat → Option (Nat × Nat)} {off size : Nat → Nat} :
    ∀ (parts : List (Nat × Operand)) (cs cs' : List V) (arr : Array Value), (∀ ix ∈ parts, place ix.1 = some (off ix.1, size ix.1)) → zdP ι cs arr →
      zdW env cs (parts.map fun ix => (off ix.1, size ix.1, opX ix.2)) = some cs' →
      ∃ arr', Instr.fill place arr (parts.map fun ix => (ix.1, a.eval ix.2)) = some arr' ∧ zdP ι cs' arr'
  | [], cs, cs', arr, _, hL, hf => by
    simp only [List.map_nil, zdW, Option.some.injEq] at hf
    subst hf
    exact ⟨arr, rfl, hL⟩
  | (i, x) :: parts, cs, cs', arr, hpl, hL, hf => by
    simp only [List.map_cons, zdW] at hf
    split at hf
    · rename_i l hl
      obtain ⟨v1, h1, h2⟩ := Option.bind_eq_some_iff.1 hl
      cases hb : (l.length == size i) && Nat.ble (off i + size i) cs.length with
      | false => simp only [hb, cond_false] at hf; cases hf
      | true =>
        simp only [hb, cond_true] at hf
        simp only [Bool.and_eq_true, beq_iff_eq] at hb
        have hle := Nat.le_of_ble_eq_true hb.2
        have hk : zdP ι l (a.eval x).cells := zdp (zac hE h1) h2
        have hput := zdP.put (off := off i) hL hk (by omega)
        obtain ⟨arr', h3, h4⟩ := zb5 hE (place := place) (off := off) (size := size) parts _ _ _ (fun ix hix => hpl ix (List.mem_cons_of_mem _ hix)) hput hf
        refine ⟨arr', ?_, h4⟩
        simp only [List.map_cons, Instr.fill, hpl (i, x) List.mem_cons_self]
        rw [if_neg]
        · exact h3
        · have e1 := hk.1
          have e2 := hL.1
          simp
          omega
    · cases hf
theorem zfi {α β : Type} (f : α → Sem β) (g : α → β) : ∀ (l : List α), (∀ x ∈ l, ∀ w, (f x).run P w = .ok (g x) w) → ∀ w : World, (l.mapM f).run P w = .ok (l.map g) w
  | [], _, w => by simp
  | x :: r, h, w => by
    simp [List.mapM_cons, h x List.mem_cons_self, zfi f g r (fun y hy => h y (List.mem_cons_of_mem _ hy))]
theorem zgX {α β : Type} (f : α → Sem β) (g : α → β) (arr : Array α) (h : ∀ x ∈ arr, ∀ w, (f x).run P w = .ok (g x) w) (w : World) : (arr.mapM f).run P w = .ok (arr.map g) w := by
  obtain ⟨l⟩ := arr
  rw [List.mapM_toArray]
  simp [zfi f g l (fun x hx => h x (by simpa using hx))]
theorem zbP {t : TypeId} {z : List Value} (hz : zeb P t = some z) : ∃ v, (P.info? t).bind (·.zero) = some v ∧ v.cells.toList = z := by
  simp only [zeb, Option.map_eq_some_iff] at hz
  exact hz
theorem zgK {cs : List V} {arr : Array Value} (hL : zdP ι cs arr) : VRel ι (.agg cs) (.agg arr) :=
  .agg _ _ hL.1 (fun i x v h1 h2 => (hL.2 i x v h1 h2).1) (fun i v hv => by
    have hi : i < cs.length := by rw [← hL.1]; exact (Array.getElem?_eq_some_iff.1 hv).1
    exact (hL.2 i cs[i] v (List.getElem?_eq_getElem hi) hv).2)
theorem zgV (hE : zbs ι N env a) {o : Oper} {t : TypeId} {parts : Array (Nat × Operand)} (ho : o.op = .build t parts) {z : List Value} (hz : zeb P t = some z) (hone : z.all zez = true)
    {fs : Array Field} (hs : P.underlying t = some (.struct fs)) (hf : fs.all (fun f => zb0 P f.type) = true) (hpt : parts.all (fun ix => Nat.blt ix.1 fs.size) = true)
    {v : V} (hq : q h env (.build z (parts.toList.map fun ix => ((fs.getD ix.1 default).offset, P.cellsOf (fs.getD ix.1 default).type, opX ix.2))) = some v) : QOk P ι a w o v := by
  simp only [q, Option.map_eq_some_iff] at hq
  obtain ⟨cs', hfill, rfl⟩ := hq
  obtain ⟨zv, hzv, rfl⟩ := zbP hz
  have hplaces : ∀ w' : World, (fs.mapM fun (f : Field) => (do pure (f.offset, ← sizeOf f.type) : Sem (Nat × Nat))).run P w' = .ok (fs.map fun (f : Field) => (f.offset, P.cellsOf f.type)) w' := fun w' =>
    zgX (P := P) (fun (f : Field) => (do pure (f.offset, ← sizeOf f.type) : Sem (Nat × Nat))) (fun (f : Field) => (f.offset, P.cellsOf f.type)) fs (fun f hf' w'' => by
      have := Array.all_eq_true_iff_forall_mem.1 hf f hf'
      simp only [zb0, Bool.and_eq_true] at this
      simp [zar this.1]) w'
  obtain ⟨arr', h1, h2⟩ := zb5 hE (place := fun i => (fs.map fun f => (f.offset, P.cellsOf f.type))[i]?) (off := fun i => (fs.getD i default).offset) (size := fun i => P.cellsOf (fs.getD i default).type)
    parts.toList _ cs' zv.cells (fun ix hix => by
      have := Array.all_eq_true_iff_forall_mem.1 hpt ix (by simpa using hix)
      have hlt : ix.1 < fs.size := Nat.blt_eq.mp this
      simp [hlt]) (by simpa using zf1 (ι := ι) _ hone) hfill
  refine ⟨_, fun w' _ => ?_, zgK h2⟩
  have hp2 : (parts.map fun ix => (ix.1, a.eval ix.2)).toList = parts.toList.map fun ix => (ix.1, a.eval ix.2) := by simp
  simp only [execOp, ho, Instr.build, Sem.run_bind, zaJ hzv, zae hs, Result.andThen_ok, hplaces]
  have h1' : Instr.fill (fun x => (fs.map fun f => (f.offset, P.cellsOf f.type))[x]?) zv.cells (parts.map fun ix => (ix.1, a.eval ix.2)).toList = some arr' := by rw [hp2]; exact h1
  simp only [h1']
  rfl
theorem ziA (hE : zbs ι N env a) {o : Oper} {t el : TypeId} {n : Nat} {parts : Array (Nat × Operand)} (ho : o.op = .build t parts) {z : List Value} (hz : zeb P t = some z) (hone : z.all zez = true)
    (hs : P.underlying t = some (.array n el)) (hf : zb0 P el = true)
    {v : V} (hq : q h env (.build z (parts.toList.map fun ix => (ix.1 * P.cellsOf el, P.cellsOf el, opX ix.2))) = some v) : QOk P ι a w o v := by
  simp only [q, Option.map_eq_some_iff] at hq
  obtain ⟨cs', hfill, rfl⟩ := hq
  obtain ⟨zv, hzv, rfl⟩ := zbP hz
  simp only [zb0, Bool.and_eq_true] at hf
  obtain ⟨arr', h1, h2⟩ := zb5 hE (place := fun i => some (i * P.cellsOf el, P.cellsOf el)) (off := fun i => i * P.cellsOf el) (size := fun _ => P.cellsOf el)
    parts.toList _ cs' zv.cells (fun ix _ => rfl) (by simpa using zf1 (ι := ι) _ hone) hfill
  refine ⟨_, fun w' _ => ?_, zgK h2⟩
  have hp2 : (parts.map fun ix => (ix.1, a.eval ix.2)).toList = parts.toList.map fun ix => (ix.1, a.eval ix.2) := by simp
  simp only [execOp, ho, Instr.build, Sem.run_bind, zaJ hzv, zae hs, Result.andThen_ok, zar hf.1]
  have h1' : Instr.fill (fun i => some (i * P.cellsOf el, P.cellsOf el)) zv.cells (parts.map fun ix => (ix.1, a.eval ix.2)).toList = some arr' := by rw [hp2]; exact h1
  simp only [h1']
  rfl
theorem zcU {b : Bool} {i : I} {r : V} (hq : q h env (bif b then i else .bad) = some r) : b = true ∧ q h env i = some r := by
  cases b with
  | true => exact ⟨rfl, hq⟩
  | false => simp [q] at hq
theorem zoE (hS : Sim P B w1 ι h w) (hE : zbs ι N env a) (o : Oper) {v : V} (hq : q h env (zau P o) = some v) : QOk P ι a w o v := by
  obtain ⟨dst, op, type, pos, after, guard⟩ := o
  cases op with
  | move x => exact ⟨_, fun w' _ => by simp [execOp], zac hE hq⟩
  | assign x => exact ⟨_, fun w' _ => by simp [execOp], zac hE hq⟩
  | pick c x y =>
    simp only [zau, q] at hq
    split at hq
    · rename_i h1
      exact ⟨_, fun w' _ => by simp [execOp, zcz hE h1, asBool], zac hE hq⟩
    · rename_i h1
      exact ⟨_, fun w' _ => by simp [execOp, zcz hE h1, asBool], zac hE hq⟩
    · cases hq
  | alloc t =>
    simp only [zau] at hq
    split at hq
    · obtain ⟨_, hq⟩ := zcU hq; simp [q] at hq
    · simp [q] at hq
  | build t parts =>
    simp only [zau] at hq
    split at hq
    · rename_i z hz
      obtain ⟨hone, hq⟩ := zcU hq
      split at hq
      · rename_i fs hs
        obtain ⟨hb, hq⟩ := zcU hq
        simp only [Bool.and_eq_true] at hb
        exact zgV hE rfl hz hone hs hb.1 hb.2 hq
      · rename_i n el hs
        obtain ⟨hb, hq⟩ := zcU hq
        exact ziA hE rfl hz hone hs hb hq
      · simp [q] at hq
    · simp [q] at hq
  | buildSlice t len parts =>
    simp only [zau] at hq
    split at hq
    · obtain ⟨_, hq⟩ := zcU hq
      split at hq
      · obtain ⟨_, hq⟩ := zcU hq; simp [q] at hq
      · simp [q] at hq
    · simp [q] at hq
  | load t x =>
    simp only [zau] at hq
    obtain ⟨ht, hq⟩ := zcU hq
    exact ztQ hS hE rfl ht hq
  | store t x y =>
    simp only [zau] at hq
    obtain ⟨ht, hq⟩ := zcU hq
    simp [q] at hq
  | fieldAddr s x f =>
    simp only [zau] at hq
    split at hq
    · rename_i fs hs
      split at hq
      · rename_i fd hf
        obtain ⟨hb, hq⟩ := zcU hq
        simp only [Bool.and_eq_true, Bool.not_eq_true'] at hb
        exact zu4 hE rfl hs hf hb.1 hb.2 hq
      · simp [q] at hq
    · simp [q] at hq
  | field s x f =>
    simp only [zau] at hq
    split at hq
    · rename_i fs hs
      split at hq
      · rename_i fd hf
        obtain ⟨hb, hq⟩ := zcU hq
        exact zsK hE rfl hs hf hb hq
      · simp [q] at hq
    · simp [q] at hq
  | indexAddr t x i =>
    simp only [zau] at hq
    split at hq
    · rename_i el hs
      obtain ⟨hb, hq⟩ := zcU hq
      exact zuh hE rfl hs hb hq
    · rename_i cnt el hs
      obtain ⟨hb, hq⟩ := zcU hq
      simp only [Bool.and_eq_true] at hb
      exact zur hE rfl hs hb.1 hq
    · simp [q] at hq
  | index t x i =>
    simp only [zau] at hq
    split at hq
    · rename_i cnt el hs
      obtain ⟨hb, hq⟩ := zcU hq
      simp only [Bool.and_eq_true, Bool.or_eq_true, beq_iff_eq] at hb
      exact ztt hE rfl hs hb.1.1 (fun hg => by rcases hb.2 with h0 | h0; (rw [hg] at h0; cases h0); exact h0) hq
    · rename_i hs
      split at hq
      · exact zuR hE rfl hs hq
      · simp [q] at hq
    · simp [q] at hq
  | makeFunc fn first cap =>
    cases fn with
    | func f => exact zvi hE rfl hq
    | _ => simp [zau, q] at hq
  | makeInterface t x =>
    simp only [zau] at hq
    split at hq
    · rename_i fs hs
      exact zuS hE rfl hs hq
    · simp [q] at hq
  | binOp op t x y ty =>
    simp only [zau] at hq
    split at hq
    · exact zvf hE rfl hq
    · rename_i ht
      split at hq
      · exact ztw (neg := false) hE rfl ht hq
      · exact ztw (neg := true) hE rfl ht hq
      · simp [q] at hq
    · rename_i el ht
      split at hq
      · exact zt3 (neg := false) hE rfl ht hq
      · exact zt3 (neg := true) hE rfl ht hq
      · simp [q] at hq
    · rename_i el ht
      split at hq
      · exact zt1 (neg := false) hE rfl ht hq
      · exact zt1 (neg := true) hE rfl ht hq
      · simp [q] at hq
    · rename_i el ht
      split at hq
      · exact ztv (neg := false) hE rfl ht hq
      · exact ztv (neg := true) hE rfl ht hq
      · simp [q] at hq
    · simp [q] at hq
  | unOp op t x => exact zv9 hE rfl hq
  | convert s d x =>
    simp only [zau] at hq
    split at hq
    · rename_i h1 h2
      exact zs9 hE rfl h1 h2 hq
    · simp [q] at hq
  | extract x i => exact zu0 hE rfl hq
  | makeSlice t l c =>
    simp only [zau] at hq
    split at hq
    · obtain ⟨_, hq⟩ := zcU hq
      split at hq
      · obtain ⟨_, hq⟩ := zcU hq; simp [q] at hq
      · simp [q] at hq
    · simp [q] at hq
  | slice t x lo hi mx =>
    simp only [zau] at hq
    split at hq
    · rename_i el hs
      obtain ⟨hb, hq⟩ := zcU hq
      exact zvk hS hE rfl hs hb hq
    · rename_i cnt el hs
      obtain ⟨hb, hq⟩ := zcU hq
      exact zti hS hE rfl hs hb hq
    · simp [q] at hq
  | nilCheck x => exact zr5 hE rfl hq
  | call c =>
    simp only [zau, zf9] at hq
    split at hq
    · obtain ⟨_, hq⟩ := zcU hq
      simp [q] at hq
    · simp [q] at hq
    · rename_i b hc
      split at hq
      · rename_i t x h1 h2
        split at hq
        · rename_i el hs
          exact zvh hE rfl hc h1 h2 hs hq
        · simp [q] at hq
      · exact zvO (isMax := false) hE rfl hc hq
      · exact zvO (isMax := true) hE rfl hc hq
      · split at hq
        · obtain ⟨_, hq⟩ := zcU hq
          split at hq
          · obtain ⟨_, hq⟩ := zcU hq; simp [q] at hq
          · simp [q] at hq
        · simp [q] at hq
      · split at hq
        · obtain ⟨_, hq⟩ := zcU hq; simp [q] at hq
        · simp [q] at hq
      · split at hq
        · obtain ⟨_, hq⟩ := zcU hq
          split at hq
          · obtain ⟨_, hq⟩ := zcU hq; simp [q] at hq
          · simp [q] at hq
        · simp [q] at hq
      · simp [q] at hq
      · simp [q] at hq
    · simp [q] at hq
  | defer c =>
    simp only [zau] at hq
    split at hq <;> simp [q] at hq
  | _ => simp [zau, q] at hq
end
end Go.Mx
