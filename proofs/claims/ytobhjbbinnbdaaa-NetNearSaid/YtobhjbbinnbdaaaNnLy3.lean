/-
  Trees: an operation that leaves memory alone yields what the machine's does. Conditions: none.
-/
import Derived.Test.YtobhjbbinnbdaaaNnLy2
namespace Go.Lx
open Go Go.Mx
section
variable {c : Cx} {S : LSt} {M : St} {L : List LB} {H : zaj}
theorem zbk {β : Nat} {cs : List V} (hh : H[β]? = some (.blk cs)) : zaD H β = some cs := by simp [zaD, hh]
theorem zsu (h : RelH c L H) {t : Bool} {ds : List D} {b o : Nat} {cs : List V} (h1 : c.look t b = some cs) (h2 : o + ds.length ≤ cs.length) (h3 : ∀ (k : Nat) d v, ds[k]? = some d → cs[o + k]? = some v → R (c.frz t) d v) :
    Rs c ds ((cs.drop o).take ds.length) := by
  refine ⟨by simp; omega, fun k d v g1 g2 => ?_⟩
  simp only [List.getElem?_take, List.getElem?_drop] at g2
  split at g2
  · exact (h3 k d v g1 g2).zqh h.apart
  · cases g2
theorem zhe (h : RelH c L H) {n : Option Nat} {d d' : D} {v : V} (hr : R c d v) (hl : zig L n d = some d') : ∃ v', (match v with | .ptr β o => (zaD H β).bind fun cs => takeN cs o n | _ => none) = some v' ∧ R c d' v' := by
  cases d with
  | ptr β o =>
    cases hr with
    | ptr g1 =>
      simp only [zig] at hl
      split at hl
      · rename_i ds heq
        obtain ⟨b, vs, k1, k2, k3⟩ := h.obj β _ heq
        rw [g1] at k1
        cases k1
        obtain ⟨v', e1, e2⟩ := zb4 k3 hl
        exact ⟨v', by simp only [zbk k2, Option.bind_some]; exact e1, e2⟩
      · cases hl
  | eptr β n' i off st =>
    simp only [zig] at hl
    cases he : zdk L β n' st with
    | none => rw [he] at hl; cases hl
    | some es =>
      rw [he] at hl
      simp only at hl
      obtain ⟨b, vs, k1, rfl, k3, k6⟩ := zlZ h he hr
      cases hi : es[i]? with
      | none => rw [hi] at hl; cases hl
      | some cells =>
        rw [hi] at hl
        obtain ⟨v', e1, e2⟩ := zb4 (k6.at_ hi) hl
        refine ⟨v', ?_, e2⟩
        simp only [zbk k3, Option.bind_some]
        have hil : i < es.length := (List.getElem?_eq_some_iff.1 hi).1
        have h1 : i * n' ≤ es.length * n' := Nat.mul_le_mul_right n' (by omega)
        exact zjW (by rw [k6.zj6]; exact h1) e1
  | fptr t ds =>
    cases hr with
    | fptr h1 h2 h3 =>
      simp only [zig] at hl
      obtain ⟨v', e1, e2⟩ := zb4 (zsu h h1 h2 h3) hl
      refine ⟨v', ?_, e2⟩
      simp only [zbk (h.look h1), Option.bind_some]
      have := zjW (by omega) e1
      rwa [Nat.add_zero] at this
  | _ => cases hl
theorem zjE (h : RelH c L H) {off : Nat} {d d' : D} {v : V} (hr : R c d v) (hl : zmc L off d = some d') : ∃ b o, v = .ptr b o ∧ R c d' (.ptr b (o + off)) := by
  cases d with
  | ptr β o =>
    cases hr with
    | ptr g1 => cases hl; exact ⟨_, _, rfl, .ptr g1⟩
  | eptr β n' i o st =>
    simp only [zmc] at hl
    cases he : zdk L β n' st with
    | none => rw [he] at hl; cases hl
    | some es =>
      rw [he] at hl
      cases hl
      obtain ⟨b', vs, q1, rfl, _⟩ := zlZ h he hr
      exact ⟨_, _, rfl, .eptr q1 (.inr ⟨rfl, by rw [Nat.add_assoc]⟩)⟩
  | fptr t ds =>
    cases hr with
    | fptr h1 h2 h3 =>
      simp only [zmc] at hl
      split at hl
      · rename_i ho
        cases hl
        refine ⟨_, _, rfl, .fptr h1 (by simp; omega) fun k d v g1 g2 => ?_⟩
        rw [List.getElem?_drop] at g1
        rw [Nat.add_assoc] at g2
        exact h3 _ d v g1 g2
      · cases hl
  | _ => cases hl
theorem znC (h : RelH c L H) {n : Nat} {m : Int} {d d' : D} {v : V} (hr : R c d v) (hl : zq2 L n m d = some d') :
    ∃ v', (match v with | .sl β o n' len _ => bif (n == n') && decide (0 ≤ m) && decide (m < len) then some (V.ptr β (o + m.toNat * n)) else none | _ => none) = some v' ∧ R c d' v' := by
  cases d with
  | sl β s n' len cap st =>
    simp only [zq2] at hl
    split at hl
    · rename_i hc
      obtain ⟨rfl, hc1, hc2⟩ := hc
      cases he : zdk L β n st with
      | none => rw [he] at hl; cases hl
      | some es =>
        rw [he] at hl
        cases hl
        rcases slR h he hr with ⟨b', vs, q1, rfl, _⟩ | ⟨rfl, _, rfl, _⟩
        rotate_left
        · omega
        refine ⟨_, by simp [hc1, hc2]; rfl, .eptr q1 (.inr ⟨rfl, by rw [Nat.add_zero, Nat.add_mul]⟩)⟩
    · cases hl
  | fz t n' els =>
    simp only [zq2] at hl
    split at hl
    · rename_i hc
      obtain ⟨rfl, hc1⟩ := hc
      cases hi : els[m.toNat]? with
      | none => rw [hi] at hl; cases hl
      | some cells =>
        rw [hi] at hl
        cases hl
        have hil := (List.getElem?_eq_some_iff.1 hi).1
        cases hr with
        | fz h1 h2 h3 h4 h5 h6 =>
          have h7 := h5 _ _ hi
          have h8 : m.toNat * n + n ≤ els.length * n := by
            have := Nat.mul_le_mul_right n hil
            rw [Nat.succ_mul] at this
            exact this
          refine ⟨_, ?_, .fptr h1 (o := _) ?_ fun k d v g1 g2 => h6 _ _ k d v hi g1 g2⟩
          · have : m < els.length := by omega
            simp [hc1, this]
          · omega
        | fz0 => simp at hil
        | fzn => simp at hil
    · cases hl
  | _ => cases hl
theorem znz (h : RelH c L H) {d d' : D} {v : V} (hr : R c d v) (hl : zmI L d = some d') : ∃ v', ztY v = some v' ∧ R c d' v' := by
  cases d with
  | lit u =>
    cases zgY hr
    unfold zmI at hl
    split at hl <;> first | (cases hl; done) | skip
    · rename_i heq; cases heq; cases hl; exact ⟨_, rfl, .lit _⟩
    all_goals (rename_i heq; cases heq)
  | sl β s n len cap st =>
    simp only [zmI] at hl
    cases he : zdk L β n st with
    | some es =>
      rw [he] at hl
      cases hl
      rcases slR h he hr with ⟨b', vs, q1, rfl, _⟩ | ⟨rfl, _, rfl, _⟩
      · exact ⟨_, rfl, .lit _⟩
      · exact ⟨_, rfl, .lit _⟩
    | none => rw [he] at hl; cases hl
  | fz t n els =>
    simp only [zmI] at hl
    cases hl
    cases hr with
    | fz h1 h2 h3 h4 h5 h6 => exact ⟨_, rfl, .lit _⟩
    | fz0 => exact ⟨_, rfl, .lit _⟩
    | fzn => exact ⟨_, rfl, .lit _⟩
  | z0 t n =>
    simp only [zmI] at hl
    cases hl
    cases hr with
    | z0 h1 h2 => exact ⟨_, rfl, .lit _⟩
    | z0n => exact ⟨_, rfl, .lit _⟩
  | _ => cases hl
theorem ziN {n : Nat} {cap : Option Nat} (hcap : ∀ k, cap = some k → n ≤ k) {lo hi mx : Option Int} (hh : hi.getD n ≤ n) (hm : mx.getD n ≤ n) {l h : Nat} {cc : Option Nat} (hb : bounds n (some n) lo hi mx = some (l, h, cc)) :
    l ≤ h ∧ h ≤ n ∧ ∃ c', bounds n cap lo hi mx = some (l, h, c') ∧ (∀ k, c' = some k → h - l ≤ k) ∧ (mx.isSome = true → c' = cc) := by
  have ht : (n : Int) ≤ zdR n cap := by
    cases cap with
    | none => exact Int.le_refl _
    | some k => have := hcap k rfl; simp only [zdR]; omega
  cases mx with
  | none =>
    simp only [bounds] at hb ⊢
    cases hc : (decide (0 ≤ lo.getD 0) && decide (lo.getD 0 ≤ hi.getD n) && decide (hi.getD n ≤ zdR n (some n))) with
    | false => rw [hc] at hb; cases hb
    | true =>
      rw [hc] at hb
      simp only [Bool.and_eq_true, decide_eq_true_eq] at hc
      cases hb
      have e1 : (decide (0 ≤ lo.getD 0) && decide (lo.getD 0 ≤ hi.getD n) && decide (hi.getD n ≤ zdR n cap)) = true := by
        simp only [Bool.and_eq_true, decide_eq_true_eq]; exact ⟨hc.1, by omega⟩
      rw [e1]
      refine ⟨by omega, by omega, _, rfl, fun k hk => ?_, fun h0 => by cases h0⟩
      cases cap with
      | none => cases hk
      | some q => have := hcap q rfl; simp only [Option.map_some, Option.some.injEq] at hk; omega
  | some m =>
    simp only [bounds] at hb ⊢
    simp only [Option.getD_some] at hm
    cases hc : (hi.isSome && decide (0 ≤ lo.getD 0) && decide (lo.getD 0 ≤ hi.getD n) && decide (hi.getD n ≤ m) && decide (m ≤ zdR n (some n))) with
    | false => rw [hc] at hb; cases hb
    | true =>
      rw [hc] at hb
      simp only [Bool.and_eq_true, decide_eq_true_eq] at hc
      cases hb
      have e1 : (hi.isSome && decide (0 ≤ lo.getD 0) && decide (lo.getD 0 ≤ hi.getD n) && decide (hi.getD n ≤ m) && decide (m ≤ zdR n cap)) = true := by
        simp only [Bool.and_eq_true, decide_eq_true_eq]; exact ⟨hc.1, by omega⟩
      rw [e1]
      exact ⟨by omega, by omega, _, rfl, fun k hk => by simp only [Option.some.injEq] at hk; omega, fun _ => rfl⟩
theorem zm7 (h : RelH c L H) {n : Nat} {lo hi mx : Option Int} {d d' : D} {v : V} (hr : R c d v) (hl : zmD L n lo hi mx d = some d') : ∃ v', zoc n lo hi mx v = some v' ∧ R c d' v' := by
  cases d with
  | lit u =>
    cases zgY hr
    unfold zmD at hl
    split at hl <;> first | (cases hl; done) | skip
    · rename_i heq
      cases heq
      split at hl
      · rename_i x hb; cases hl; exact ⟨_, by simp [zoc, hb], .lit _⟩
      · cases hl
    all_goals (rename_i heq; cases heq)
  | sl β s n' len cap st =>
    simp only [zmD] at hl
    split at hl
    · rename_i hn
      subst hn
      cases he : zdk L β n st with
      | none => rw [he] at hl; cases hl
      | some es =>
        rw [he] at hl
        cases hb : bounds len cap lo hi mx with
        | none => rw [hb] at hl; cases hl
        | some x =>
          obtain ⟨l, hh, cc⟩ := x
          rw [hb] at hl
          simp only at hl
          split at hl
          · rename_i hmx
            subst hmx
            cases hl
            rcases slR h he hr with ⟨b', vs, q1, rfl, _⟩ | ⟨rfl, rfl, rfl, rfl, rfl, _, q1⟩
            · exact ⟨_, by simp [zoc, hb]; rfl, .sl q1 (.inr ⟨rfl, by rw [Nat.add_mul]⟩)⟩
            · have hb' : bounds 0 (some 0) lo hi none = some (l, hh, some (0 - l)) ∧ l = 0 ∧ hh = 0 ∧ cc = none := by
                simp only [bounds] at hb ⊢
                cases hc : (decide (0 ≤ lo.getD 0) && decide (lo.getD 0 ≤ hi.getD ((0 : Nat) : Int)) && decide (hi.getD ((0 : Nat) : Int) ≤ zdR 0 none)) with
                | false => rw [hc] at hb; cases hb
                | true =>
                  rw [hc] at hb
                  simp only [Bool.and_eq_true, decide_eq_true_eq, zdR] at hc
                  cases hb
                  have e1 : (decide (0 ≤ lo.getD 0) && decide (lo.getD 0 ≤ hi.getD ((0 : Nat) : Int)) && decide (hi.getD ((0 : Nat) : Int) ≤ zdR 0 (some 0))) = true := by
                    simp only [Bool.and_eq_true, decide_eq_true_eq, zdR]; exact hc
                  rw [e1]
                  have hc3 : hi.getD ((0 : Nat) : Int) ≤ 0 := of_decide_eq_true hc.2
                  have hc1 := hc.1.1
                  have hc2 := hc.1.2
                  exact ⟨rfl, by omega, by omega, rfl⟩
              obtain ⟨e1, rfl, rfl, rfl⟩ := hb'
              exact ⟨_, by simp [zoc, e1], .slg q1⟩
          · cases hl
    · cases hl
  | fz t n' els =>
    simp only [zmD] at hl
    split at hl
    · rename_i hn
      subst hn
      unfold zsE at hl
      split at hl
      · rename_i hc
        simp only [Bool.and_eq_true, decide_eq_true_eq] at hc
        cases hb : bounds els.length (some els.length) lo hi mx with
        | none => rw [hb] at hl; cases hl
        | some x =>
          obtain ⟨l, hh, cc⟩ := x
          rw [hb] at hl
          simp only at hl
          cases hr with
          | fz h1 h2 h3 h4 h5 h6 =>
            rename_i b o cap cs
            obtain ⟨e1, e2, c', e3, e4, e5⟩ := ziN h3 hc.1 hc.2 hb
            refine ⟨.sl b (o + l * n) n (hh - l) c', by simp [zoc, e3], ?_⟩
            split at hl
            · rename_i hz
              simp only [Bool.and_eq_true, beq_iff_eq] at hz
              obtain ⟨hz, _⟩ := hz
              cases hl
              have h0 := e5 hz.1
              rw [hz.2] at h0
              subst h0
              have := e4 0 rfl
              have h9 : hh - l = 0 := by omega
              rw [h9]
              refine .z0 h1 ?_
              have : l * n ≤ els.length * n := Nat.mul_le_mul_right n (by omega)
              omega
            · cases hl
              have hlen : ((els.drop l).take (hh - l)).length = hh - l := by simp; omega
              rw [show V.sl b (o + l * n) n (hh - l) c' = V.sl b (o + l * n) n ((els.drop l).take (hh - l)).length c' by rw [hlen]]
              refine .fz h1 h2 (by rw [hlen]; exact e4) ?_ (fun i cells hi => ?_) fun i cells k d v g1 g2 g3 => ?_
              · rw [hlen]
                have : l * n + (hh - l) * n ≤ els.length * n := by rw [← Nat.add_mul]; exact Nat.mul_le_mul_right n (by omega)
                omega
              · simp only [List.getElem?_take, List.getElem?_drop] at hi
                split at hi
                · exact h5 _ _ hi
                · cases hi
              · simp only [List.getElem?_take, List.getElem?_drop] at g1
                split at g1
                · refine h6 (l + i) cells k d v g1 g2 ?_
                  rw [← g3, Nat.add_mul]
                  congr 1
                  omega
                · cases g1
          | fz0 =>
            rename_i b o cap
            simp only [List.length_nil] at hc hb hl
            have hcz : ∀ k, cap = some k → 0 ≤ k := fun _ _ => Nat.zero_le _
            obtain ⟨e1, e2, c', e3, e4, e5⟩ := ziN hcz hc.1 hc.2 hb
            refine ⟨.sl b (o + l * n) n (hh - l) c', by simp [zoc, e3], ?_⟩
            have hl0 : l = 0 := by omega
            have hh0 : hh = 0 := by omega
            subst hl0
            subst hh0
            simp at hl
            subst hl
            exact .fz0
          | fzn =>
            simp only [List.length_nil] at hc hb hl
            refine ⟨.lit (.slice none 0 0), by simp [zoc, hb], ?_⟩
            split at hl
            · rename_i hz; simp at hz
            · cases hl; simp; exact .fzn
      · cases hl
    · cases hl
  | _ => cases hl
theorem zpV (h : RelH c L H) {d : D} {v : V} {o : Option Nat} (hr : R c d v) (hy : yB L d = some o) : match o with
    | none => zmR v = none
    | some β => zmR v = none ∨ ∃ b x, zmR v = some b ∧ c.ρ β = some x ∧ x.blk = some b := by
  cases d with
  | lit u =>
    cases zgY hr
    unfold yB at hy
    split at hy <;> first | (cases hy; rfl) | (rename_i he; cases he) | (cases hy)
  | ptr β o' =>
    cases hy
    cases hr with
    | ptr g1 => exact .inr ⟨_, _, rfl, g1, rfl⟩
  | eptr β n i off st =>
    simp only [yB] at hy
    cases he : zdk L β n st with
    | none => rw [he] at hy; cases hy
    | some es =>
      rw [he] at hy
      cases hy
      obtain ⟨b, vs, k1, rfl, k3, k6⟩ := zlZ h he hr
      exact .inr ⟨_, _, rfl, k1, rfl⟩
  | sl β s n len cap st =>
    simp only [yB] at hy
    cases he : zdk L β n st with
    | none => rw [he] at hy; cases hy
    | some es =>
      rw [he] at hy
      cases hy
      rcases slR h he hr with ⟨b, vs, q1, rfl, q2, q3⟩ | ⟨rfl, rfl, h0, _, _, rfl, _⟩
      · exact .inr ⟨_, _, rfl, q1, rfl⟩
      · exact .inl rfl
  | _ => cases hy
theorem zpZ (h : RelH c L H) {d : D} {v : V} {β b : Nat} {x : Lc} (hr : R c d v) (hx : xB L β d = true) (hb : c.ρ β = some x) (hxb : x.blk = some b) : ∃ γ o, v = .ptr γ o ∧ (zaD H γ).isSome = true ∧ (γ == b) = false := by
  cases d with
  | fptr t ds =>
    cases hr with
    | fptr g1 g2 g3 =>
      rename_i b' o cs
      refine ⟨b', o, rfl, by rw [zbk (h.look g1)]; rfl, ?_⟩
      rw [beq_eq_false_iff_ne]
      rintro rfl
      obtain ⟨o1, o2, o3⟩ := h.own β x b' hb hxb
      unfold Cx.look at g1
      rw [o3] at g1
      cases t with
      | true => simp at g1
      | false =>
        simp only [Bool.false_eq_true, if_false] at g1
        have := (h.za b' cs g1).1
        omega
  | ptr γ o =>
    simp only [xB] at hx
    split at hx
    · rename_i ds heq
      cases hr with
      | ptr g1 =>
        obtain ⟨b', vs, k1, k2, k3⟩ := h.obj γ _ heq
        rw [g1] at k1
        cases k1
        refine ⟨_, _, rfl, by rw [zbk k2]; rfl, ?_⟩
        rw [beq_eq_false_iff_ne]
        rintro rfl
        have := h.inj γ β _ x _ g1 hb rfl hxb
        subst this
        simp at hx
    · cases hx
  | eptr γ n i off st =>
    simp only [xB] at hx
    cases he : zdk L γ n st with
    | none => rw [he] at hx; cases hx
    | some es =>
      rw [he] at hx
      obtain ⟨b', vs, k1, rfl, k3, k6⟩ := zlZ h he hr
      refine ⟨_, _, rfl, by rw [zbk k3]; rfl, ?_⟩
      rw [beq_eq_false_iff_ne]
      rintro rfl
      have := h.inj γ β _ x _ k1 hb rfl hxb
      subst this
      simp at hx
  | _ => cases hx
theorem zjQ (h : Rel c S M) {β b : Nat} {x : Lc} (hb : c.ρ β = some x) (hxb : x.blk = some b) : ∀ {xs : List X} {ds : List D}, zfW S.env xs = some ds → xBs S.heap β ds = true → xs.all (zrG M.heap M.env b) = true
  | [], ds, he, hx => rfl
  | y :: r, ds, he, hx => by
    simp only [zfW] at he
    cases h1 : evD S.env y with
    | none => rw [h1] at he; cases he
    | some d =>
      cases h2 : zfW S.env r with
      | none => rw [h1, h2] at he; cases he
      | some ds' =>
        rw [h1, h2] at he
        cases he
        simp only [xBs] at hx
        cases h3 : xB S.heap β d with
        | false => rw [h3] at hx; cases hx
        | true =>
          rw [h3] at hx
          obtain ⟨v, g1, g2⟩ := zac h h1
          obtain ⟨γ, o, rfl, g3, g4⟩ := zpZ h.heap g2 h3 hb hxb
          rw [List.all_cons, zjQ h hb hxb h2 hx]
          simp [zrG, g1, g3, g4]
theorem zo1 (h : Rel c S M) {i : I} {d : D} (hq : qL S.heap S.env i = some d) : ∃ v, q M.heap M.env i = some v ∧ R c d v := by
  cases i with
  | mov x => exact zac h hq
  | avo xs y =>
    simp only [qL] at hq
    cases hy : evD S.env y with
    | none => rw [hy] at hq; cases hq
    | some e =>
      rw [hy] at hq
      obtain ⟨v, g1, g2⟩ := zac h hy
      simp only at hq
      have fin : zmG M.heap M.env xs y = true → ∃ v, q M.heap M.env (.avo xs y) = some v ∧ R c (.lit (.tuple #[])) v := fun ha => ⟨zaF, by simp [q, ha], .lit _⟩
      cases hb : yB S.heap e with
      | none => rw [hb] at hq; cases hq
      | some o =>
        have hs := zpV h.heap g2 hb
        rw [hb] at hq
        cases o with
        | none =>
          cases hq
          exact fin (by simp only at hs; simp [zmG, g1, hs])
        | some β =>
          simp only at hq
          cases hx : zfW S.env xs with
          | none => rw [hx] at hq; cases hq
          | some ds =>
            rw [hx] at hq
            simp only at hq
            cases hxb : xBs S.heap β ds with
            | false => rw [hxb] at hq; cases hq
            | true =>
              rw [hxb] at hq
              cases hq
              refine fin ?_
              rcases hs with hs | ⟨b, x, hs, k1, k2⟩
              · simp [zmG, g1, hs]
              · simp only [zmG, g1, hs]; exact zjQ h k1 k2 hx hxb
  | pick x a b =>
    simp only [qL] at hq
    cases hb : zeF (evD S.env x) with
    | none => rw [hb] at hq; cases hq
    | some t =>
      rw [hb] at hq
      simp only [q, zep h hb]
      cases t
      · exact zac h hq
      · exact zac h hq
  | build z parts =>
    simp only [qL] at hq
    cases hf : ziz S.env (z.map .lit) parts with
    | none => rw [hf] at hq; cases hq
    | some l =>
      rw [hf] at hq
      cases hq
      obtain ⟨l', g1, g2⟩ := zb5 h parts hf (Rs.lits z)
      exact ⟨.agg l', by simp [q, g1], .agg g2.1 g2.2⟩
  | load n x =>
    simp only [qL] at hq
    cases hx : evD S.env x with
    | none => rw [hx] at hq; cases hq
    | some e =>
      rw [hx] at hq
      obtain ⟨v, g1, g2⟩ := zac h hx
      obtain ⟨v', g3, g4⟩ := zhe h.heap g2 hq
      refine ⟨v', ?_, g4⟩
      simp only [q, g1]
      split at g3
      · exact g3
      · cases g3
  | fld off x =>
    simp only [qL] at hq
    cases hx : evD S.env x with
    | none => rw [hx] at hq; cases hq
    | some e =>
      rw [hx] at hq
      obtain ⟨v, g1, g2⟩ := zac h hx
      obtain ⟨b, o, rfl, g4⟩ := zjE h.heap g2 hq
      exact ⟨_, by simp only [q, g1], g4⟩
  | idxS n x j =>
    simp only [qL] at hq
    cases hx : evD S.env x with
    | none => rw [hx] at hq; cases hq
    | some e =>
      rw [hx] at hq
      cases hj : zhK (evD S.env j) with
      | none => rw [hj] at hq; cases hq
      | some m =>
        rw [hj] at hq
        obtain ⟨v, g1, g2⟩ := zac h hx
        obtain ⟨v', g3, g4⟩ := znC h.heap g2 hq
        refine ⟨v', ?_, g4⟩
        simp only [q, g1, zc3 h hj]
        split at g3
        · exact g3
        · cases g3
  | idxA n cnt x j =>
    simp only [qL] at hq
    cases hx : evD S.env x with
    | none => rw [hx] at hq; cases hq
    | some e =>
      rw [hx] at hq
      cases hj : zhK (evD S.env j) with
      | none => rw [hj] at hq; cases hq
      | some m =>
        rw [hj] at hq
        simp only at hq
        split at hq
        · rename_i hm
          obtain ⟨v, g1, g2⟩ := zac h hx
          obtain ⟨b, o, rfl, g4⟩ := zjE h.heap g2 hq
          exact ⟨_, by simp [q, g1, zc3 h hj, hm.1, hm.2], g4⟩
        · cases hq
  | idxV n cnt x j =>
    simp only [qL] at hq
    split at hq
    · rename_i ds hx
      cases hj : zhK (evD S.env j) with
      | none => rw [hj] at hq; cases hq
      | some m =>
        rw [hj] at hq
        simp only at hq
        split at hq
        · rename_i hm
          obtain ⟨v, g1, g2⟩ := zac h hx
          cases g2 with
          | agg k1 k2 =>
            obtain ⟨v', e1, e2⟩ := zb4 ⟨k1, k2⟩ hq
            exact ⟨v', by simp [q, g1, zc3 h hj, hm.1, hm.2, e1], e2⟩
        · cases hq
    · cases hq
  | part n off x =>
    simp only [qL] at hq
    split at hq
    · rename_i ds hx
      obtain ⟨v, g1, g2⟩ := zac h hx
      cases g2 with
      | agg k1 k2 =>
        obtain ⟨v', e1, e2⟩ := zb4 ⟨k1, k2⟩ hq
        exact ⟨v', by simp [q, g1, e1], e2⟩
    · cases hq
  | bin op x y =>
    simp only [qL] at hq
    cases hx : zmF (evD S.env x) with
    | none => rw [hx] at hq; cases hq
    | some u =>
      rw [hx] at hq
      cases hy : zmF (evD S.env y) with
      | none => rw [hy] at hq; cases hq
      | some u' =>
        rw [hy] at hq
        obtain ⟨w, g1, rfl⟩ := zkm hq
        exact ⟨_, by simp only [q, zgn h hx, zgn h hy, g1], .lit _⟩
  | eqb neg x y =>
    simp only [qL] at hq
    cases hx : zeF (evD S.env x) with
    | none => rw [hx] at hq; cases hq
    | some u =>
      rw [hx] at hq
      cases hy : zeF (evD S.env y) with
      | none => rw [hy] at hq; cases hq
      | some u' =>
        rw [hy] at hq
        cases hq
        exact ⟨_, by simp only [q, zep h hx, zep h hy], .lit _⟩
  | eqn neg x =>
    simp only [qL] at hq
    split at hq
    · rename_i hx
      obtain ⟨v, g1, g2⟩ := zac h hx
      cases hq
      cases zgY g2
      exact ⟨_, by simp only [q, g1], .lit _⟩
    · rename_i β s n len cap st hx
      obtain ⟨v, g1, g2⟩ := zac h hx
      cases he : zdk S.heap β n st with
      | some es =>
        rw [he] at hq
        simp only at hq
        split at hq
        · cases hq
        · rename_i hne
          cases hq
          rcases slR h.heap he g2 with ⟨b', vs, q1, rfl, _⟩ | ⟨_, _, _, _, _, rfl, _⟩
          · exact ⟨_, by simp only [q, g1], .lit _⟩
          · simp at hne
      | none => rw [he] at hq; cases hq
    · rename_i t n els hx
      obtain ⟨v, g1, g2⟩ := zac h hx
      split at hq
      · cases hq
      · rename_i hne
        cases hq
        cases g2 with
        | fz _ _ _ _ _ _ => exact ⟨_, by simp only [q, g1], .lit _⟩
        | fz0 => simp at hne
        | fzn => simp at hne
    · cases hq
  | eqi neg x =>
    simp only [qL] at hq
    split at hq
    · rename_i hx
      obtain ⟨v, g1, g2⟩ := zac h hx
      cases hq
      cases zgY g2
      exact ⟨_, by simp only [q, g1], .lit _⟩
    · rename_i t d hx
      obtain ⟨v, g1, g2⟩ := zac h hx
      cases hq
      cases g2
      exact ⟨_, by simp only [q, g1], .lit _⟩
    · cases hq
  | eqp neg x =>
    simp only [qL] at hq
    split at hq
    · rename_i hx
      obtain ⟨v, g1, g2⟩ := zac h hx
      cases hq
      cases zgY g2
      exact ⟨_, by simp only [q, g1], .lit _⟩
    · rename_i hx
      obtain ⟨v, g1, g2⟩ := zac h hx
      cases hq
      cases g2
      exact ⟨_, by simp only [q, g1], .lit _⟩
    · rename_i hx
      obtain ⟨v, g1, g2⟩ := zac h hx
      cases hq
      cases g2
      exact ⟨_, by simp only [q, g1], .lit _⟩
    · cases hq
  | un op x =>
    simp only [qL] at hq
    cases hx : zmF (evD S.env x) with
    | none => rw [hx] at hq; cases hq
    | some u =>
      rw [hx] at hq
      obtain ⟨w, g1, rfl⟩ := zkm hq
      exact ⟨_, by simp only [q, zgn h hx, Option.bind_some, g1], .lit _⟩
  | conv k x =>
    simp only [qL] at hq
    cases hx : zhK (evD S.env x) with
    | none => rw [hx] at hq; cases hq
    | some u => rw [hx] at hq; cases hq; exact ⟨_, by simp only [q, zc3 h hx], .lit _⟩
  | len x =>
    simp only [qL] at hq
    cases hx : evD S.env x with
    | none => rw [hx] at hq; cases hq
    | some e =>
      rw [hx] at hq
      obtain ⟨v, g1, g2⟩ := zac h hx
      obtain ⟨v', g3, g4⟩ := znz h.heap g2 hq
      exact ⟨v', by simp only [q, g1, Option.bind_some, g3], g4⟩
  | mm b xs =>
    simp only [qL] at hq
    cases hx : zfW S.env xs with
    | none => rw [hx] at hq; cases hq
    | some l =>
      rw [hx] at hq
      obtain ⟨vs, g1, g2⟩ := zbA h hx
      simp only at hq
      split at hq
      · rename_i v vs' hl
        obtain ⟨w, g3, rfl⟩ := zkm hq
        rw [zl5 hl g2] at g1
        exact ⟨_, by simp only [q, g1, g3], .lit _⟩
      · cases hq
  | ext x j =>
    simp only [qL] at hq
    split at hq
    · rename_i ds hx
      obtain ⟨v, g1, g2⟩ := zac h hx
      cases g2 with
      | tup k1 k2 =>
        obtain ⟨v', e1, e2⟩ := Rs.get ⟨k1, k2⟩ hq
        exact ⟨v', by simp [q, g1, e1], e2⟩
    · cases hq
  | slc n x lo hi mx =>
    simp only [qL] at hq
    cases hx : evD S.env x with
    | none => rw [hx] at hq; cases hq
    | some e =>
      rw [hx] at hq
      cases h1 : zfM S.env lo with
      | none => rw [h1] at hq; cases hq
      | some l =>
        rw [h1] at hq
        cases h2 : zfM S.env hi with
        | none => rw [h2] at hq; cases hq
        | some hh =>
          rw [h2] at hq
          cases h3 : zfM S.env mx with
          | none => rw [h3] at hq; cases hq
          | some m =>
            rw [h3] at hq
            obtain ⟨v, g1, g2⟩ := zac h hx
            obtain ⟨v', g3, g4⟩ := zm7 h.heap g2 hq
            exact ⟨v', by simp only [q, g1, zh3 h h1, zh3 h h2, zh3 h h3, zjl g3], g4⟩
  | nilck x =>
    simp only [qL] at hq
    split at hq
    · rename_i hx
      obtain ⟨v, g1, g2⟩ := zac h hx
      cases hq
      refine ⟨v, ?_, g2⟩
      cases g2
      simp only [q, g1]
    · rename_i hx
      obtain ⟨v, g1, g2⟩ := zac h hx
      cases hq
      refine ⟨v, ?_, g2⟩
      cases g2
      simp only [q, g1]
    · rename_i hx
      obtain ⟨v, g1, g2⟩ := zac h hx
      cases hq
      refine ⟨v, ?_, g2⟩
      cases g2
      simp only [q, g1]
    · rename_i β n i off st hx
      obtain ⟨v, g1, g2⟩ := zac h hx
      cases he : zdk S.heap β n st with
      | none => rw [he] at hq; cases hq
      | some es =>
        rw [he] at hq
        cases hq
        obtain ⟨b', vs, q1, e, _⟩ := zlZ h.heap he g2
        subst e
        exact ⟨_, by simp only [q, g1], g2⟩
    · cases hq
  | clo f xs ys =>
    simp only [qL] at hq
    cases hx : zfW S.env xs with
    | none => rw [hx] at hq; cases hq
    | some l =>
      rw [hx] at hq
      cases hy : zfW S.env ys with
      | none => rw [hy] at hq; cases hq
      | some l' =>
        rw [hy] at hq
        cases hq
        obtain ⟨vs, g1, g2⟩ := zbA h hx
        obtain ⟨us, g3, g4⟩ := zbA h hy
        exact ⟨_, by simp only [q, g1, g3], .clo g2.1 g4.1 g2.2 g4.2⟩
  | mkI t x =>
    simp only [qL] at hq
    cases hx : evD S.env x with
    | none => rw [hx] at hq; cases hq
    | some e =>
      rw [hx] at hq
      cases hq
      obtain ⟨v, g1, g2⟩ := zac h hx
      exact ⟨_, by simp only [q, g1, Option.map_some], .ifc g2⟩
  | _ => cases hq
end
end Go.Lx
