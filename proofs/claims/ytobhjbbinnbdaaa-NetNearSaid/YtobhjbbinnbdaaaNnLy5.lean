/-
  Trees: an operation that makes or writes memory does what the machine's does. Conditions: none.
-/
import Derived.Test.YtobhjbbinnbdaaaNnLy4
namespace Go.Lx
open Go Go.Mx
section
variable {c : Cx} {S : LSt} {M : St} {L : List LB} {H : zaj} {B : Nat}
theorem zsS {β s n len st : Nat} {cap : Option Nat} {v : V} (hr : R c (.sl β s n len cap st) v) : (∃ b m, c.ρ β = some (.list b m) ∧ ((st < m ∧ v.one = true) ∨ (st = m ∧ v = .sl b (s * n) n len cap))) ∨ (c.ρ β = some .ghost ∧ v = .lit (.slice none 0 0)) := by
  cases hr with
  | sl g1 g2 => exact .inl ⟨_, _, g1, g2⟩
  | slg g1 => exact .inr ⟨g1, rfl⟩
theorem zh0 {β s n len st b : Nat} {cap : Option Nat} {v : V} (hr : R c (.sl β s n len cap st) v) (hρ : c.ρ β = some (.list b st)) : v = .sl b (s * n) n len cap := by
  rcases zsS hr with ⟨b', m, h1, h2⟩ | ⟨h1, _⟩
  · rw [hρ] at h1
    cases h1
    rcases h2 with ⟨h2, _⟩ | ⟨_, h2⟩
    · omega
    · exact h2
  · rw [hρ] at h1; cases h1
theorem ziF {α : Type} {l : List α} {i : Nat} {x : α} (h : l[i]? = some x) : l.set i x = l := by
  apply List.ext_getElem?
  intro j
  by_cases hj : i = j
  · subst hj
    rw [List.getElem?_set_self (List.getElem?_eq_some_iff.1 h).1, h]
  · rw [List.getElem?_set_ne hj]
theorem zoh {n : Nat} : ∀ {es : List (List D)}, (∀ cells, cells ∈ es → cells.length = n) → ∀ {j : Nat} {d : D}, es.flatten[j]? = some d → ∃ (i : Nat) (cells : List D) (k : Nat), es[i]? = some cells ∧ cells[k]? = some d ∧ j = i * n + k
  | [], _, j, d, h => by simp at h
  | e :: es, hu, j, d, h => by
    have he := hu e (by simp)
    rw [List.flatten_cons] at h
    by_cases hj : j < e.length
    · rw [List.getElem?_append_left hj] at h
      exact ⟨0, e, j, rfl, h, by omega⟩
    · rw [List.getElem?_append_right (by omega)] at h
      obtain ⟨i, cells, k, h1, h2, h3⟩ := zoh (fun x hx => hu x (List.mem_cons_of_mem _ hx)) h
      refine ⟨i + 1, cells, k, by simpa using h1, h2, ?_⟩
      rw [Nat.succ_mul]
      omega
theorem ztM (h : RelH c L H) {t : Bool} {n : Nat} {els : List (List D)} {b o : Nat} {cs : List V} (h4 : o + els.length * n ≤ cs.length)
    (h5 : ∀ (i : Nat) (cells : List D), els[i]? = some cells → cells.length = n) (h6 : ∀ (i : Nat) (cells : List D) (k : Nat) d v, els[i]? = some cells → cells[k]? = some d → cs[o + i * n + k]? = some v → R (c.frz t) d v) :
    Els c n els ((cs.drop o).take (els.length * n)) := by
  have hu : ∀ cells, cells ∈ els → cells.length = n := fun cells hm => by
    obtain ⟨i, hi⟩ := List.getElem?_of_mem hm
    exact h5 i cells hi
  refine ⟨hu, ⟨by rw [zfS hu]; simp; omega, fun j d v g1 g2 => ?_⟩⟩
  obtain ⟨i, cells, k, k1, k2, rfl⟩ := zoh hu g1
  simp only [List.getElem?_take, List.getElem?_drop] at g2
  split at g2
  · refine (h6 i cells k d v k1 k2 ?_).zqh h.apart
    rw [Nat.add_assoc]
    exact g2
  · cases g2
theorem zdy (h : RelH c L H) {n : Nat} {e : D} {v : V} {src : List (List D)} (hr : R c e v) (hs : zlg L n e = some src) : ∃ l, zdT H n v = some (src.length, l) ∧ Els c n src l := by
  cases e with
  | lit u =>
    cases zgY hr
    unfold zlg at hs
    split at hs <;> first | (cases hs; done) | skip
    · rename_i heq; cases heq; cases hs; exact ⟨[], rfl, Els.nil n⟩
    all_goals (rename_i heq; cases heq)
  | sl β s n' len cap st =>
    simp only [zlg] at hs
    split at hs
    · rename_i hn
      subst hn
      cases he : zdk L β n st with
      | none => rw [he] at hs; cases hs
      | some es =>
        rw [he] at hs
        simp only at hs
        split at hs
        · rename_i hle
          cases hs
          rcases slR h he hr with ⟨b, vs, q1, rfl, q2, q3⟩ | ⟨rfl, rfl, rfl, _, _, rfl, _⟩
          · have hl : ((es.drop s).take len).length = len := by simp; omega
            rw [hl]
            by_cases h0 : len = 0
            · subst h0
              exact ⟨[], by simp [zdT], by simpa using Els.nil n⟩
            · refine ⟨_, ?_, q3.sub s len⟩
              have h1 : s * n + len * n ≤ vs.length := by rw [q3.zj6, ← Nat.add_mul]; exact Nat.mul_le_mul_right n hle
              simp only [zdT, beq_self_eq_true, cond_true]
              rw [show (len == 0) = false by simp [h0], cond_false, zbk q2, Option.bind_some]
              simp [slot, Nat.ble_eq_true_of_le h1]
          · exact ⟨[], by simp [zdT], by simpa using Els.nil n⟩
        · cases hs
    · cases hs
  | fz t n' els =>
    simp only [zlg] at hs
    split at hs
    · rename_i hn
      subst hn
      cases hs
      cases hr with
      | fz h1 h2 h3 h4 h5 h6 =>
        rename_i b o cap cs
        by_cases h0 : src.length = 0
        · have : src = [] := List.eq_nil_of_length_eq_zero h0
          subst this
          exact ⟨[], by simp [zdT], Els.nil n⟩
        · refine ⟨_, ?_, ztM h (b := b) h4 h5 h6⟩
          simp only [zdT, beq_self_eq_true, cond_true]
          rw [show (src.length == 0) = false by simpa using h0, cond_false, zbk (h.look h1), Option.bind_some]
          simp [slot, Nat.ble_eq_true_of_le h4]
      | fz0 => exact ⟨[], by simp [zdT], Els.nil n⟩
      | fzn => exact ⟨[], rfl, Els.nil n⟩
    · cases hs
  | z0 t n' =>
    simp only [zlg] at hs
    split at hs
    · rename_i hn
      subst hn
      cases hs
      cases hr with
      | z0 h1 h2 => exact ⟨[], by simp [zdT], Els.nil n⟩
      | z0n => exact ⟨[], rfl, Els.nil n⟩
    · cases hs
  | _ => cases hs
theorem Els.set {n : Nat} {es : List (List D)} {vs : List V} (h : Els c n es vs) {i : Nat} (hi : i < es.length) {cells : List D} {l : List V} (hc : cells.length = n) (hr : Rs c cells l) : Els c n (es.set i cells) (za1 vs (i * n) l) := by
  have h1 := ((h.take i).append (hc ▸ Els.one hr)).append (h.drop (i + 1))
  rw [List.set_eq_take_append_cons_drop, if_pos hi]
  rw [List.append_assoc, List.singleton_append] at h1
  unfold za1
  rw [← hr.1, hc]
  rw [show i * n + n = (i + 1) * n by rw [Nat.succ_mul]]
  exact h1
theorem zoe {vs l : List V} {o : Nat} (h : o + l.length ≤ vs.length) : (za1 vs o l).length = vs.length := by simp [za1]; omega
theorem zk1 (n len : Nat) (z : List Value) (hz : z.length = n) : Els c n (List.replicate len (z.map D.lit)) (zhL len (z.map V.lit)) := by
  refine ⟨fun cells hm => by rw [(List.mem_replicate.1 hm).2]; simpa using hz, ?_⟩
  unfold zhL
  induction len with
  | zero => exact Rs.nil c
  | succ k ih => rw [List.replicate_succ, List.replicate_succ, List.flatten_cons, List.flatten_cons]; exact (Rs.lits z).append ih
theorem zgP (h : Rel c S M) {n : Nat} : ∀ (parts : List (Nat × X)) {es es' : List (List D)} {vs : List V}, zhX S.env n es parts = some es' → Els c n es vs → ∃ vs', zgN M.env n vs parts = some vs' ∧ Els c n es' vs' ∧ es'.length = es.length
  | [], es, es', vs, he, hr => by cases he; exact ⟨vs, rfl, hr, rfl⟩
  | (i, x) :: r, es, es', vs, he, hr => by
    simp only [zhX] at he
    cases h1 : zbJ (evD S.env x) with
    | none => rw [h1] at he; cases he
    | some k =>
      rw [h1] at he
      simp only at he
      split at he
      · rename_i hc
        obtain ⟨k', g1, g2⟩ := zdb h h1
        obtain ⟨vs', g3, g4, g5⟩ := zgP h r he (hr.set hc.2 hc.1 g2)
        refine ⟨vs', ?_, g4, by rw [g5, List.length_set]⟩
        rw [zgN, g1]
        have e1 : (k'.length == n) = true := by rw [← g2.1, hc.1]; simp
        have e2 : Nat.ble (i * n + n) vs.length = true := Nat.ble_eq_true_of_le (by rw [hr.zj6, show i * n + n = (i + 1) * n by rw [Nat.succ_mul]]; exact Nat.mul_le_mul_right n hc.2)
        simp only [e1, e2, Bool.and_true, cond_true]
        exact g3
      · cases he
theorem zs6 {ds l : List D} {vs l' : List V} (h : Rs c ds vs) (hl : Rs c l l') (o : Nat) : Rs c (zlS ds o l) (za1 vs o l') := by
  unfold zlS za1
  rw [← hl.1]
  exact ((h.take o).append hl).append (h.drop _)
theorem ztT {vs l : List V} {a o m : Nat} (h : o + l.length ≤ m) (hm : a + m ≤ vs.length) : za1 vs a (za1 ((vs.drop a).take m) o l) = za1 vs (a + o) l := by
  have hlen : (za1 ((vs.drop a).take m) o l).length = m := by rw [zoe] <;> simp <;> omega
  apply List.ext_getElem?
  intro j
  unfold za1 at hlen ⊢
  rw [hlen]
  simp only [List.getElem?_append, List.length_append, List.length_take, List.getElem?_take, List.getElem?_drop, List.length_drop]
  repeat' split
  all_goals first | rfl | omega | (congr 1; omega)
theorem zkI (h : RelH c L H) (hB : B ≤ c.base) {n : Nat} {d : D} {v : V} {l : List D} {l' : List V} {L' : List LB} (hr : R c d v) (hl : Rs c l l') (hs : zec L n l d = some L') :
    ∃ β o cs, v = .ptr β o ∧ H[β]? = some (.blk cs) ∧ B ≤ β ∧ l'.length = n ∧ o + n ≤ cs.length ∧ RelH c L' (H.set β (.blk (za1 cs o l'))) ∧ Step c H c (H.set β (.blk (za1 cs o l'))) := by
  cases d with
  | ptr β o =>
    simp only [zec] at hs
    split at hs
    · rename_i ds heq
      split at hs
      · rename_i hc
        cases hs
        obtain ⟨b, vs, k1, k2, k3⟩ := h.obj β _ heq
        cases hr with
        | ptr g1 =>
          rw [k1] at g1
          cases g1
          have hw := h.write k1 rfl k2 (lb := .cells (zlS ds o l)) (vs := za1 vs o l') fun H' hH' => ⟨b, _, k1, hH', zs6 k3 hl o⟩
          exact ⟨b, o, vs, rfl, k2, Nat.le_trans hB (h.own β _ b k1 rfl).1, by rw [← hl.1]; exact hc.1, by rw [← k3.1]; exact hc.2, hw.1, hw.2⟩
      · cases hs
    · cases hs
  | eptr β n' i off st =>
    have key : ∀ es, zdk L β n' st = some es → ∀ cells, es[i]? = some cells → l.length = n → off + n ≤ cells.length → ∀ lb, (∀ H' b vs, c.ρ β = some (.list b st) → st = es.length → H'[b]? = some (.blk vs) → 0 < n' → Els c n' (es.set i (zlS cells off l)) vs → zkq c H' β lb) →
        ∃ β' o cs, v = .ptr β' o ∧ H[β']? = some (.blk cs) ∧ B ≤ β' ∧ l'.length = n ∧ o + n ≤ cs.length ∧ RelH c (L.set β lb) (H.set β' (.blk (za1 cs o l'))) ∧ Step c H c (H.set β' (.blk (za1 cs o l'))) := by
      intro es he cells hi hln hoff lb hlb
      obtain ⟨b, vs, k1, k2, k3, k4⟩ := zlZ h he hr
      obtain ⟨e1, e2, _⟩ := zcN h he
      have hil := (List.getElem?_eq_some_iff.1 hi).1
      have hcl : cells.length = n' := k4.len cells (List.mem_of_getElem? hi)
      have hroom : i * n' + n' ≤ vs.length := by rw [k4.zj6, show i * n' + n' = (i + 1) * n' by rw [Nat.succ_mul]]; exact Nat.mul_le_mul_right n' hil
      have hE := k4.set hil (cells := zlS cells off l) (l := za1 ((vs.drop (i * n')).take n') off l') (by simp [zlS]; omega) (zs6 (k4.at_ hi) hl off)
      rw [ztT (by rw [← hl.1]; omega) hroom] at hE
      have hw := h.write k1 rfl k3 (lb := lb) (vs := za1 vs (i * n' + off) l') fun H' hH' => hlb H' b _ k1 e2 hH' e1 hE
      exact ⟨b, _, vs, k2, k3, Nat.le_trans hB (h.own β _ b k1 rfl).1, by rw [← hl.1]; exact hln, by omega, hw.1, hw.2⟩
    simp only [zec] at hs
    split at hs
    · rename_i n'' es heq
      split at hs
      · rename_i hc
        obtain ⟨rfl, hc2⟩ := hc
        split at hs
        · rename_i cells hi
          split at hs
          · rename_i hcc
            cases hs
            exact key es (by simp [zdk, heq, hc2]) cells hi hcc.1 hcc.2 _ fun H' b vs g1 g2 g3 g4 g5 => ⟨g4, b, vs, by rw [List.length_set, ← g2]; exact g1, g3, g5⟩
          · cases hs
        · cases hs
      · cases hs
    · rename_i n'' es heq
      split at hs
      · rename_i hc
        obtain ⟨rfl, hc2⟩ := hc
        split at hs
        · rename_i cells hi
          split at hs
          · rename_i hcc
            cases hs
            refine key es (by simp [zdk, heq, hc2]) cells hi hcc.1 hcc.2 _ fun H' b vs g1 g2 g3 g4 g5 => ⟨g4, .inr ⟨?_, b, vs, by rw [List.length_set, ← g2]; exact g1, g3, g5⟩⟩
            have hil := (List.getElem?_eq_some_iff.1 hi).1
            intro h0
            have := congrArg List.length h0
            simp at this
            subst this
            simp at hil
          · cases hs
        · cases hs
      · cases hs
    · cases hs
  | _ => cases hs
theorem zog (h : RelH c L H) {n : Nat} {es : List (List D)} {vs : List V} (hn : 0 < n) (he : Els c n es vs) (hne : es ≠ []) :
    RelH (c.put L.length (.list H.length es.length)) (L ++ [.grow n es]) (H ++ [.blk vs]) ∧ Step c H (c.put L.length (.list H.length es.length)) (H ++ [.blk vs]) ∧ c.le (c.put L.length (.list H.length es.length)) ∧
      R (c.put L.length (.list H.length es.length)) (.sl L.length 0 n es.length none es.length) (.sl H.length 0 n es.length none) := by
  obtain ⟨g1, g2, g3⟩ := h.new (x := .list H.length es.length) (lb := .grow n es) (o := [.blk vs]) (.inr ⟨vs, rfl, rfl⟩) fun c' hle hρ => ⟨hn, .inr ⟨hne, _, vs, hρ, by simp, he.mono hle⟩⟩
  exact ⟨g1, g2, g3, .sl (zaC _ _ _) (.inr ⟨rfl, by simp⟩)⟩
theorem zou (h : RelH c L H) (hB : B ≤ c.base) {n bytes : Nat} {d d' : D} {v w : V} {src : List (List D)} {l : List V} {L' : List LB} {env : List V} {s x : X} (hv : ev env s = some v) (hx : (ev env x).bind (zdT H n) = some (src.length, l))
    (hr : R c d v) (hl : Els c n src l) (hs : zj5 L n bytes src d = some (d', L')) :
    ∃ v' H' c', eff B H env (.app n bytes s x) = some (v', H') ∧ RelH c' L' H' ∧ Step c H c' H' ∧ c.le c' ∧ R c' d' v' := by
  have hle0 : c.le c := ⟨fun _ _ h => h, fun _ _ h => h, fun β y hy => ⟨y, hy, Lc.up.refl y⟩, h.apart⟩
  have hnil : v = .lit (.slice none 0 0) → 0 < n → src.length * bytes ≤ zal → ∃ v' H' c', eff B H env (.app n bytes s x) = some (v', H') ∧ RelH c' (L ++ [.grow n src]) H' ∧ Step c H c' H' ∧ c.le c' ∧ R c' (.sl L.length 0 n src.length none src.length) v' := by
    intro hv0 hn hb
    subst hv0
    by_cases h0 : src = []
    · subst h0
      obtain ⟨g1, g2, g3⟩ := h.new (x := .ghost) (lb := .grow n []) (o := []) (.inl ⟨rfl, rfl⟩) fun c' hle hρ => ⟨hn, .inl ⟨rfl, hρ⟩⟩
      rw [List.append_nil] at g1 g2
      exact ⟨_, _, _, by simp [eff, hv, hx], g1, g2, g3, .slg (zaC _ _ _)⟩
    · obtain ⟨g1, g2, g3, g4⟩ := zog h hn hl h0
      have h0' : (src.length == 0) = false := by
        cases src with
        | nil => exact absurd rfl h0
        | cons _ _ => rfl
      exact ⟨_, _, _, by simp only [eff, hv, hx, h0', cond_false, Nat.ble_eq_true_of_le hb, cond_true], g1, g2, g3, g4⟩
  cases d with
  | lit u =>
    cases zgY hr
    unfold zj5 at hs
    split at hs <;> first | (cases hs; done) | skip
    · rename_i heq
      cases heq
      split at hs
      · rename_i hc; cases hs; exact hnil rfl hc.1 hc.2
      · cases hs
    all_goals (rename_i heq; cases heq)
  | z0 t n' =>
    simp only [zj5] at hs
    split at hs
    · rename_i hc
      obtain ⟨rfl, hc1, hc2, hc3⟩ := hc
      cases hs
      cases hr with
      | z0n => exact hnil rfl hc1 hc3
      | z0 h1 h2 =>
        rename_i b o cs
        have h0 : src ≠ [] := by rintro rfl; simp at hc2
        obtain ⟨g1, g2, g3, g4⟩ := zog h hc1 hl h0
        have h0' : (src.length == 0) = false := by simp; exact h0
        have h1' : Nat.ble (0 + src.length) 0 = false := by
          cases hb : Nat.ble (0 + src.length) 0 with
          | false => rfl
          | true => have := Nat.le_of_ble_eq_true hb; omega
        have h1'' : Nat.ble src.length 0 = false := by rw [← h1', Nat.zero_add]
        refine ⟨.sl H.length 0 n src.length none, _, _, ?_, g1, g2, g3, g4⟩
        simp only [eff, hv, hx, beq_self_eq_true, Bool.not_true, cond_false, h0', zbk (h.look h1), h1', Nat.zero_mul, Nat.add_zero, Nat.ble_eq_true_of_le h2, Nat.zero_add, h1'', Nat.ble_eq_true_of_le hc3, Bool.and_self, cond_true, List.take_zero, List.nil_append]
    · cases hs
  | fz t n' els =>
    simp only [zj5] at hs
    split at hs
    · rename_i hc
      obtain ⟨rfl, hc1, hc2⟩ := hc
      cases hs
      have : els = [] := List.eq_nil_of_length_eq_zero hc1
      subst this
      refine ⟨v, H, c, ?_, h, Step.refl _ _, hle0, hr⟩
      rw [hc2] at hx
      cases hr with
      | fz h1 h2 h3 h4 h5 h6 => simp [eff, hv, hx]
      | fz0 => simp [eff, hv, hx]
      | fzn => simp [eff, hv, hx]
    · cases hs
  | sl β s0 n' len cap st =>
    simp only [zj5] at hs
    split at hs
    · rename_i n'' es heq
      split at hs
      · rename_i hc
        obtain ⟨rfl, rfl, rfl, rfl, rfl, rfl, hc⟩ := hc
        cases hs
        obtain ⟨hn, hg⟩ := h.obj β _ heq
        rcases hg with ⟨rfl, hρ⟩ | ⟨hne, b, vs, hρ, hH, hE⟩
        · cases hr with
          | sl g1 g2 => rw [hρ] at g1; cases g1
          | slg g1 =>
            simp only [List.length_nil, Nat.zero_add, List.nil_append] at hc ⊢
            by_cases h0 : src = []
            · subst h0
              rw [ziF heq]
              exact ⟨_, H, c, by simp [eff, hv, hx], h, Step.refl _ _, hle0, .slg hρ⟩
            · have hpos : 0 < src.length := by
                cases src with
                | nil => exact absurd rfl h0
                | cons _ _ => simp
              obtain ⟨g1, g2, g3⟩ := h.move (β := β) (m := src.length) (vs := l) (lb := .grow n src) hρ (.inr ⟨_, _, rfl, hpos⟩) (H1 := H) rfl (fun _ _ => rfl) (fun b hb => by cases hb) fun c' hle hρ' => ⟨hn, .inr ⟨h0, _, l, hρ', by simp, hl.mono hle⟩⟩
              have h0' : (src.length == 0) = false := by simp; exact h0
              exact ⟨.sl H.length 0 n src.length none, _, _, by simp only [eff, hv, hx, h0', cond_false, Nat.ble_eq_true_of_le hc, cond_true], g1, g2, g3, .sl (zaC _ _ _) (.inr ⟨rfl, by simp⟩)⟩
        · have hvv := zh0 hr hρ
          · subst hvv
            by_cases h0 : src = []
            · subst h0
              simp only [List.append_nil, List.length_nil, Nat.add_zero]
              rw [ziF heq]
              exact ⟨.sl b (0 * n) n es.length none, H, c, by simp [eff, hv, hx], h, Step.refl _ _, hle0, .sl hρ (.inr ⟨rfl, rfl⟩)⟩
            · have hpos : 0 < src.length := by
                cases src with
                | nil => exact absurd rfl h0
                | cons _ _ => simp
              have h0' : (src.length == 0) = false := by simp; exact h0
              have hob := h.own β _ b hρ rfl
              obtain ⟨g1, g2, g3⟩ := h.move (β := β) (m := es.length + src.length) (vs := vs ++ l) (lb := .grow n (es ++ src)) hρ (.inr ⟨_, _, rfl, by omega⟩) (H1 := H.set b .dead) (by simp)
                (fun b' hb' => List.getElem?_set_ne (fun he => hb' (by rw [he]; rfl))) (fun b' hb' => by cases hb'; exact ⟨_, hH⟩) fun c' hle hρ' => ⟨hn, .inr ⟨by simp [hne], _, vs ++ l, by rw [List.length_append]; exact hρ', by simp, (hE.append hl).mono hle⟩⟩
              refine ⟨.sl H.length 0 n (es.length + src.length) none, _, _, ?_, g1, g2, g3, .sl (zaC _ _ _) (.inr ⟨rfl, by simp⟩)⟩
              have e1 : (0 + es.length * n == vs.length) = true := by rw [hE.zj6]; simp
              have e2 : Nat.ble (0 + (es.length + src.length) * n) vs.length = false := by
                cases hq : Nat.ble (0 + (es.length + src.length) * n) vs.length with
                | false => rfl
                | true =>
                  have h5 := Nat.le_of_ble_eq_true hq
                  have h6 := Nat.mul_pos hpos hn
                  rw [hE.zj6, Nat.add_mul] at h5
                  omega
              simp only [eff, hv, hx, beq_self_eq_true, Bool.not_true, cond_false, h0', zbk hH, e2, Nat.ble_eq_true_of_le (Nat.le_trans hB hob.1), Nat.zero_mul, e1, Nat.ble_eq_true_of_le hc, Bool.and_self, cond_true, List.drop_zero]
      · cases hs
    · rename_i n'' es heq
      split at hs
      · rename_i hc
        obtain ⟨rfl, rfl, rfl⟩ := hc
        obtain ⟨hn, b, vs, hρ, hH, hE⟩ := h.obj β _ heq
        have hvv := zh0 hr hρ
        · subst hvv
          have hob := h.own β _ b hρ rfl
          split at hs
          · rename_i k
            split at hs
            · rename_i hk
              split at hs
              · rename_i hroom
                cases hs
                have hE' := ((hE.take (s0 + len)).append hl).append (hE.drop (s0 + len + src.length))
                have hlen : (es.take (s0 + len) ++ src ++ es.drop (s0 + len + src.length)).length = es.length := by simp; omega
                by_cases h0 : src = []
                · subst h0
                  simp only [List.append_nil, List.length_nil, Nat.add_zero, List.take_append_drop]
                  rw [ziF heq]
                  exact ⟨_, H, c, by simp [eff, hv, hx], h, Step.refl _ _, hle0, .sl hρ (.inr ⟨rfl, rfl⟩)⟩
                · have h0' : (src.length == 0) = false := by simp; exact h0
                  have hvs : za1 vs (s0 * n + len * n) l = vs.take ((s0 + len) * n) ++ l ++ vs.drop ((s0 + len + src.length) * n) := by
                    unfold za1
                    rw [← hl.rel.1, zfS hl.len, ← Nat.add_mul, ← Nat.add_mul]
                  have hw := h.write hρ rfl hH (lb := .els n (es.take (s0 + len) ++ src ++ es.drop (s0 + len + src.length))) (vs := za1 vs (s0 * n + len * n) l) fun H' hH' => ⟨hn, b, _, by rw [hlen]; exact hρ, hH', by rw [hvs]; exact hE'⟩
                  refine ⟨.sl b (s0 * n) n (len + src.length) (some k), _, c, ?_, hw.1, hw.2, hle0, .sl hρ (.inr ⟨rfl, rfl⟩)⟩
                  have e1 : Nat.ble (s0 * n + (len + src.length) * n) vs.length = true := Nat.ble_eq_true_of_le (by rw [hE.zj6, ← Nat.add_mul]; exact Nat.mul_le_mul_right n (by omega))
                  simp only [eff, hv, hx, beq_self_eq_true, Bool.not_true, cond_false, h0', zbk hH, Nat.ble_eq_true_of_le hk, Nat.ble_eq_true_of_le (Nat.le_trans hB hob.1), e1, Bool.and_self, cond_true]
              · cases hs
            · rename_i hk
              split at hs
              · rename_i hc
                cases hs
                have h0' : (src.length == 0) = false := by simp; intro h; rw [h] at hc; simp at hc
                have hk' : Nat.ble (len + src.length) k = false := by
                  cases hb : Nat.ble (len + src.length) k with
                  | false => rfl
                  | true => exact absurd (Nat.le_of_ble_eq_true hb) hk
                have hE' := (hE.sub s0 len).append hl
                have hlen : ((es.drop s0).take len ++ src).length = len + src.length := by simp; omega
                have hne : (es.drop s0).take len ++ src ≠ [] := by
                  intro h0
                  have h00 := hlen
                  rw [h0] at h00
                  simp only [List.length_nil] at h00
                  omega
                obtain ⟨g1, g2, g3, g4⟩ := zog h hn hE' hne
                rw [hlen] at g1 g2 g3 g4
                refine ⟨.sl H.length 0 n (len + src.length) none, _, _, ?_, g1, g2, g3, g4⟩
                have e1 : Nat.ble (s0 * n + len * n) vs.length = true := Nat.ble_eq_true_of_le (by rw [hE.zj6, ← Nat.add_mul]; exact Nat.mul_le_mul_right n hc.2.1)
                simp only [eff, hv, hx, beq_self_eq_true, Bool.not_true, cond_false, h0', zbk hH, hk', e1, Nat.ble_eq_true_of_le hc.2.2, Bool.and_self, cond_true]
              · cases hs
          · cases hs
      · cases hs
    · cases hs
  | _ => cases hs
theorem zmr (h : Rel c S M) (hB : B ≤ c.base) {i : I} {d : D} {L' : List LB} (he : zfP S.heap S.env i = some (d, L')) :
    ∃ v H' c', eff B M.heap M.env i = some (v, H') ∧ RelH c' L' H' ∧ Step c M.heap c' H' ∧ c.le c' ∧ R c' d v := by
  have hle0 : c.le c := ⟨fun _ _ h => h, fun _ _ h => h, fun β y hy => ⟨y, hy, Lc.up.refl y⟩, h.heap.apart⟩
  cases i with
  | alloc z =>
    cases he
    obtain ⟨g1, g2, g3⟩ := h.heap.new (x := .cell M.heap.length) (lb := .cells (z.map .lit)) (o := [.blk (z.map .lit)]) (.inr ⟨_, rfl, rfl⟩) fun c' hle hρ => ⟨_, _, hρ, by simp, Rs.lits z⟩
    exact ⟨_, _, _, rfl, g1, g2, g3, .ptr (zaC _ _ _)⟩
  | box x =>
    simp only [zfP] at he
    cases hx : zbJ (evD S.env x) with
    | none => rw [hx] at he; cases he
    | some l =>
      rw [hx] at he
      cases he
      obtain ⟨l', k1, k2⟩ := zdb h hx
      obtain ⟨g1, g2, g3⟩ := h.heap.new (x := .cell M.heap.length) (lb := .cells l) (o := [.blk l']) (.inr ⟨_, rfl, rfl⟩) fun c' hle hρ => ⟨_, _, hρ, by simp, k2.mono hle⟩
      exact ⟨_, _, _, by simp only [eff, k1], g1, g2, g3, .ptr (zaC _ _ _)⟩
  | bsl n len z parts =>
    simp only [zfP] at he
    split at he
    · rename_i hn
      cases hf : zhX S.env n (List.replicate len (z.map .lit)) parts with
      | none => rw [hf] at he; cases he
      | some es =>
        rw [hf] at he
        cases he
        obtain ⟨vs, k1, k2, k3⟩ := zgP h parts hf (zk1 n len z hn.2)
        have hl : es.length = len := by rw [k3]; simp
        obtain ⟨g1, g2, g3⟩ := h.heap.new (x := .list M.heap.length len) (lb := .els n es) (o := [.blk vs]) (.inr ⟨_, rfl, rfl⟩) fun c' hle hρ => ⟨hn.1, _, _, by rw [hl]; exact hρ, by simp, k2.mono hle⟩
        exact ⟨.sl M.heap.length 0 n len (some len), _, _, by simp only [eff, k1], g1, g2, g3, .sl (zaC _ _ _) (.inr ⟨rfl, by simp⟩)⟩
    · cases he
  | store n a x =>
    simp only [zfP] at he
    cases ha : evD S.env a with
    | none => rw [ha] at he; cases he
    | some d0 =>
      rw [ha] at he
      cases hx : zbJ (evD S.env x) with
      | none => rw [hx] at he; cases he
      | some l =>
        rw [hx] at he
        simp only at he
        cases hs : zec S.heap n l d0 with
        | none => rw [hs] at he; cases he
        | some L1 =>
          rw [hs] at he
          cases he
          obtain ⟨v, k1, k2⟩ := zac h ha
          obtain ⟨l', k3, k4⟩ := zdb h hx
          obtain ⟨β, o, cs, rfl, e1, e2, e3, e4, e5, e6⟩ := zkI h.heap hB k2 k4 hs
          refine ⟨zaF, _, c, ?_, e5, e6, hle0, .any _⟩
          have e3' : (l'.length == n) = true := by simp [e3]
          simp only [eff, k1, k3, zbk e1, Nat.ble_eq_true_of_le e2, e3', Nat.ble_eq_true_of_le e4, Bool.and_self, cond_true]
  | mk n bytes z l k =>
    simp only [zfP] at he
    cases h1 : zhK (evD S.env l) with
    | none => rw [h1] at he; cases he
    | some l' =>
      rw [h1] at he
      cases h2 : zhK (evD S.env k) with
      | none => rw [h2] at he; cases he
      | some k' =>
        rw [h2] at he
        simp only at he
        split at he
        · rename_i hc
          obtain ⟨hn, c1, c2, c3⟩ := hc
          cases he
          have k2 := zk1 (c := c) n k'.toNat z hn.2
          obtain ⟨g1, g2, g3⟩ := h.heap.new (x := .list M.heap.length k'.toNat) (lb := .els n (List.replicate k'.toNat (z.map .lit))) (o := [.blk (zhL k'.toNat (z.map .lit))]) (.inr ⟨_, rfl, rfl⟩) fun c' hle hρ => ⟨hn.1, _, _, by simpa using hρ, by simp, k2.mono hle⟩
          refine ⟨_, _, _, ?_, g1, g2, g3, .sl (zaC _ _ _) (.inr ⟨rfl, rfl⟩)⟩
          simp only [eff, zc3 h h1, zc3 h h2, decide_eq_true c1, decide_eq_true c2, decide_eq_true c3, Bool.and_self, cond_true, Nat.zero_mul]
        · cases he
  | app n bytes s x =>
    simp only [zfP] at he
    cases hs : evD S.env s with
    | none => rw [hs] at he; cases he
    | some d0 =>
      rw [hs] at he
      cases hx : evD S.env x with
      | none => rw [hx] at he; cases he
      | some e =>
        rw [hx] at he
        simp only at he
        cases hsrc : zlg S.heap n e with
        | none => rw [hsrc] at he; cases he
        | some src =>
          rw [hsrc] at he
          obtain ⟨v, k1, k2⟩ := zac h hs
          obtain ⟨v', k3, k4⟩ := zac h hx
          obtain ⟨l, k5, k6⟩ := zdy h.heap k4 hsrc
          exact zou h.heap hB k1 (by rw [k3]; exact k5) k2 k6 he (w := v)
  | copy n x s =>
    simp only [zfP] at he
    split at he
    · rename_i β s0 n' len cap st hx
      cases hs : evD S.env s with
      | none => rw [hs] at he; cases he
      | some e =>
        rw [hs] at he
        simp only at he
        cases hsrc : zlg S.heap n e with
        | none => rw [hsrc] at he; cases he
        | some src =>
          rw [hsrc] at he
          simp only at he
          split at he
          · rename_i n'' es heq
            split at he
            · rename_i hc
              obtain ⟨rfl, rfl, rfl, hc⟩ := hc
              cases he
              obtain ⟨v, k1, k2⟩ := zac h hx
              obtain ⟨v', k3, k4⟩ := zac h hs
              obtain ⟨l, k5, k6⟩ := zdy h.heap k4 hsrc
              obtain ⟨hn, b, vs, hρ, hH, hE⟩ := h.heap.obj β _ heq
              have hvv := zh0 k2 hρ
              · subst hvv
                have hob := h.heap.own β _ b hρ rfl
                have hm : min src.length len ≤ len := Nat.min_le_right _ _
                have hm' : min src.length len ≤ src.length := Nat.min_le_left _ _
                generalize hmm : min src.length len = m at *
                have hE' := ((hE.take s0).append (k6.take m)).append (hE.drop (s0 + m))
                have hlen : (es.take s0 ++ src.take m ++ es.drop (s0 + m)).length = es.length := by simp; omega
                have hvs : za1 vs (s0 * n) (l.take (m * n)) = vs.take (s0 * n) ++ l.take (m * n) ++ vs.drop ((s0 + m) * n) := by
                  unfold za1
                  have : (l.take (m * n)).length = m * n := by
                    rw [List.length_take, k6.zj6]
                    exact Nat.min_eq_left (Nat.mul_le_mul_right n hm')
                  rw [this, ← Nat.add_mul]
                have hw := h.heap.write hρ rfl hH (lb := .els n (es.take s0 ++ src.take m ++ es.drop (s0 + m))) (vs := za1 vs (s0 * n) (l.take (m * n))) fun H' hH' => ⟨hn, b, _, by rw [hlen]; exact hρ, hH', by rw [hvs]; exact hE'⟩
                refine ⟨.lit (.int .i64 (m : Nat)), _, c, ?_, hw.1, hw.2, hle0, .lit _⟩
                have e1 : Nat.ble (s0 * n + m * n) vs.length = true := Nat.ble_eq_true_of_le (by rw [hE.zj6, ← Nat.add_mul]; exact Nat.mul_le_mul_right n (by omega))
                simp only [eff, k1, k3, k5, zbk hH, beq_self_eq_true, Nat.ble_eq_true_of_le (Nat.le_trans hB hob.1), hmm, e1, Bool.and_self, cond_true]
            · cases he
          · cases he
    · cases he
  | _ => cases he
end
end Go.Lx
