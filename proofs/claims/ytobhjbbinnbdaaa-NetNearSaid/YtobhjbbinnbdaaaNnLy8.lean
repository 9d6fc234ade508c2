/-
  Trees: calls. A function by what it makes of trees. Conditions: none.
-/
import Derived.Test.YtobhjbbinnbdaaaNnLy7
namespace Go.Lx
open Go Go.Mx
inductive Snp (L : List LB) (t : Bool) : D → D → Prop
  | any : Snp L t .any .any
  | lit (v) : Snp L t (.lit v) (.lit v)
  | nil (n) : Snp L t (.lit (.slice none 0 0)) (.fz t n [])
  | same (n els) : t = true → Snp L t (.fz t n els) (.fz t n els)
  | fz0 (t' n) : Snp L t (.fz t' n []) (.fz t n [])
  | z0 (t' n) : Snp L t (.z0 t' n) (.fz t n [])
  | fz {t' n els els'} : (t = true → t' = true) → els.length = els'.length → (∀ (i : Nat) cells cells', els[i]? = some cells → els'[i]? = some cells' → cells.length = cells'.length) →
      (∀ (i k : Nat) cells cells' d d', els[i]? = some cells → els'[i]? = some cells' → cells[k]? = some d → cells'[k]? = some d' → Snp L t d d') → Snp L t (.fz t' n els) (.fz t n els')
  | sl {β s n len cap st es els'} : zdk L β n st = some es → s + len ≤ es.length → (∀ c, cap = some c → len ≤ c) → len = els'.length → (∀ (i : Nat) cells cells', es[s + i]? = some cells → els'[i]? = some cells' → cells.length = cells'.length) →
      (∀ (i k : Nat) cells cells' d d', es[s + i]? = some cells → els'[i]? = some cells' → cells[k]? = some d → cells'[k]? = some d' → Snp L t d d') → Snp L t (.sl β s n len cap st) (.fz t n els')
  | clo {f xs ys xs' ys'} : xs.length = xs'.length → ys.length = ys'.length → (∀ (i : Nat) d d', xs[i]? = some d → xs'[i]? = some d' → Snp L t d d') → (∀ (i : Nat) d d', ys[i]? = some d → ys'[i]? = some d' → Snp L t d d') → Snp L t (.clo f xs ys) (.clo f xs' ys')
  | ptr {β o ds ds'} : L[β]? = some (.cells ds) → o + ds'.length ≤ ds.length → (∀ (k : Nat) d d', ds[o + k]? = some d → ds'[k]? = some d' → Snp L t d d') → Snp L t (.ptr β o) (.fptr t ds')
  | ifc {ty d d'} : Snp L t d d' → Snp L t (.ifc ty d) (.ifc ty d')
  | agg {ds ds'} : ds.length = ds'.length → (∀ (i : Nat) d d', ds[i]? = some d → ds'[i]? = some d' → Snp L t d d') → Snp L t (.agg ds) (.agg ds')
  | tup {ds ds'} : ds.length = ds'.length → (∀ (i : Nat) d d', ds[i]? = some d → ds'[i]? = some d' → Snp L t d d') → Snp L t (.tup ds) (.tup ds')
inductive Snps (L : List LB) (t : Bool) : List D → List D → Prop
  | nil : Snps L t [] []
  | cons {d d' ds ds'} : Snp L t d d' → Snps L t ds ds' → Snps L t (d :: ds) (d' :: ds')
theorem Snps.len {L : List LB} {t : Bool} {ds ds' : List D} (h : Snps L t ds ds') : ds.length = ds'.length := by induction h with | nil => rfl | cons _ _ ih => simp [ih]
theorem Snps.get {L : List LB} {t : Bool} {ds ds' : List D} (h : Snps L t ds ds') : ∀ (i : Nat) d d', ds[i]? = some d → ds'[i]? = some d' → Snp L t d d' := by
  induction h with
  | nil => intro i d d' h1; simp at h1
  | cons h1 _ ih =>
    intro i d d' g1 g2
    cases i with
    | zero => simp at g1 g2; subst g1; subst g2; exact h1
    | succ i => simp at g1 g2; exact ih i d d' g1 g2
def full (t : Bool) (H : zaj) (base : Nat) : Cx where
  za := fun b => if t then none else zaD H b
  zf := fun b => if t && decide (base ≤ b) then zaD H b else none
  ρ := fun _ => none
  base := H.length
theorem zfT (t : Bool) (H : zaj) (base : Nat) : (full t H base).frz t = full t H base := by
  cases t <;> simp [full, Cx.frz]
theorem ze1 {t : Bool} {H : zaj} {base b : Nat} {cs : List V} (h : H[b]? = some (.blk cs)) (hb : t = true → base ≤ b) : (full t H base).look t b = some cs := by
  have : zaD H b = some cs := by simp [zaD, h]
  cases t with
  | false => simp [Cx.look, full, this]
  | true => simp [Cx.look, full, this, hb rfl]
section
variable {fns : Mach} {k0 : Nat} {Q : LX → LSt → Prop} {c : Cx} {L : List LB} {S S' : LSt} {M : St} {H : zaj} {B : Nat} {rd : Option Nat}
structure Under (c1 c : Cx) (H : zaj) : Prop where
  look : ∀ t b cs, c1.look t b = some cs → H[b]? = some (.blk cs) ∧ (t = true → c.base ≤ b)
  ρ : c1.ρ = c.ρ ∨ c1.ρ = fun _ => none
theorem Under.frz {c1 : Cx} (h : Under c1 c H) (hz : ∀ b cs, c1.zf b = some cs → c1.look true b = some cs) (t : Bool) : Under (c1.frz t) c H := by
  refine ⟨fun t' b cs hl => ?_, .inr rfl⟩
  unfold Cx.look at hl
  cases hzb : c1.zf b with
  | some x =>
    simp only [Cx.frz, hzb] at hl
    cases hl
    exact ⟨(h.look true b _ (hz b _ hzb)).1, fun _ => (h.look true b _ (hz b _ hzb)).2 rfl⟩
  | none =>
    simp only [Cx.frz, hzb] at hl
    cases t' with
    | true => simp at hl
    | false =>
      cases t with
      | true => simp at hl
      | false => exact ⟨(h.look false b cs (by simpa [Cx.look, hzb] using hl)).1, fun h => by cases h⟩
theorem zoo (c1 : Cx) (b : Nat) (cs : List V) (h : c1.zf b = some cs) : c1.look true b = some cs := by simp [Cx.look, h]
theorem zkV {c : Cx} {β s n len st : Nat} {cap : Option Nat} {v : V} (hr : R c (.sl β s n len cap st) v) : (∃ x, c.ρ β = some x) := by
  cases hr with
  | sl g1 g2 => exact ⟨_, g1⟩
  | slg g1 => exact ⟨_, g1⟩
theorem R.under {c1 : Cx} (hu : Under c1 c H) {β s n len st : Nat} {cap : Option Nat} {v : V} (hr : R c1 (.sl β s n len cap st) v) : R c (.sl β s n len cap st) v := by
  rcases hu.ρ with h1 | h1
  · cases hr with
    | sl g1 g2 => exact .sl (by rw [← h1]; exact g1) g2
    | slg g1 => exact .slg (by rw [← h1]; exact g1)
  · obtain ⟨x, hx⟩ := zkV hr
    rw [h1] at hx
    cases hx
theorem zjp (h : RelH c L H) {t : Bool} {d d' : D} (hs : Snp L t d d') : ∀ {c1 : Cx} {v : V}, Under c1 c H → R c1 d v → R (full t H c.base) d' v := by
  induction hs with
  | any => intro c1 v _ _; exact .any v
  | lit v => intro c1 v _ hr; cases hr; exact .lit _
  | nil n => intro c1 v _ hr; cases hr; exact .fzn
  | same n els ht =>
    intro c1 v hu hr
    subst ht
    cases hr with
    | fz0 => exact .fz0
    | fzn => exact .fzn
    | fz h1 h2 h3 h4 h5 h6 =>
      rename_i b o cap cs
      obtain ⟨g1, g2⟩ := hu.look _ _ _ h1
      refine .fz (ze1 g1 fun _ => g2 rfl) h2 h3 h4 h5 fun i cells k d v k1 k2 k3 => ?_
      rw [zfT]
      refine (h6 i cells k d v k1 k2 k3).mono ⟨fun b cs hb => ?_, fun b cs hb => ?_, fun β x hx => by simp [Cx.frz] at hx, fun b cs cs' _ h2 => by simp [full] at h2⟩
      · simp [Cx.frz] at hb
      · obtain ⟨g3, g4⟩ := hu.look true b cs (zoo _ b cs hb)
        simp [full, g4 rfl, zbk g3]
  | fz0 t' n =>
    intro c1 v hu hr
    cases hr with
    | fz0 => exact .fz0
    | fzn => exact .fzn
    | fz h1 h2 h3 h4 h5 h6 => exact .fz0
  | z0 t' n =>
    intro c1 v hu hr
    cases hr with
    | z0 h1 h2 => exact .fz0
    | z0n => exact .fzn
  | @fz t' n els els' ht hlen hc hd ih =>
    intro c1 v hu hr
    cases hr with
    | fz0 =>
      have : els' = [] := List.eq_nil_of_length_eq_zero (by simpa using hlen.symm)
      subst this
      exact .fz0
    | fzn =>
      have : els' = [] := List.eq_nil_of_length_eq_zero (by simpa using hlen.symm)
      subst this
      exact .fzn
    | fz h1 h2 h3 h4 h5 h6 =>
      rename_i b o cap cs
      obtain ⟨g1, g2⟩ := hu.look _ _ _ h1
      rw [hlen]
      have hel : ∀ (i : Nat) cells', els'[i]? = some cells' → ∃ cells, els[i]? = some cells := fun i cells' hi => by
        have := (List.getElem?_eq_some_iff.1 hi).1
        exact ⟨els[i], List.getElem?_eq_getElem (by omega)⟩
      refine .fz (ze1 g1 fun h => g2 (ht h)) h2 (by rw [← hlen]; exact h3) (by rw [← hlen]; exact h4) (fun i cells' hi => ?_) fun i cells' k d' v hi hk hv => ?_
      · obtain ⟨cells, hi0⟩ := hel i cells' hi
        rw [← hc i cells cells' hi0 hi]
        exact h5 i cells hi0
      · obtain ⟨cells, hi0⟩ := hel i cells' hi
        have hkl := (List.getElem?_eq_some_iff.1 hk).1
        have hk0 : cells[k]? = some (cells[k]'(by rw [hc i cells cells' hi0 hi]; exact hkl)) := List.getElem?_eq_getElem _
        rw [zfT]
        exact ih i k cells cells' _ d' hi0 hi hk0 hk (hu.frz (zoo c1) t') (h6 i cells k _ v hi0 hk0 hv)
  | @sl β s n len cap st es els' he hle hcap hlen hc hd ih =>
    intro c1 v hu hr
    have hr0 := R.under hu hr
    subst hlen
    rcases slR h he hr0 with ⟨b, vs, q1, rfl, q2, q3⟩ | ⟨rfl, rfl, h0, _, _, rfl, _⟩
    · obtain ⟨e1, e2, _⟩ := zcN h he
      have hob := (h.own β _ b q1 rfl).1
      have hel : ∀ (i : Nat) cells', els'[i]? = some cells' → ∃ cells, es[s + i]? = some cells := fun i cells' hi => by
        have := (List.getElem?_eq_some_iff.1 hi).1
        exact ⟨es[s + i], List.getElem?_eq_getElem (by omega)⟩
      have hroom : s * n + els'.length * n ≤ vs.length := by rw [q3.zj6, ← Nat.add_mul]; exact Nat.mul_le_mul_right n hle
      refine .fz (ze1 q2 fun _ => hob) e1 hcap hroom (fun i cells' hi => ?_) fun i cells' k d' v hi hk hv => ?_
      · obtain ⟨cells, hi0⟩ := hel i cells' hi
        rw [← hc i cells cells' hi0 hi]
        exact q3.len cells (List.mem_of_getElem? hi0)
      · obtain ⟨cells, hi0⟩ := hel i cells' hi
        have hcl := q3.len cells (List.mem_of_getElem? hi0)
        have hkl := (List.getElem?_eq_some_iff.1 hk).1
        have hcc := hc i cells cells' hi0 hi
        have hk0 : cells[k]? = some (cells[k]'(by omega)) := List.getElem?_eq_getElem _
        rw [zfT]
        have hrel := (q3.at_ hi0).2 k _ v hk0 (by
          rw [List.getElem?_take, if_pos (by omega), List.getElem?_drop, ← hv]
          congr 1
          rw [Nat.add_mul])
        exact ih i k cells cells' _ d' hi0 hi hk0 hk ⟨fun t b cs hl => ⟨h.look hl, fun ht => by
          subst ht
          unfold Cx.look at hl
          cases hz : c.zf b with
          | none => rw [hz] at hl; simp at hl
          | some x => exact (h.zf b x hz).1⟩, .inl rfl⟩ hrel
    · have : els' = [] := List.eq_nil_of_length_eq_zero h0
      subst this
      exact .fzn
  | @clo f xs ys xs' ys' h1 h2 _ _ ih1 ih2 =>
    intro c1 v hu hr
    cases hr with
    | clo g1 g2 g3 g4 =>
      refine .clo (h1.symm.trans g1) (h2.symm.trans g2) (fun i d' v k1 k2 => ?_) fun i d' v k1 k2 => ?_
      · have hil := (List.getElem?_eq_some_iff.1 k1).1
        have hi0 : xs[i]? = some (xs[i]'(by omega)) := List.getElem?_eq_getElem _
        exact ih1 i _ d' hi0 k1 hu (g3 i _ v hi0 k2)
      · have hil := (List.getElem?_eq_some_iff.1 k1).1
        have hi0 : ys[i]? = some (ys[i]'(by omega)) := List.getElem?_eq_getElem _
        exact ih2 i _ d' hi0 k1 hu (g4 i _ v hi0 k2)
  | @ptr β o ds ds' hL hle hd ih =>
    intro c1 v hu hr
    cases hr with
    | ptr g1 =>
      rename_i b0
      have g2 : c.ρ β = some (.cell b0) := by
        rcases hu.ρ with h1 | h1
        · rw [← h1]; exact g1
        · rw [h1] at g1; cases g1
      obtain ⟨b, vs, k1, k2, k3⟩ := h.obj β _ hL
      rw [g2] at k1
      cases k1
      have hob := (h.own β _ _ g2 rfl).1
      refine .fptr (ze1 k2 fun _ => hob) (by rw [← k3.1]; exact hle) fun k d' v hk hv => ?_
      have hkl := (List.getElem?_eq_some_iff.1 hk).1
      have hk0 : ds[o + k]? = some (ds[o + k]'(by omega)) := List.getElem?_eq_getElem _
      rw [zfT]
      exact ih k _ d' hk0 hk ⟨fun t b cs hl => ⟨h.look hl, fun ht => by
        subst ht
        unfold Cx.look at hl
        cases hz : c.zf b with
        | none => rw [hz] at hl; simp at hl
        | some x => exact (h.zf b x hz).1⟩, .inl rfl⟩ (k3.2 _ _ v hk0 hv)
  | ifc _ ih => intro c1 v hu hr; cases hr with | ifc g => exact .ifc (ih hu g)
  | @agg ds ds' h1 _ ih =>
    intro c1 v hu hr
    cases hr with
    | agg g1 g2 =>
      refine .agg (h1.symm.trans g1) fun i d' v k1 k2 => ?_
      have hil := (List.getElem?_eq_some_iff.1 k1).1
      have hi0 : ds[i]? = some (ds[i]'(by omega)) := List.getElem?_eq_getElem _
      exact ih i _ d' hi0 k1 hu (g2 i _ v hi0 k2)
  | @tup ds ds' h1 _ ih =>
    intro c1 v hu hr
    cases hr with
    | tup g1 g2 =>
      refine .tup (h1.symm.trans g1) fun i d' v k1 k2 => ?_
      have hil := (List.getElem?_eq_some_iff.1 k1).1
      have hi0 : ds[i]? = some (ds[i]'(by omega)) := List.getElem?_eq_getElem _
      exact ih i _ d' hi0 k1 hu (g2 i _ v hi0 k2)
theorem RelH.under (h : RelH c L H) : Under c c H := ⟨fun t b cs hl => ⟨h.look hl, fun ht => by
  subst ht
  unfold Cx.look at hl
  cases hz : c.zf b with
  | none => rw [hz] at hl; simp at hl
  | some x => exact (h.zf b x hz).1⟩, .inl rfl⟩
theorem zlY (h : RelH c L H) {t : Bool} {ds ds' : List D} {vs : List V} (hs : Snps L t ds ds') (hr : Rs c ds vs) : Rs (full t H c.base) ds' vs := by
  induction hs generalizing vs with
  | nil => have := hr.1; cases vs with | nil => exact Rs.nil _ | cons _ _ => simp at this
  | cons h1 _ ih =>
    obtain ⟨v, vs', rfl, g1, g2⟩ := hr.inv
    exact (ih g2).cons (zjp h h1 h.under g1)
def zc5 (fns : Mach) (bar : Bool) (f : Nat) (args : List D) (L : List LB) (Q Qp : D → List LB → Prop) : Prop :=
  ∀ (c : Cx) (B : Nat) (H : zaj) (vs : List V), RelH c L H → B ≤ c.base → Rs c args vs →
    EvF fns (bif bar then H.length else B) f vs H fun cr H' => ∃ c' d L', Step c H c' H' ∧ RelH c' L' H' ∧ c.le c' ∧ match cr with | .ret v => R c' d v ∧ Q d L' | .pan v => R c' d v ∧ Qp d L'
def Fn (fns : Mach) (f : Nat) (args : List D) (res : D) : Prop :=
  ∀ (z : Nat → Option (List V)) (B : Nat) (H : zaj) (vs : List V), (∀ b cs, z b = some cs → H[b]? = some (.blk cs)) → B ≤ H.length → Rs ⟨z, fun _ => none, fun _ => none, H.length⟩ args vs →
    EvF fns B f vs H fun cr H' => H.length ≤ H'.length ∧ (∀ b, b < H.length → H'[b]? = H[b]?) ∧ ∃ v zf, cr = .ret v ∧ (∀ b cs, zf b = some cs → H.length ≤ b ∧ H'[b]? = some (.blk cs)) ∧ R ⟨fun _ => none, zf, fun _ => none, H.length⟩ res v
theorem Fn.call {f : Nat} {args args' : List D} {res : D} (h : Fn fns f args' res) (hs : Snps L false args args') (bar : Bool) (Qp : D → List LB → Prop) : zc5 fns bar f args L (fun d L' => d = res ∧ L' = L) Qp := by
  intro c B H vs hH hB hr
  have hfull := zlY hH hs hr
  have hBl : (bif bar then H.length else B) ≤ H.length := by
    cases bar
    · exact Nat.le_trans hB hH.base
    · exact Nat.le_refl _
  have hrs : Rs ⟨zaD H, fun _ => none, fun _ => none, H.length⟩ args' vs := by
    have : full false H c.base = ⟨zaD H, fun _ => none, fun _ => none, H.length⟩ := by simp [full]
    rw [this] at hfull
    exact hfull
  refine EvF.mono (h (zaD H) _ H vs (fun b cs hb => ?_) hBl hrs) ?_
  · unfold zaD at hb
    split at hb
    · cases hb; assumption
    · cases hb
  · rintro cr H' ⟨h1, h2, v, zf, rfl, h3, h4⟩
    have hlt : ∀ b cs, H[b]? = some (Ob.blk cs) → H'[b]? = some (Ob.blk cs) := fun b cs hb => (h2 b (List.getElem?_eq_some_iff.1 hb).1).trans hb
    let c' : Cx := { c with zf := fun b => match c.zf b with | some cs => some cs | none => zf b }
    have hzf : ∀ b cs, c'.zf b = some cs → (c.zf b = some cs) ∨ (c.zf b = none ∧ zf b = some cs) := by
      intro b cs hb
      simp only [c'] at hb
      cases hz : c.zf b with
      | some x => rw [hz] at hb; cases hb; exact .inl rfl
      | none => rw [hz] at hb; exact .inr ⟨rfl, hb⟩
    have hnew : ∀ b cs, zf b = some cs → c.zf b = none := by
      intro b cs hb
      cases hz : c.zf b with
      | none => rfl
      | some x =>
        have h5 := (List.getElem?_eq_some_iff.1 (hH.zf b x hz).2).1
        have h6 := (h3 b cs hb).1
        omega
    have hap : ∀ b cs cs', c'.zf b = some cs → c'.za b = some cs' → cs = cs' := by
      intro b cs cs' hb hb'
      have h5 := (hH.za b cs' hb').1
      have h7 := hH.base
      rcases hzf b cs hb with h6 | ⟨_, h6⟩
      · have := (hH.zf b cs h6).1; omega
      · have := (h3 b cs h6).1; omega
    have hle : c.le c' := ⟨fun _ _ h => h, fun b cs hb => by simp only [c', hb], fun β x hx => ⟨x, hx, Lc.up.refl x⟩, hap⟩
    refine ⟨c', res, L, ⟨h1, rfl, rfl, hle.zf, fun b hb _ => h2 b hb, fun β x b hx hb => .inl ⟨β, x, hx, hb⟩, fun b hb => hb.zdx (h2 b hb.lt)⟩, ⟨?_, ?_, ?_, ?_, hH.inj, hH.scope, ?_⟩, hle, ?_, rfl, rfl⟩
    · exact Nat.le_trans hH.base h1
    · intro b cs hb
      exact ⟨(hH.za b cs hb).1, hlt b cs (hH.za b cs hb).2⟩
    · intro b cs hb
      rcases hzf b cs hb with h6 | ⟨_, h6⟩
      · exact ⟨(hH.zf b cs h6).1, hlt b cs (hH.zf b cs h6).2⟩
      · exact ⟨Nat.le_trans hH.base (h3 b cs h6).1, (h3 b cs h6).2⟩
    · intro β x b hx hb
      obtain ⟨g1, g2, g3⟩ := hH.own β x b hx hb
      refine ⟨g1, Nat.lt_of_lt_of_le g2 h1, ?_⟩
      cases hz : c'.zf b with
      | none => rfl
      | some cs =>
        rcases hzf b cs hz with h6 | ⟨_, h6⟩
        · rw [g3] at h6; cases h6
        · have := (h3 b cs h6).1; omega
    · intro β o ho
      exact (hH.obj β o ho).mono hle rfl fun x b hx hb => h2 b (hH.own β x b hx hb).2.1
    · exact h4.mono ⟨fun b cs hb => (by cases hb), fun b cs hb => (by simp only [c', hnew b cs hb]; exact hb), fun β x hx => (by cases hx), hap⟩
end
end Go.Lx
