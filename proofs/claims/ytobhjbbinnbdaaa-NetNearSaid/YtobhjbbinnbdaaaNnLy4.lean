/-
  Trees: what an operation that makes or writes memory of one's own yields. Conditions: none.
-/
import Derived.Test.YtobhjbbinnbdaaaNnLy3
namespace Go.Lx
open Go Go.Mx
def zlg (L : List LB) (n : Nat) : D → Option (List (List D))
  | .lit (.slice none 0 0) => some []
  | .sl β s n' len cap st => if n = n' then (match zdk L β n st with
    | some es => if s + len ≤ es.length then some ((es.drop s).take len) else none
    | none => none) else none
  | .fz _ n' els => if n = n' then some els else none
  | .z0 _ n' => if n = n' then some [] else none
  | _ => none
def zhX (E : List (Nat × D)) (n : Nat) (es : List (List D)) : List (Nat × X) → Option (List (List D))
  | [] => some es
  | (i, x) :: r => match zbJ (evD E x) with
    | some l => if l.length = n ∧ i < es.length then zhX E n (es.set i l) r else none
    | none => none
def zec (L : List LB) (n : Nat) (l : List D) : D → Option (List LB)
  | .ptr β o => (match L[β]? with
    | some (.cells ds) => if l.length = n ∧ o + n ≤ ds.length then some (L.set β (.cells (zlS ds o l))) else none
    | _ => none)
  | .eptr β n' i off st => (match L[β]? with
    | some (.els n'' es) => if n' = n'' ∧ st = es.length then (match es[i]? with
      | some cells => if l.length = n ∧ off + n ≤ cells.length then some (L.set β (.els n' (es.set i (zlS cells off l)))) else none
      | none => none) else none
    | some (.grow n'' es) => if n' = n'' ∧ st = es.length then (match es[i]? with
      | some cells => if l.length = n ∧ off + n ≤ cells.length then some (L.set β (.grow n' (es.set i (zlS cells off l)))) else none
      | none => none) else none
    | _ => none)
  | _ => none
def zj5 (L : List LB) (n bytes : Nat) (src : List (List D)) : D → Option (D × List LB)
  | .lit (.slice none 0 0) => if 0 < n ∧ src.length * bytes ≤ zal then some (.sl L.length 0 n src.length none src.length, L ++ [.grow n src]) else none
  | .sl β s n' len cap st => (match L[β]? with
    | some (.grow n'' es) => if n = n' ∧ n = n'' ∧ s = 0 ∧ st = es.length ∧ len = es.length ∧ cap = none ∧ (len + src.length) * bytes ≤ zal then
        some (.sl β 0 n (len + src.length) none (len + src.length), L.set β (.grow n (es ++ src))) else none
    | some (.els n'' es) => if n = n' ∧ n = n'' ∧ st = es.length then (match cap with
      | some k => if len + src.length ≤ k then (if s + len + src.length ≤ es.length then some (.sl β s n (len + src.length) cap st, L.set β (.els n (es.take (s + len) ++ src ++ es.drop (s + len + src.length)))) else none)
          else if 0 < src.length ∧ s + len ≤ es.length ∧ (len + src.length) * bytes ≤ zal then some (.sl L.length 0 n (len + src.length) none (len + src.length), L ++ [.grow n ((es.drop s).take len ++ src)]) else none
      | none => none) else none
    | _ => none)
  | .fz t n' els => if n = n' ∧ els.length = 0 ∧ src.length = 0 then some (.fz t n els, L) else none
  | .z0 t n' => if n = n' ∧ 0 < n ∧ 0 < src.length ∧ src.length * bytes ≤ zal then some (.sl L.length 0 n src.length none src.length, L ++ [.grow n src]) else none
  | _ => none
def zfP (L : List LB) (E : List (Nat × D)) : I → Option (D × List LB)
  | .alloc z => some (.ptr L.length 0, L ++ [.cells (z.map .lit)])
  | .box x => (match zbJ (evD E x) with
    | some l => some (.ptr L.length 0, L ++ [.cells l])
    | none => none)
  | .bsl n len z parts => if 0 < n ∧ z.length = n then (match zhX E n (List.replicate len (z.map .lit)) parts with
    | some es => some (.sl L.length 0 n len (some len) len, L ++ [.els n es])
    | none => none) else none
  | .store n a x => (match evD E a with
    | some d => (match zbJ (evD E x) with
      | some l => (match zec L n l d with
        | some L' => some (.any, L')
        | none => none)
      | none => none)
    | none => none)
  | .mk n bytes z l k => (match zhK (evD E l) with
    | some l => (match zhK (evD E k) with
      | some k => if (0 < n ∧ z.length = n) ∧ 0 ≤ l ∧ l ≤ k ∧ k * bytes ≤ zal then some (.sl L.length 0 n l.toNat (some k.toNat) k.toNat, L ++ [.els n (List.replicate k.toNat (z.map .lit))]) else none
      | none => none)
    | none => none)
  | .app n bytes s x => (match evD E s with
    | some d => (match evD E x with
      | some e => (match zlg L n e with
        | some src => zj5 L n bytes src d
        | none => none)
      | none => none)
    | none => none)
  | .copy n d s => (match evD E d with
    | some (.sl β s0 n' len cap st) => (match evD E s with
      | some e => (match zlg L n e with
        | some src => (match L[β]? with
          | some (.els n'' es) => if n = n' ∧ n = n'' ∧ st = es.length ∧ s0 + len ≤ es.length then
              some (.lit (.int .i64 (min src.length len : Nat)), L.set β (.els n (es.take s0 ++ src.take (min src.length len) ++ es.drop (s0 + min src.length len)))) else none
          | _ => none)
        | none => none)
      | none => none)
    | _ => none)
  | _ => none
section
variable {c : Cx} {S : LSt} {M : St} {L : List LB} {H : zaj} {B : Nat}
theorem zkq.mono {c' : Cx} {H' : zaj} {β : Nat} {lb : LB} (hl : c.le c') (hρ : c'.ρ β = c.ρ β) (hH : ∀ x b, c.ρ β = some x → x.blk = some b → H'[b]? = H[b]?) (h : zkq c H β lb) : zkq c' H' β lb := by
  cases lb with
  | cells ds =>
    obtain ⟨b, vs, h1, h2, h3⟩ := h
    exact ⟨b, vs, by rw [hρ]; exact h1, (hH _ b h1 rfl).trans h2, h3.mono hl⟩
  | els n es =>
    obtain ⟨h0, b, vs, h1, h2, h3⟩ := h
    exact ⟨h0, b, vs, by rw [hρ]; exact h1, (hH _ b h1 rfl).trans h2, h3.mono hl⟩
  | grow n es =>
    obtain ⟨h0, ⟨g1, g2⟩ | ⟨g0, b, vs, h1, h2, h3⟩⟩ := h
    · exact ⟨h0, .inl ⟨g1, by rw [hρ]; exact g2⟩⟩
    · exact ⟨h0, .inr ⟨g0, b, vs, by rw [hρ]; exact h1, (hH _ b h1 rfl).trans h2, h3.mono hl⟩⟩
  | gone => exact hρ.trans h
  | lp st pend N E ps asg body =>
    obtain ⟨b, env, h1, h2, h3, h4⟩ := h
    exact ⟨b, env, by rw [hρ]; exact h1, (hH _ b h1 rfl).trans h2, h3, h4.mono hl⟩
  | lost =>
    obtain ⟨b, h1, h2⟩ := h
    exact ⟨b, by rw [hρ]; exact h1, (hH _ b h1 rfl).trans h2⟩
def Cx.put (c : Cx) (β : Nat) (x : Lc) : Cx := { c with ρ := fun k => if k = β then some x else c.ρ k }
theorem zaC (c : Cx) (β : Nat) (x : Lc) : (c.put β x).ρ β = some x := by simp [Cx.put]
theorem zbt (c : Cx) {β k : Nat} (x : Lc) (h : k ≠ β) : (c.put β x).ρ k = c.ρ k := by simp [Cx.put, h]
theorem RelH.new (h : RelH c L H) {x : Lc} {lb : LB} {o : List Ob} (hx : x = .ghost ∧ o = [] ∨ ∃ vs, x.blk = some H.length ∧ o = [.blk vs])
    (hb : ∀ c', c.le c' → c'.ρ L.length = some x → zkq c' (H ++ o) L.length lb) :
    RelH (c.put L.length x) (L ++ [lb]) (H ++ o) ∧ Step c H (c.put L.length x) (H ++ o) ∧ c.le (c.put L.length x) := by
  have hne : ∀ β y, c.ρ β = some y → β ≠ L.length := fun β y hy => Nat.ne_of_lt (h.scope β y hy)
  have hle : c.le (c.put L.length x) := ⟨fun _ _ h => h, fun _ _ h => h, fun β y hy => ⟨y, by rw [zbt c x (hne β y hy)]; exact hy, Lc.up.refl y⟩, h.apart⟩
  have hgrow : ∀ b, b < H.length → (H ++ o)[b]? = H[b]? := fun b hb => List.getElem?_append_left hb
  have hblk : ∀ b, x.blk = some b → b = H.length ∧ H.length < (H ++ o).length := by
    intro b hb'
    rcases hx with ⟨rfl, _⟩ | ⟨vs, h1, rfl⟩
    · cases hb'
    · rw [h1] at hb'; cases hb'; exact ⟨rfl, by simp⟩
  refine ⟨⟨?_, ?_, ?_, ?_, ?_, ?_, ?_⟩, ⟨by simp, rfl, rfl, fun _ _ h => h, fun b hb' _ => hgrow b hb', ?_, fun b hb' => hb'.zdx (hgrow b hb'.lt)⟩, hle⟩
  · have := h.base; simp only [List.length_append]; exact Nat.le_trans this (Nat.le_add_right _ _)
  · intro b cs hz
    obtain ⟨h1, h2⟩ := h.za b cs hz
    exact ⟨h1, by rw [hgrow b (List.getElem?_eq_some_iff.1 h2).1]; exact h2⟩
  · intro b cs hz
    obtain ⟨h1, h2⟩ := h.zf b cs hz
    exact ⟨h1, by rw [hgrow b (List.getElem?_eq_some_iff.1 h2).1]; exact h2⟩
  · intro β y b hy hyb
    by_cases hβ : β = L.length
    · subst hβ
      rw [zaC] at hy
      cases hy
      obtain ⟨rfl, h2⟩ := hblk b hyb
      refine ⟨h.base, h2, ?_⟩
      cases hz : c.zf H.length with
      | none => exact hz
      | some cs => have := (List.getElem?_eq_some_iff.1 (h.zf _ cs hz).2).1; omega
    · rw [zbt c x hβ] at hy
      obtain ⟨h1, h2, h3⟩ := h.own β y b hy hyb
      exact ⟨h1, by simp only [List.length_append]; omega, h3⟩
  · intro β β' y y' b hy hy' hyb hyb'
    by_cases hβ : β = L.length
    · by_cases hβ' : β' = L.length
      · rw [hβ, hβ']
      · subst hβ
        rw [zaC] at hy
        cases hy
        rw [zbt c x hβ'] at hy'
        have h1 := (h.own β' y' b hy' hyb').2.1
        have h2 := (hblk b hyb).1
        omega
    · rw [zbt c x hβ] at hy
      by_cases hβ' : β' = L.length
      · subst hβ'
        rw [zaC] at hy'
        cases hy'
        have h1 := (h.own β y b hy hyb).2.1
        have h2 := (hblk b hyb').1
        omega
      · rw [zbt c x hβ'] at hy'
        exact h.inj β β' y y' b hy hy' hyb hyb'
  · intro β y hy
    by_cases hβ : β = L.length
    · subst hβ; simp
    · rw [zbt c x hβ] at hy
      have := h.scope β y hy
      simp only [List.length_append, List.length_cons, List.length_nil]
      omega
  · intro β lb' hlb
    by_cases hβ : β < L.length
    · rw [List.getElem?_append_left hβ] at hlb
      refine (h.obj β lb' hlb).mono hle (zbt c x (by omega)) fun y b hy hyb => hgrow b (h.own β y b hy hyb).2.1
    · rw [List.getElem?_append_right (by omega)] at hlb
      have : β = L.length := by
        have := (List.getElem?_eq_some_iff.1 hlb).1
        simp at this
        omega
      subst this
      simp at hlb
      subst hlb
      exact hb _ hle (zaC c _ x)
  · intro β y b hy hyb
    by_cases hβ : β = L.length
    · subst hβ
      rw [zaC] at hy
      cases hy
      exact .inr (by rw [(hblk b hyb).1]; exact Nat.le_refl _)
    · rw [zbt c x hβ] at hy
      exact .inl ⟨β, y, hy, hyb⟩
theorem RelH.write (h : RelH c L H) {β b : Nat} {x : Lc} (hx : c.ρ β = some x) (hxb : x.blk = some b) {ws : List V} (hold : H[b]? = some (.blk ws)) {lb : LB} {vs : List V} (hb : ∀ H' : zaj, H'[b]? = some (.blk vs) → zkq c H' β lb) :
    RelH c (L.set β lb) (H.set b (.blk vs)) ∧ Step c H c (H.set b (.blk vs)) := by
  obtain ⟨o1, o2, o3⟩ := h.own β x b hx hxb
  have hself : (H.set b (.blk vs))[b]? = some (.blk vs) := by rw [List.getElem?_set_self o2]
  refine ⟨⟨by rw [List.length_set]; exact h.base, ?_, ?_, ?_, h.inj, ?_, ?_⟩, ⟨by simp, rfl, rfl, fun _ _ h => h, ?_, fun β' y b' hy hyb => .inl ⟨β', y, hy, hyb⟩, fun b' hb' => hb'.zdx (List.getElem?_set_ne (fun he => by
    subst he
    obtain ⟨_, _, _, _, _, _, h9⟩ := hb'
    rw [hold] at h9
    cases h9))⟩⟩
  · intro b' cs hz
    obtain ⟨h1, h2⟩ := h.za b' cs hz
    exact ⟨h1, by rw [List.getElem?_set_ne (by omega)]; exact h2⟩
  · intro b' cs hz
    obtain ⟨h1, h2⟩ := h.zf b' cs hz
    have : b ≠ b' := by rintro rfl; rw [o3] at hz; cases hz
    exact ⟨h1, by rw [List.getElem?_set_ne this]; exact h2⟩
  · intro β' y b' hy hyb
    obtain ⟨h1, h2, h3⟩ := h.own β' y b' hy hyb
    exact ⟨h1, by rw [List.length_set]; exact h2, h3⟩
  · intro β' y hy
    rw [List.length_set]
    exact h.scope β' y hy
  · intro β' lb' hlb
    by_cases hβ : β = β'
    · subst hβ
      rw [List.getElem?_set_self (h.scope β x hx)] at hlb
      cases hlb
      exact hb _ hself
    · rw [List.getElem?_set_ne hβ] at hlb
      refine (h.obj β' lb' hlb).mono ⟨fun _ _ h => h, fun _ _ h => h, fun β y hy => ⟨y, hy, Lc.up.refl y⟩, h.apart⟩ rfl fun y b' hy hyb => ?_
      exact List.getElem?_set_ne (fun he => by subst he; exact hβ (h.inj β β' x y b hx hy hxb hyb))
  · intro b' hb' hn
    exact List.getElem?_set_ne (fun he => by subst he; exact hn β x hx hxb)
theorem RelH.move (h : RelH c L H) {β m : Nat} {x : Lc} (hx : c.ρ β = some x) (hup : x.up (.list H.length m)) {lb : LB} {vs : List V} {H1 : zaj} (hH1 : H1.length = H.length) (hH : ∀ b, x.blk ≠ some b → H1[b]? = H[b]?) (hold : ∀ b, x.blk = some b → ∃ ws, H[b]? = some (.blk ws))
    (hb : ∀ c', c.le c' → c'.ρ β = some (.list H.length m) → zkq c' (H1 ++ [.blk vs]) β lb) :
    RelH (c.put β (.list H.length m)) (L.set β lb) (H1 ++ [.blk vs]) ∧ Step c H (c.put β (.list H.length m)) (H1 ++ [.blk vs]) ∧ c.le (c.put β (.list H.length m)) := by
  have hle : c.le (c.put β (.list H.length m)) := by
    refine ⟨fun _ _ h => h, fun _ _ h => h, fun β' y hy => ?_, h.apart⟩
    by_cases hβ : β' = β
    · subst hβ
      rw [hx] at hy
      cases hy
      exact ⟨_, zaC _ _ _, hup⟩
    · exact ⟨y, by rw [zbt c _ hβ]; exact hy, Lc.up.refl y⟩
  have hgrow : ∀ b, b < H.length → x.blk ≠ some b → (H1 ++ [Ob.blk vs])[b]? = H[b]? := fun b hb' hn => by
    rw [List.getElem?_append_left (by omega)]; exact hH b hn
  have hnz : ∀ b cs, c.zf b = some cs → x.blk ≠ some b := fun b cs hz hxb => by
    rw [(h.own β x b hx hxb).2.2] at hz; cases hz
  have hna : ∀ b cs, c.za b = some cs → x.blk ≠ some b := fun b cs hz hxb => by
    have h1 := (h.own β x b hx hxb).1
    have h2 := (h.za b cs hz).1
    omega
  refine ⟨⟨?_, ?_, ?_, ?_, ?_, ?_, ?_⟩, ⟨by simp; omega, rfl, rfl, fun _ _ h => h, ?_, ?_, fun b hb' => hb'.zdx (hgrow b hb'.lt (fun he => by
    obtain ⟨ws, h8⟩ := hold b he
    obtain ⟨_, _, _, _, _, _, h9⟩ := hb'
    rw [h8] at h9
    cases h9))⟩, hle⟩
  · have := h.base; simp only [List.length_append, hH1]; exact Nat.le_trans this (Nat.le_add_right _ _)
  · intro b cs hz
    obtain ⟨h1, h2⟩ := h.za b cs hz
    exact ⟨h1, by rw [hgrow b (List.getElem?_eq_some_iff.1 h2).1 (hna b cs hz)]; exact h2⟩
  · intro b cs hz
    obtain ⟨h1, h2⟩ := h.zf b cs hz
    exact ⟨h1, by rw [hgrow b (List.getElem?_eq_some_iff.1 h2).1 (hnz b cs hz)]; exact h2⟩
  · intro β' y b hy hyb
    by_cases hβ : β' = β
    · subst hβ
      rw [zaC] at hy
      cases hy
      cases hyb
      refine ⟨h.base, by simp; omega, ?_⟩
      cases hz : c.zf H.length with
      | none => exact hz
      | some cs => have := (List.getElem?_eq_some_iff.1 (h.zf _ cs hz).2).1; omega
    · rw [zbt c _ hβ] at hy
      obtain ⟨h1, h2, h3⟩ := h.own β' y b hy hyb
      exact ⟨h1, by simp only [List.length_append, hH1]; omega, h3⟩
  · intro β1 β2 y y' b hy hy' hyb hyb'
    by_cases hβ : β1 = β
    · by_cases hβ' : β2 = β
      · rw [hβ, hβ']
      · subst hβ
        rw [zaC] at hy
        cases hy
        cases hyb
        rw [zbt c _ hβ'] at hy'
        have h1 := (h.own β2 y' _ hy' hyb').2.1
        omega
    · rw [zbt c _ hβ] at hy
      by_cases hβ' : β2 = β
      · subst hβ'
        rw [zaC] at hy'
        cases hy'
        cases hyb'
        have h1 := (h.own β1 y _ hy hyb).2.1
        omega
      · rw [zbt c _ hβ'] at hy'
        exact h.inj β1 β2 y y' b hy hy' hyb hyb'
  · intro β' y hy
    rw [List.length_set]
    by_cases hβ : β' = β
    · subst hβ; exact h.scope _ x hx
    · rw [zbt c _ hβ] at hy; exact h.scope β' y hy
  · intro β' lb' hlb
    by_cases hβ : β = β'
    · subst hβ
      rw [List.getElem?_set_self (h.scope β x hx)] at hlb
      cases hlb
      exact hb _ hle (zaC c _ _)
    · rw [List.getElem?_set_ne hβ] at hlb
      refine (h.obj β' lb' hlb).mono hle (zbt c _ (Ne.symm hβ)) fun y b hy hyb => hgrow b (h.own β' y b hy hyb).2.1 fun hxb => ?_
      exact hβ (h.inj β β' x y b hx hy hxb hyb)
  · intro b hb' hn
    exact hgrow b hb' (hn β x hx)
  · intro β' y b hy hyb
    by_cases hβ : β' = β
    · subst hβ
      rw [zaC] at hy
      cases hy
      cases hyb
      exact .inr (Nat.le_refl _)
    · rw [zbt c _ hβ] at hy
      exact .inl ⟨β', y, hy, hyb⟩
end
end Go.Lx
