/-
  Trees: code. What must hold before a piece of code, computed as far as it goes. Conditions: none.
-/
import Derived.Test.YtobhjbbinnbdaaaNnLy5
namespace Go.Lx
open Go Go.Mx
inductive LX where
  | normal
  | exit (id : Nat)
  | ret
  | panic (d : D)
inductive K where
  | code (c : C)
  | ops (bar e : Bool) (l : List O)
  | blk (id : Nat)
  | inv (J : LSt → Prop)
  | ex (id : Nat)
inductive KM where
  | code (c : C)
  | ops (bar e : Bool) (l : List O)
  | blk (id : Nat)
  | inv (J : St → Prop)
section
variable (fns : Mach) (B : Nat) (rd : Option Nat)
def zg5 (p : (St → Prop) × (Ex → St → Prop)) : Ex → St → Prop := fun ex M => match ex with
  | .normal => p.1 M
  | ex => p.2 ex M
def sem (Q : Ex → St → Prop) : List KM → (St → Prop) × (Ex → St → Prop)
  | [] => (Q .normal, Q)
  | .code c :: k => (fun M => EvC fns B rd c M (zg5 (sem Q k)), (sem Q k).2)
  | .ops bar e l :: k => (fun M => EvO fns B bar rd.isNone e l M (zg5 (sem Q k)), (sem Q k).2)
  | .blk id :: k => ((sem Q k).1, fun ex M => match ex with
    | .exit id' => if id' = id then (sem Q k).1 M else (sem Q k).2 (.exit id') M
    | ex => (sem Q k).2 ex M)
  | .inv J :: k => (J, (sem Q k).2)
end
structure Cx.leK (k0 : Nat) (c c' : Cx) : Prop where
  za : ∀ b cs, c.za b = some cs → c'.za b = some cs
  zf : ∀ b cs, c.zf b = some cs → c'.zf b = some cs
  ρ : ∀ β x, β < k0 → c.ρ β = some x → ∃ x', c'.ρ β = some x' ∧ x.up x'
theorem Lc.up.trans {x y z : Lc} (h : x.up y) (h' : y.up z) : x.up z := by
  cases x with
  | cell b => cases h; exact h'
  | list b m =>
    rcases h with rfl | ⟨b1, m1, rfl, h1⟩
    · exact h'
    · rcases h' with rfl | ⟨b2, m2, rfl, h2⟩
      · exact .inr ⟨_, _, rfl, h1⟩
      · exact .inr ⟨_, _, rfl, by omega⟩
  | ghost =>
    rcases h with rfl | ⟨b1, m1, rfl, h1⟩
    · exact h'
    · rcases h' with rfl | ⟨b2, m2, rfl, h2⟩
      · exact .inr ⟨_, _, rfl, h1⟩
      · exact .inr ⟨_, _, rfl, by omega⟩
theorem Cx.leK.refl (k0 : Nat) (c : Cx) : c.leK k0 c := ⟨fun _ _ h => h, fun _ _ h => h, fun β x _ h => ⟨x, h, Lc.up.refl x⟩⟩
theorem Cx.leK.trans {k0 : Nat} {c c' c'' : Cx} (h : c.leK k0 c') (h' : c'.leK k0 c'') : c.leK k0 c'' where
  za b cs hb := h'.za b cs (h.za b cs hb)
  zf b cs hb := h'.zf b cs (h.zf b cs hb)
  ρ β x hk hx := by
    obtain ⟨x', h1, h2⟩ := h.ρ β x hk hx
    obtain ⟨x'', h3, h4⟩ := h'.ρ β x' hk h1
    exact ⟨x'', h3, h2.trans h4⟩
theorem Cx.le.leK {c c' : Cx} (h : c.le c') (k0 : Nat) : c.leK k0 c' := ⟨h.za, h.zf, fun β x _ hx => h.ρ β x hx⟩
def XR (c : Cx) : LX → Ex → Prop
  | .normal, .normal => True
  | .exit id, .exit id' => id = id'
  | .ret, .ret => True
  | .panic d, .panic v _ => R c d v
  | _, _ => False
structure Way (k0 : Nat) (c0 : Cx) (H0 : zaj) (c : Cx) (M : St) : Prop where
  step : Step c0 H0 c M.heap
  le : c0.leK k0 c
  dfs : zgi H0.length M.dfs M.heap
theorem Way.start (k0 : Nat) (c : Cx) (env : List V) (H : zaj) : Way k0 c H c ⟨env, [], H⟩ := ⟨Step.refl _ _, Cx.leK.refl _ _, zgi.nil _ _⟩
theorem RelH.dfr {c : Cx} {L : List LB} {H : zaj} (h : RelH c L H) {d : Nat} (hd : H[d]? = some .dfr) : ∀ β x, c.ρ β = some x → x.blk ≠ some d := by
  intro β x hx hb
  have hβ := h.scope β x hx
  have hob := h.obj β L[β] (List.getElem?_eq_getElem hβ)
  cases hl : L[β] with
  | cells ds =>
    rw [hl] at hob
    obtain ⟨b, vs, h1, h2, _⟩ := hob
    rw [hx] at h1
    cases h1
    cases hb
    rw [h2] at hd
    cases hd
  | els n es =>
    rw [hl] at hob
    obtain ⟨_, b, vs, h1, h2, _⟩ := hob
    rw [hx] at h1
    cases h1
    cases hb
    rw [h2] at hd
    cases hd
  | grow n es =>
    rw [hl] at hob
    obtain ⟨_, ⟨_, h1⟩ | ⟨_, b, vs, h1, h2, _⟩⟩ := hob
    · rw [hx] at h1
      cases h1
      cases hb
    · rw [hx] at h1
      cases h1
      cases hb
      rw [h2] at hd
      cases hd
  | gone =>
    rw [hl] at hob
    have hob' : c.ρ β = none := hob
    rw [hx] at hob'
    cases hob'
  | lp st pend N E ps asg body =>
    rw [hl] at hob
    obtain ⟨b, env, h1, h2, _⟩ := hob
    rw [hx] at h1
    cases h1
    cases hb
    rw [h2] at hd
    cases hd
  | lost =>
    rw [hl] at hob
    obtain ⟨b, h1, h2⟩ := hob
    rw [hx] at h1
    cases h1
    cases hb
    rw [h2] at hd
    cases hd
theorem zgi.step {n : Nat} {dfs : List Df} {c c' : Cx} {L : List LB} {H H' : zaj} (h : zgi n dfs H) (hH : RelH c L H) (hs : Step c H c' H') : zgi n dfs H' := by
  obtain ⟨l, h1, h2, h3⟩ := h
  refine ⟨l, h1, h2, fun d hd => ⟨(h3 d hd).1, ?_⟩⟩
  have h4 := (h3 d hd).2
  rw [hs.zdx d (List.getElem?_eq_some_iff.1 h4).1 (hH.dfr h4)]
  exact h4
theorem Way.go {k0 : Nat} {c0 c c' : Cx} {H0 : zaj} {M M' : St} {L : List LB} (h : Way k0 c0 H0 c M) (hs : Step c M.heap c' M'.heap) (hl : c.le c') (hH : RelH c L M.heap) (hd : M'.dfs = M.dfs) : Way k0 c0 H0 c' M' :=
  ⟨h.step.trans hs, h.le.trans (hl.leK k0), by rw [hd]; exact h.dfs.step hH hs⟩
theorem RelH.kill {c : Cx} {L : List LB} {H H' : zaj} (h : RelH c L H) (hl : H'.length = H.length) (hk : ∀ b : Nat, H[b]? ≠ some Ob.dfr → H'[b]? = H[b]?) : RelH c L H' := by
  have blk : ∀ {b : Nat} {cs : List V}, H[b]? = some (.blk cs) → H'[b]? = some (.blk cs) := fun {b cs} hb => by rw [hk b (by rw [hb]; intro h; cases h)]; exact hb
  refine ⟨by rw [hl]; exact h.base, fun b cs hb => ⟨(h.za b cs hb).1, blk (h.za b cs hb).2⟩, fun b cs hb => ⟨(h.zf b cs hb).1, blk (h.zf b cs hb).2⟩, fun β x b hx hb => ?_, h.inj, h.scope, fun β o ho => ?_⟩
  · obtain ⟨h1, h2, h3⟩ := h.own β x b hx hb
    exact ⟨h1, by rw [hl]; exact h2, h3⟩
  · have hob := h.obj β o ho
    cases o with
    | cells ds => obtain ⟨b, vs, h1, h2, h3⟩ := hob; exact ⟨b, vs, h1, blk h2, h3⟩
    | els n es => obtain ⟨h0, b, vs, h1, h2, h3⟩ := hob; exact ⟨h0, b, vs, h1, blk h2, h3⟩
    | grow n es =>
      obtain ⟨h0, h1 | ⟨g0, b, vs, h1, h2, h3⟩⟩ := hob
      · exact ⟨h0, .inl h1⟩
      · exact ⟨h0, .inr ⟨g0, b, vs, h1, blk h2, h3⟩⟩
    | gone => exact hob
    | lp st pend N E ps asg body =>
      obtain ⟨b, env, h1, h2, h3⟩ := hob
      exact ⟨b, env, h1, by rw [hk b (by rw [h2]; intro h; cases h)]; exact h2, h3⟩
    | lost => obtain ⟨b, h1, h2⟩ := hob; exact ⟨b, h1, by rw [hk b (by rw [h2]; intro h; cases h)]; exact h2⟩
theorem Way.leave {k0 B : Nat} {c0 c : Cx} {H0 : zaj} {M : St} {L : List LB} (h : Way k0 c0 H0 c M) (hr : RelH c L M.heap) (hB : B ≤ H0.length) : ∃ H', Leaves B M.dfs M.heap H' ∧ RelH c L H' ∧ Step c0 H0 c H' := by
  obtain ⟨H', h1, h2, h3, h4⟩ := h.dfs.leaves hB
  refine ⟨H', h1, hr.kill h2 h3, ⟨by rw [h2]; exact h.step.len, h.step.za, h.step.base, h.step.zf, fun b hb hn => ?_, h.step.own, fun b hb => (h.step.lp b hb).zdx (h3 b (by
    obtain ⟨_, _, _, _, _, _, h9⟩ := h.step.lp b hb
    rw [h9]; intro h; cases h))⟩⟩
  rw [h4 b hb]
  exact h.step.zdx b hb hn
def zmH (k0 : Nat) (c0 : Cx) (H0 : zaj) (Q : LX → LSt → Prop) : Ex → St → Prop := fun ex M => ∃ c' S' x, Way k0 c0 H0 c' M ∧ Rel c' S' M ∧ XR c' x ex ∧ Q x S'
def toM (k0 : Nat) (c0 : Cx) (H0 : zaj) : K → KM
  | .code c => .code c
  | .ops bar e l => .ops bar e l
  | .blk id => .blk id
  | .inv J => .inv fun M => ∃ c' S', Way k0 c0 H0 c' M ∧ Rel c' S' M ∧ J S'
  | .ex id => .code (.exit id)
def zsI (rd : Option Nat) (H : zaj) : Prop := ∀ l, rd = some l → zqc H l
theorem zsI.none (H : zaj) : zsI none H := fun l h => (by cases h)
def EvL (fns : Mach) (k0 : Nat) (k : List K) (S : LSt) (Q : LX → LSt → Prop) : Prop :=
  ∀ (c0 : Cx) (H0 : zaj) (c : Cx) (B : Nat) (rd : Option Nat) (M : St), zsI rd H0 → Way k0 c0 H0 c M → Rel c S M → B ≤ c.base → (sem fns B rd (zmH k0 c0 H0 Q) (k.map (toM k0 c0 H0))).1 M
def zjc (want : Bool) : Option D → Option Bool
  | some (.lit (.bool b)) => some (bif want then b else !b)
  | some (.lit (.tuple _)) => some false
  | _ => none
def zbj (E : List (Nat × D)) : Option (Nat × Bool) → Option Bool
  | none => some true
  | some (k, want) => zjc want (lk E k)
def zhh : D := .lit (.tuple #[])
def LSt.put (S : LSt) : Option Nat → D → Option LSt
  | some k, v => if k < S.N then some ⟨S.N, (k, v) :: S.env, S.heap⟩ else none
  | none, _ => some S
def LSt.zsB (S : LSt) (d : Option Nat) : Option D → Option LSt
  | some v => S.put d v
  | none => none
def LSt.zuC (S : LSt) (d : Option Nat) : Option (D × List LB) → Option LSt
  | some (v, L) => LSt.put ⟨S.N, S.env, L⟩ d v
  | none => none
def doI (S : LSt) (d : Option Nat) (i : I) : Option LSt :=
  match zah i with
  | true => S.zsB d (qL S.heap S.env i)
  | false => S.zuC d (zfP S.heap S.env i)
def zi4 (S : LSt) (d : Option Nat) (i : I) : Option Bool → Option LSt
  | some true => doI S d i
  | some false => S.put d zhh
  | none => none
def zbU : I → Bool
  | .call .. | .zbb .. | .panic .. | .defer .. | .recover => true
  | _ => false
def zkz : Option Bool → C → C → C
  | some true, a, _ => a
  | some false, _, b => b
  | none, _, _ => .bad
def wC : C → Nat
  | .seq a b => wC a + wC b + 4
  | .cond _ a b => wC a + wC b + 4
  | .block _ c => wC c + 4
  | .scope c => wC c + 4
  | .reg _ _ l => l.length + 4
  | _ => 4
theorem zra (c : C) : 4 ≤ wC c := by cases c <;> simp [wC]
theorem zrD (o : Option Bool) (a b : C) : wC (zkz o a b) < wC a + wC b := by
  have h1 := zra a
  have h2 := zra b
  cases o with
  | none => simp [zkz, wC]; omega
  | some t => cases t <;> simp [zkz] <;> omega
def wK : List K → Nat
  | [] => 0
  | .code c :: k => wC c + 1 + wK k
  | .ops _ _ l :: k => l.length + 2 + wK k
  | .blk _ :: k => 2 + wK k
  | .inv _ :: k => 2 + wK k
  | .ex _ :: k => 1 + wK k
def wp (fns : Mach) (k0 : Nat) : List K → Option LSt → (LX → LSt → Prop) → Prop
  | _, none, _ => False
  | [], some S, Q => Q .normal S
  | .inv J :: _, some S, _ => J S
  | .blk _ :: k, some S, Q => wp fns k0 k (some S) Q
  | .ex id :: [], some S, Q => Q (.exit id) S
  | .ex id :: .blk id' :: k, some S, Q => if id = id' then wp fns k0 k (some S) Q else wp fns k0 (.ex id :: k) (some S) Q
  | .ex id :: .inv _ :: k, some S, Q => wp fns k0 (.ex id :: k) (some S) Q
  | .ex id :: .code _ :: k, some S, Q => wp fns k0 (.ex id :: k) (some S) Q
  | .ex id :: .ops _ _ _ :: k, some S, Q => wp fns k0 (.ex id :: k) (some S) Q
  | .ex id :: .ex _ :: k, some S, Q => wp fns k0 (.ex id :: k) (some S) Q
  | .ops _ _ [] :: k, some S, Q => wp fns k0 k (some S) Q
  | .ops bar e (⟨d, i, g⟩ :: l) :: k, some S, Q => match zbU i with
    | true => EvL fns k0 (.ops bar e (⟨d, i, g⟩ :: l) :: k) S Q
    | false => wp fns k0 (.ops bar e l :: k) (zi4 S d i (zbj S.env g)) Q
  | .code (.seq a b) :: k, some S, Q => wp fns k0 (.code a :: .code b :: k) (some S) Q
  | .code (.cond x a b) :: k, some S, Q => wp fns k0 (.code (zkz (zeF (evD S.env x)) a b) :: k) (some S) Q
  | .code (.block id c) :: k, some S, Q => wp fns k0 (.code c :: .blk id :: k) (some S) Q
  | .code (.reg dr bar l) :: k, some S, Q => wp fns k0 (.ops bar (!dr) l :: k) (some S) Q
  | .code (.scope c) :: k, some S, Q => EvL fns k0 (.code (.scope c) :: k) S Q
  | .code .skip :: k, some S, Q => wp fns k0 k (some S) Q
  | .code (.label _) :: k, some S, Q => wp fns k0 k (some S) Q
  | .code .ret :: _, some S, Q => Q .ret S
  | .code (.exit id) :: k, some S, Q => wp fns k0 (.ex id :: k) (some S) Q
  | .code (.loop c) :: k, some S, Q => EvL fns k0 (.code (.loop c) :: k) S Q
  | .code (.zdf x ps a b) :: k, some S, Q => EvL fns k0 (.code (.zdf x ps a b) :: k) S Q
  | .code .bad :: _, some _, _ => False
termination_by k => wK k
decreasing_by
  all_goals simp only [wK, wC, List.length_cons]
  all_goals first | omega | (have := zrD (zeF (evD S.env x)) a b; omega)
section
variable {fns : Mach} {k0 : Nat} {Q : LX → LSt → Prop} {c : Cx} {S : LSt} {M : St} {B : Nat} {rd : Option Nat}
theorem zb1 (h : Rel c S M) {g : Option (Nat × Bool)} {b : Bool} (hw : zbj S.env g = some b) : wanted M.env g = b := by
  cases g with
  | none => cases hw; rfl
  | some x =>
    obtain ⟨k, want⟩ := x
    simp only [zbj] at hw
    cases hl : lk S.env k with
    | none => rw [hl] at hw; cases hw
    | some d =>
      rw [hl] at hw
      obtain ⟨v, g1, g2⟩ := h.env k d hl
      unfold zjc at hw
      split at hw
      · rename_i t heq
        cases heq
        cases hw
        cases zgY g2
        cases want <;> cases t <;> simp [wanted, g1]
      · rename_i t heq
        cases heq
        cases hw
        cases zgY g2
        simp [wanted, g1]
      · cases hw
theorem zcS {c' : Cx} {L : List LB} {H : zaj} (h : Rel c S M) (hle : c.le c') (hH : RelH c' L H) {k : Option Nat} {d : D} {v : V} (hr : R c' d v) {S' : LSt} (hp : LSt.put ⟨S.N, S.env, L⟩ k d = some S') : Rel c' S' (St.put { M with heap := H } k v) := by
  have h0 : Rel c' ⟨S.N, S.env, L⟩ { M with heap := H } := ⟨fun k d hk => by obtain ⟨v, g1, g2⟩ := h.env k d hk; exact ⟨v, g1, g2.mono hle⟩, h.len, hH⟩
  cases k with
  | none => cases hp; exact h0
  | some k =>
    simp only [LSt.put] at hp
    split at hp
    · rename_i hk
      cases hp
      refine ⟨fun j e hj => ?_, by simp [St.put]; exact h.len, hH⟩
      simp only [lk] at hj
      split at hj
      · rename_i he
        subst he
        cases hj
        exact ⟨v, by simp [St.put, h.len, hk], hr⟩
      · rename_i he
        obtain ⟨u, g1, g2⟩ := h0.env j e hj
        exact ⟨u, by simp only [St.put]; rw [List.getElem?_set_ne he]; exact g1, g2⟩
    · cases hp
theorem Rel.le0 (h : Rel c S M) : c.le c := ⟨fun _ _ h => h, fun _ _ h => h, fun β y hy => ⟨y, hy, Lc.up.refl y⟩, h.heap.apart⟩
theorem zdz {k : List KM} {QM : Ex → St → Prop} {d : Option Nat} {i : I} {g : Option (Nat × Bool)} {l : List O} {bar e : Bool} (h : Rel c S M) (hB : B ≤ c.base) (hc : zbU i = false) {S' : LSt} (hs : zi4 S d i (zbj S.env g) = some S')
    (hk : ∀ c' M', Step c M.heap c' M'.heap → c.le c' → M'.dfs = M.dfs → c'.base = c.base → Rel c' S' M' → EvO fns B bar rd.isNone e l M' (zg5 (sem fns B rd QM k))) : EvO fns B bar rd.isNone e (⟨d, i, g⟩ :: l) M (zg5 (sem fns B rd QM k)) := by
  cases hw : zbj S.env g with
  | none => rw [hw] at hs; cases hs
  | some b =>
    rw [hw] at hs
    have hw' := zb1 h hw
    cases b with
    | false => exact EvO.skip hw' (hk c _ (by cases d <;> exact Step.refl _ _) h.le0 (by cases d <;> rfl) rfl (zcS (L := S.heap) (H := M.heap) h h.le0 h.heap (.lit _) hs))
    | true =>
      simp only [zi4, doI] at hs
      cases hq : zah i with
      | true =>
        rw [hq] at hs
        simp only at hs
        cases hv : qL S.heap S.env i with
        | none => rw [hv] at hs; cases hs
        | some v =>
          rw [hv] at hs
          obtain ⟨u, g1, g2⟩ := zo1 h hv
          exact EvO.quiet hw' hq g1 (hk c _ (by cases d <;> exact Step.refl _ _) h.le0 (by cases d <;> rfl) rfl (zcS (L := S.heap) (H := M.heap) h h.le0 h.heap g2 hs))
      | false =>
        rw [hq] at hs
        simp only at hs
        cases hv : zfP S.heap S.env i with
        | none => rw [hv] at hs; cases hs
        | some x =>
          obtain ⟨v, L'⟩ := x
          rw [hv] at hs
          obtain ⟨u, H', c', g1, g2, g3, g4, g5⟩ := zmr h hB hv
          exact EvO.eff hw' hq g1 (hk c' _ (by cases d <;> exact g3) g4 (by cases d <;> rfl) g3.base (zcS h g4 g2 g5 hs))
theorem EvC.zdG {id : Nat} {P : Ex → St → Prop} (h : EvC fns B rd (.exit id) M P) : P (.exit id) M := by
  obtain ⟨N, ex, S', h1, h2⟩ := h
  have := h1 N (Nat.le_refl _)
  simp only [exec, Option.some.injEq, Prod.mk.injEq] at this
  obtain ⟨rfl, rfl⟩ := this
  exact h2
theorem znu (k : List K) (o : Option LSt) (Q : LX → LSt → Prop) : wp fns k0 k o Q → ∀ S, o = some S → EvL fns k0 k S Q := by
  induction k, o, Q using wp.induct with
  | case1 => intro h; simp only [wp] at h
  | case2 S Q =>
    intro h S' hS; cases hS
    simp only [wp] at h
    intro c0 H0 c B rd M hd hw hr hB
    exact ⟨c, S, .normal, hw, hr, trivial, h⟩
  | case3 J k S Q =>
    intro h S' hS; cases hS
    simp only [wp] at h
    intro c0 H0 c B rd M hd hw hr hB
    exact ⟨c, S, hw, hr, h⟩
  | case4 id k S Q ih =>
    intro h S' hS; cases hS
    simp only [wp] at h
    intro c0 H0 c B rd M hd hw hr hB
    exact ih h S rfl c0 H0 c B rd M hd hw hr hB
  | case5 id S Q =>
    intro h S' hS; cases hS
    simp only [wp] at h
    intro c0 H0 c B rd M hd hw hr hB
    exact EvC.exit ⟨c, S, .exit id, hw, hr, rfl, h⟩
  | case6 id k S Q ih =>
    intro h S' hS; cases hS
    simp only [wp, if_true] at h
    intro c0 H0 c B rd M hd hw hr hB
    refine EvC.exit ?_
    simp only [zg5, sem, List.map_cons, toM, if_true]
    exact ih h S rfl c0 H0 c B rd M hd hw hr hB
  | case7 id id' k S Q hne ih =>
    intro h S' hS; cases hS
    simp only [wp, if_neg hne] at h
    intro c0 H0 c B rd M hd hw hr hB
    refine EvC.exit ?_
    simp only [zg5, sem, List.map_cons, toM, if_neg hne]
    have h1 := (EvC.zdG (ih h S rfl c0 H0 c B rd M hd hw hr hB) :)
    exact h1
  | case8 id J k S Q ih =>
    intro h S' hS; cases hS
    simp only [wp] at h
    intro c0 H0 c B rd M hd hw hr hB
    exact EvC.exit (EvC.zdG (ih h S rfl c0 H0 c B rd M hd hw hr hB) :)
  | case9 id x k S Q ih =>
    intro h S' hS; cases hS
    simp only [wp] at h
    intro c0 H0 c B rd M hd hw hr hB
    exact EvC.exit (EvC.zdG (ih h S rfl c0 H0 c B rd M hd hw hr hB) :)
  | case10 id bar e l k S Q ih =>
    intro h S' hS; cases hS
    simp only [wp] at h
    intro c0 H0 c B rd M hd hw hr hB
    exact EvC.exit (EvC.zdG (ih h S rfl c0 H0 c B rd M hd hw hr hB) :)
  | case11 id id' k S Q ih =>
    intro h S' hS; cases hS
    simp only [wp] at h
    intro c0 H0 c B rd M hd hw hr hB
    exact EvC.exit (EvC.zdG (ih h S rfl c0 H0 c B rd M hd hw hr hB) :)
  | case12 bar e k S Q ih =>
    intro h S' hS; cases hS
    simp only [wp] at h
    intro c0 H0 c B rd M hd hw hr hB
    exact EvO.nil (ih h S rfl c0 H0 c B rd M hd hw hr hB)
  | case13 bar e d i g l k S Q hi =>
    intro h S' hS; cases hS
    rw [wp] at h
    simp only [hi] at h
    exact h
  | case14 bar e d i g l k S Q hi ih =>
    intro h S' hS; cases hS
    rw [wp] at h
    simp only [hi] at h
    intro c0 H0 c B rd M hd hw hr hB
    cases hs : zi4 S d i (zbj S.env g) with
    | none => rw [hs] at h; rw [wp] at h; cases h
    | some S' =>
      refine zdz hr hB hi hs fun c' M' hstep hle hdd hb hr' => ?_
      exact ih h S' hs c0 H0 c' B rd M' hd (hw.go hstep hle hr.heap hdd) hr' (by rw [hb]; exact hB)
  | case15 a b k S Q ih =>
    intro h S' hS; cases hS
    simp only [wp] at h
    intro c0 H0 c B rd M hd hw hr hB
    have := ih h S rfl c0 H0 c B rd M hd hw hr hB
    refine EvC.seq (EvC.mono this fun ex M' hx => ?_)
    cases ex <;> exact hx
  | case16 x a b k S Q ih =>
    intro h S' hS; cases hS
    simp only [wp] at h
    intro c0 H0 c B rd M hd hw hr hB
    have := ih h S rfl c0 H0 c B rd M hd hw hr hB
    cases hb : zeF (evD S.env x) with
    | none =>
      rw [hb] at this
      obtain ⟨N, ex, S', h1, h2⟩ := this
      have := h1 N (Nat.le_refl _)
      simp [zkz, exec] at this
    | some t =>
      rw [hb] at this
      refine EvC.cond (zep hr hb) ?_
      cases t <;> exact this
  | case17 id x k S Q ih =>
    intro h S' hS; cases hS
    simp only [wp] at h
    intro c0 H0 c B rd M hd hw hr hB
    have := ih h S rfl c0 H0 c B rd M hd hw hr hB
    refine EvC.block (EvC.mono this fun ex M' hx => ?_)
    cases ex with
    | exit id' =>
      simp only [zg5, sem, List.map_cons, toM] at hx ⊢
      exact hx
    | normal => exact hx
    | ret => exact hx
    | panic v e => exact hx
  | case18 dr bar l k S Q ih =>
    intro h S' hS; cases hS
    simp only [wp] at h
    intro c0 H0 c B rd M hd hw hr hB
    exact EvC.reg (ih h S rfl c0 H0 c B rd M hd hw hr hB)
  | case19 x k S Q =>
    intro h S' hS; cases hS
    simp only [wp] at h
    exact h
  | case20 k S Q ih =>
    intro h S' hS; cases hS
    simp only [wp] at h
    intro c0 H0 c B rd M hd hw hr hB
    exact EvC.skip (ih h S rfl c0 H0 c B rd M hd hw hr hB)
  | case21 l k S Q ih =>
    intro h S' hS; cases hS
    simp only [wp] at h
    intro c0 H0 c B rd M hd hw hr hB
    exact EvC.label (ih h S rfl c0 H0 c B rd M hd hw hr hB)
  | case22 k S Q =>
    intro h S' hS; cases hS
    simp only [wp] at h
    intro c0 H0 c B rd M hd hw hr hB
    refine EvC.ret ?_
    have : ∀ k : List KM, (sem fns B rd (zmH k0 c0 H0 Q) k).2 .ret M = zmH k0 c0 H0 Q .ret M := by
      intro k
      induction k with
      | nil => rfl
      | cons x k ih => cases x <;> exact ih
    show (sem fns B rd (zmH k0 c0 H0 Q) (k.map (toM k0 c0 H0))).2 .ret M
    rw [this]
    exact ⟨c, S, .ret, hw, hr, trivial, h⟩
  | case23 id k S Q ih =>
    intro h S' hS; cases hS
    simp only [wp] at h
    intro c0 H0 c B rd M hd hw hr hB
    exact ih h S rfl c0 H0 c B rd M hd hw hr hB
  | case24 x k S Q =>
    intro h S' hS; cases hS
    simp only [wp] at h
    exact h
  | case25 x ps a b k S Q =>
    intro h S' hS; cases hS
    simp only [wp] at h
    exact h
  | case26 => intro h; simp only [wp] at h
theorem zaa {k : List K} (h : wp fns k0 k (some S) Q) : EvL fns k0 k S Q := znu k (some S) Q h S rfl
end
end Go.Lx
