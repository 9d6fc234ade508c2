/-
  Regions that draw their order. Conditions: none.
-/
import Derived.Test.YtbjfkbkmoeibdaaMx10
namespace Go.Mx
open Go Go.RowKit
set_option linter.unusedSimpArgs false
set_option linter.unusedVariables false

section
variable {P : Program} {B N : Nat} {w1 w : World} {ι : Io} {S S' : St} {a : Act} {r : Rec} {ops : Array Oper} {rd rb : Option Nat} {Q : Exit → Act → World → Prop} {ex : Ex} {bar e : Bool} {Sx : World → Prop}

theorem yields_wpOpIn {i : Nat} {o : Oper} {v : Value} (hi : ops[i]? = some o) (hnd : ∀ c, o.op ≠ .defer c) (hy : YieldsIf P ops Sx o v a) {K : Act → World → Prop} (hS : Sx w) (h : K (a.put o.dst v) w) : wpOpIn (FW rb) 0 P ops Q i K a w := by
  rcases hy with ⟨hw, hv⟩ | ⟨hw, rfl⟩
  · exact wpOp_quiet hi hw hnd (hv w hS) h
  · exact wpOp_skip hi hw h

/-- One operation 'oj', apart from 'oi': whether the value of 'oi' is already in its temporary makes no difference to it, and it makes none to 'oi'. -/
theorem wpOpIn_putIf {j : Nat} {oi oj : Oper} {v : Value} (hj : ops[j]? = some oj) (hap : oi.apart ops oj = true)
    (hsi : ∀ cs b, oi.op ≠ .select cs b) (hsj : ∀ cs b, oj.op ≠ .select cs b) (hdj : ∀ c, oj.op ≠ .defer c)
    (hQ : ∀ c a w, Q (.panic c) (a.put oi.dst v) w → Q (.panic c) a w) {K : Act → World → Prop} {a : Act} {w : World}
    (hy : YieldsIf P ops Sx oi v a) (h : wpOpIn (FW rb) 0 P ops Q j K (a.put oi.dst v) w) :
    wpOpIn (FW rb) 0 P ops Q j (fun a' w' => YieldsIf P ops Sx oi v a' ∧ K (a'.put oi.dst v) w') a w := by
  obtain ⟨h1, h2, h3⟩ := Oper.apart_spec hap
  have keep : ∀ (a : Act), YieldsIf P ops Sx oi v a → ∀ u, YieldsIf P ops Sx oi v (a.put oj.dst u) := fun a hy u =>
    hy.of_same (execOp_put oi hsi a oj.dst u h3) (wanted_put oi a oj.dst u h3)
  have keepD : ∀ d, YieldsIf P ops Sx oi v { a with defers := d :: a.defers } := fun d => hy.of_same rfl rfl
  unfold wpOpIn at *
  simp only [hj] at *
  rw [wanted_put oj a oi.dst v h1] at h
  split
  · rename_i hw
    simp only [hw, if_true] at h
    refine ⟨fun _ _ => trivial, ?_⟩
    have h := h.2
    rw [Oper.semAt_eq _ _ oj hdj, execOp_put oj hsj a oi.dst v h1] at h
    rw [Oper.semAt_eq _ _ oj hdj]
    generalize (execOp a.eval oj).run P w = res at *
    cases res with
    | ok x w' =>
      cases x <;> simp only [Oper.uponIn] at h ⊢
      case value u => exact ⟨keep a hy u, by rw [← Act.put_comm a v u h2]; exact h⟩
      case skip => exact ⟨keep a hy _, by rw [← Act.put_comm a v undef h2]; exact h⟩
      case defer d =>
        refine ⟨keep _ (keepD d) _, ?_⟩
        rw [← Act.put_comm _ v undef h2, ← Act.put_defers]
        exact h
      case enter f args =>
        refine ⟨h.1, CallsIn.mono h.2 fun e w'' he => ?_⟩
        cases e with
        | returned u => exact ⟨keep a hy u, by rw [← Act.put_comm a v u h2]; exact he⟩
        | panicked c => exact hQ _ _ _ he
        | outgrown => exact he
      case row row args => exact ⟨h.1, RowsIn.mono h.2 fun u w'' he => ⟨keep a hy u, by rw [← Act.put_comm a v u h2]; exact he⟩⟩
      case round l f tmps assign body =>
        refine ⟨h.1, RoundIn.mono h.2 fun e w'' he => ?_⟩
        cases e with
        | returned u => exact ⟨keep a hy u, by rw [← Act.put_comm a v u h2]; exact he⟩
        | panicked c => exact hQ _ _ _ he
        | outgrown => exact he
    | halt x w' =>
      cases x <;> simp only [Oper.uponIn] at h ⊢
      case panic u => exact hQ _ _ _ h
  · rename_i hw
    simp only [hw] at h
    exact ⟨fun _ _ => trivial, keep a hy _, by rw [← Act.put_comm a v undef h2]; exact h.2⟩

def wpAnyP (bar : Bool) (rb : Option Nat) (P : Program) (ops : Array Oper) (Q : Exit → Act → World → Prop) : Nat → Array Bool → Act → World → Prop
  | 0, listed, a, w => Region.ready .any ops listed = [] ∧ Q .normal a w
  | fuel + 1, listed, a, w =>
    (Region.ready .any ops listed = [] → Q .normal a w) ∧
    ∀ i ∈ Region.ready .any ops listed, wpOpIn (FW rb) 0 P ops Q i (fun a' w' => (extI bar (irAt P ops i) = true → Below w.heap.size w w') ∧ wpAnyP bar rb P ops Q fuel (listed.setIfInBounds i true) a' w') a w

theorem wpAny_of_P : ∀ (fuel : Nat) (listed : Array Bool) (a : Act) (w : World), wpAnyP bar rb P ops Q fuel listed a w → wpAnyIn (FW rb) 0 P .any ops Q fuel listed a w
  | 0, _, _, _, h => h
  | fuel + 1, _, _, _, h => ⟨h.1, fun i hi => wpOpIn_mono (fun a' w' h' => wpAny_of_P fuel _ a' w' h'.2) (h.2 i hi)⟩

def closedL (ops : Array Oper) (listed : Array Bool) : Prop :=
  ∀ j oj, ops[j]? = some oj → listed.getD j false = true → ∀ ed ∈ oj.after, Region.binds .any ed = true → listed.getD ed.on false = true
theorem closed_set {listed : Array Bool} (h : closedL ops listed) {i : Nat} (hi : i ∈ Region.ready .any ops listed) : closedL ops (listed.setIfInBounds i true) := by
  obtain ⟨_, oi, hoi, hall⟩ := mem_ready.1 hi
  intro j oj hj hl ed hed hb
  by_cases hij : i = j
  · subst hij
    have : oj = oi := Option.some.inj (hj.symm.trans hoi)
    subst this
    exact getD_set_true (hall ed hed hb)
  · rw [getD_set_ne false hij] at hl
    exact getD_set_true (h j oj hj hl ed hed hb)
theorem reach_listed {listed : Array Bool} (h : closedL ops listed) {i : Nat} : ∀ (f j : Nat) oj, ops[j]? = some oj → (∀ ed ∈ oj.after, Region.binds .any ed = true → listed.getD ed.on false = true) → reachB ops f j i = true → listed.getD i false = true
  | 0, _, _, _, _, hr => by simp [reachB] at hr
  | f + 1, j, oj, hj, hall, hr => by
    simp only [reachB, hj] at hr
    obtain ⟨ed, hed, hb⟩ := Array.any_eq_true'.1 hr
    simp only [Bool.and_eq_true, Bool.or_eq_true, beq_iff_eq] at hb
    have h1 := hall ed hed hb.1
    rcases hb.2 with h2 | h2
    · rw [← h2]; exact h1
    · cases hk : ops[ed.on]? with
      | none =>
        cases f with
        | zero => simp [reachB] at h2
        | succ f => simp [reachB, hk] at h2
      | some ok => exact reach_listed h f ed.on ok hk (fun e' he' hb' => h ed.on ok hk h1 e' he' hb') h2

theorem noDefer_spec (h : noDefer ops = true) {j : Nat} {o : Oper} (ho : ops[j]? = some o) : ∀ c, o.op ≠ .defer c := by
  intro c hop
  have := Array.all_eq_true_iff_forall_mem.1 h o (Array.mem_of_getElem? ho)
  rw [hop] at this
  cases this

theorem wpAnyP_first {i : Nat} {oi : Oper} {v : Value} (hi : ops[i]? = some oi) (hsel : ∀ (j : Nat) (o : Oper) cs b, ops[j]? = some o → o.op ≠ .select cs b) (hnd : noDefer ops = true) (hlate : isLd oi = true → lateB bar P ops i = true) (hquiet : extI bar (irAt P ops i) = true)
    (hQ : ∀ c a w, Q (.panic c) (a.put oi.dst v) w → Q (.panic c) a w) :
    ∀ (fuel : Nat) (listed : Array Bool) (a : Act) (w : World), closedL ops listed →
      (∀ j oj, ops[j]? = some oj → j ≠ i → listed.getD j true = false → (∀ e ∈ oj.after, Region.binds .any e = true → e.on ≠ i) → oi.apart ops oj = true) →
      i ∈ Region.ready .any ops listed → YieldsIf P ops (fun w' => isLd oi = true → Below w.heap.size w w') oi v a →
      wpAnyP bar rb P ops Q fuel (listed.setIfInBounds i true) (a.put oi.dst v) w → wpAnyP bar rb P ops Q (fuel + 1) listed a w := by
  intro fuel
  induction fuel with
  | zero =>
    intro listed a w _ _ hr hy H
    refine ⟨fun h => (by rw [h] at hr; cases hr), fun j hj => ?_⟩
    by_cases hji : j = i
    · subst hji; exact yields_wpOpIn hi (noDefer_spec hnd hi) hy (fun _ => Below.refl _ _) ⟨fun _ => Below.refl _ _, H⟩
    · have := ready_mono hj hji
      rw [H.1] at this
      cases this
  | succ fuel ih =>
    intro listed a w hcl hfree hr hy H
    refine ⟨fun h => (by rw [h] at hr; cases hr), fun j hj => ?_⟩
    by_cases hji : j = i
    · subst hji; exact yields_wpOpIn hi (noDefer_spec hnd hi) hy (fun _ => Below.refl _ _) ⟨fun _ => Below.refl _ _, H⟩
    · have h1 := H.2 j (ready_mono hj hji)
      obtain ⟨hjun, oj, hoj, hall⟩ := mem_ready.1 hj
      have hiun : listed.getD i false = false := by
        have h0 := (mem_ready.1 hr).1
        rcases Nat.lt_or_ge i listed.size with h' | h'
        · simp [h'] at h0 ⊢; exact h0
        · simp [Array.getElem?_eq_none h']
      have hext : isLd oi = true → extI bar (irAt P ops j) = true := by
        intro hld
        have hjs : j < ops.size := (Array.getElem?_eq_some_iff.1 hoj).1
        have := List.all_eq_true.1 (hlate hld) j (List.mem_range.2 hjs)
        simp only [Bool.or_eq_true, beq_iff_eq] at this
        rcases this with (h2 | h2) | h2
        · exact absurd h2 hji
        · exact h2
        · have := reach_listed hcl ops.size j oj hoj hall h2
          rw [hiun] at this; cases this
      have hnot : ∀ e ∈ oj.after, Region.binds .any e = true → e.on ≠ i := fun e he hb heq => by
        have h1 := hall e he hb
        rw [heq, hiun] at h1; cases h1
      have h2 := wpOpIn_putIf hoj (hfree j oj hoj hji hjun hnot) (fun cs b => hsel i oi cs b hi) (fun cs b => hsel j oj cs b hoj) (noDefer_spec hnd hoj) hQ hy h1
      have hfree' : ∀ k ok, ops[k]? = some ok → k ≠ i → (listed.setIfInBounds j true).getD k true = false →
          (∀ e ∈ ok.after, Region.binds .any e = true → e.on ≠ i) → oi.apart ops ok = true := fun k ok hk hki hun hno => by
        refine hfree k ok hk hki ?_ hno
        by_cases hjk : j = k
        · subst hjk; exact hjun
        · rw [getD_set_ne true hjk] at hun; exact hun
      refine wpOpIn_mono (fun a' w' h3 => ?_) h2
      have hbel := fun hld => h3.2.1 (hext hld)
      have hy' : YieldsIf P ops (fun w'' => isLd oi = true → Below w'.heap.size w' w'') oi v a' := by
        rcases h3.1 with ⟨g1, g2⟩ | g
        · exact .inl ⟨g1, fun w'' hw'' => g2 w'' (fun hld => (hbel hld).trans ((hw'' hld).mono (hbel hld).size))⟩
        · exact .inr g
      refine ⟨h3.2.1, ih (listed.setIfInBounds j true) a' w' (closed_set hcl hj) hfree' (ready_mono hr (Ne.symm hji)) hy' ?_⟩
      rw [Array.setIfInBounds_comm _ _ hji]
      exact h3.2.2

theorem irAt_eq {i : Nat} {o : Oper} (h : ops[i]? = some o) : irAt P ops i = irOp P o := by simp [irAt, h]
theorem ext_of_quiet {i : I} (h : quietI i = true) : extI bar i = true := by cases i <;> first | rfl | exact h | (simp [quietI] at h)

theorem wpAnyP_monoQ {Q' : Exit → Act → World → Prop} (hQ : ∀ en a w, Q en a w → Q' en a w) : ∀ (fuel : Nat) (listed : Array Bool) (a : Act) (w : World), wpAnyP bar rb P ops Q fuel listed a w → wpAnyP bar rb P ops Q' fuel listed a w
  | 0, _, _, _, h => ⟨h.1, hQ _ _ _ h.2⟩
  | fuel + 1, listed, a, w, h => ⟨fun h0 => hQ _ _ _ (h.1 h0), fun i hi => by
    have hh := wpOpIn_mono (fun a' w' h' => (⟨h'.1, wpAnyP_monoQ hQ fuel _ a' w' h'.2⟩ : (extI bar (irAt P ops i) = true → Below w.heap.size w w') ∧ wpAnyP bar rb P ops Q' fuel (listed.setIfInBounds i true) a' w')) (h.2 i hi)
    exact wpOpIn_monoQ hQ hh⟩

/-- One operation where no other can come up. -/
theorem one_step (hr : RecOk P r) (hF : FSim P N B w1 ι S a w) (hrd : RdRel ι rd rb) {i : Nat} {o : Oper} (ho : ops[i]? = some o) {l : List O} (h : stepO r B bar rd.isNone e S (irO P N ops o) (runOps r B bar rd.isNone e l) = some (ex, S'))
    {K : Act → World → Prop} (hK : ∀ S1 ι1 a1 wx, Io.le ι ι1 → FSim P N B w1 ι1 S1 a1 wx → runOps r B bar rd.isNone e l S1 = some (ex, S') → (extI bar (irAt P ops i) = true → Below w.heap.size w wx) → K a1 wx) :
    wpOpIn (FW rb) 0 P ops (Post P N B w1 ι ex S') i K a w := by
  rcases step_sound (ops := ops) hr hF hrd o h with ⟨hw, hk⟩ | ⟨hw, hq, v, u, hk, hv, hy⟩ | ⟨hw, hq, hE⟩
  · exact wpOp_skip ho hw (hK _ ι _ w (Io.le.refl _) (hF.put (.lit _)) hk (fun _ => Below.refl _ _))
  · exact wpOp_quiet ho hw (quiet_nodefer hq) (hy w fun _ => Below.refl _ _) (hK _ ι _ w (Io.le.refl _) (hF.put hv) hk (fun _ => Below.refl _ _))
  · exact wpOp_effect ho hw hE (fun u ds w' ⟨S1, ι1, hk, hle, hF1, hbel⟩ => hK S1 ι1 _ w' hle hF1 hk (fun he => hbel (by rw [irAt_eq ho] at he; exact he))) (fun v w' hp => kp_post hp)

theorem planB_sound (hr : RecOk P r) : ∀ (f : Nat) (listed : Array Bool) (l : List Nat) (S : St) (ι : Io) (a : Act) (w : World), planB ops f listed = some l → FSim P N B w1 ι S a w → RdRel ι rd rb →
    runOps r B bar rd.isNone e (l.filterMap fun i => (ops[i]?).map (irO P N ops)) S = some (ex, S') → wpAnyP bar rb P ops (Post P N B w1 ι ex S') f listed a w
  | 0, listed, l, S, ι, a, w, hp, hF, _, h => by
    simp only [planB] at hp
    split at hp
    · rename_i he
      cases hp
      simp only [List.filterMap_nil, runOps, Option.some.injEq, Prod.mk.injEq] at h
      obtain ⟨rfl, rfl⟩ := h
      exact ⟨by simpa using he, ι, Io.le.refl _, rfl, hF⟩
    · cases hp
  | f + 1, listed, l, S, ι, a, w, hp, hF, hrd, h => by
    simp only [planB] at hp
    split at hp
    · rename_i hr0
      cases hp
      simp only [List.filterMap_nil, runOps, Option.some.injEq, Prod.mk.injEq] at h
      obtain ⟨rfl, rfl⟩ := h
      exact ⟨fun _ => ⟨ι, Io.le.refl _, rfl, hF⟩, by rw [hr0]; simp⟩
    · rename_i i hr0
      simp only [Option.map_eq_some_iff] at hp
      obtain ⟨l', hp', rfl⟩ := hp
      refine ⟨fun h0 => (by rw [hr0] at h0; cases h0), fun j hj => ?_⟩
      rw [hr0] at hj
      simp at hj
      subst hj
      obtain ⟨_, o, ho, _⟩ := mem_ready.1 (show j ∈ Region.ready .any ops listed by rw [hr0]; simp)
      simp only [List.filterMap_cons, ho, Option.map_some, runOps] at h
      exact one_step hr hF hrd ho h fun S1 ι1 a1 wx hle hF1 hk hbel => ⟨hbel, wpAnyP_monoQ (fun en a w hp => hp.mono hle) f _ _ _ (planB_sound hr f _ l' S1 ι1 a1 wx hp' hF1 (hrd.mono hle) hk)⟩
    · cases hp

theorem planA_sound (hr : RecOk P r) (hsel : Region.noSelect ops = true) (hnd : noDefer ops = true) (hex : ∀ v e', ex = .panic v e' → e' = false) : ∀ (f : Nat) (listed : Array Bool) (pl : List Nat × List Nat) (S : St) (ι : Io) (a : Act) (w : World), closedL ops listed → planA bar P ops f listed = some pl → FSim P N B w1 ι S a w → RdRel ι rd rb →
    runOps r B bar rd.isNone false ((pl.1 ++ pl.2).filterMap fun i => (ops[i]?).map (irO P N ops)) S = some (ex, S') → wpAnyP bar rb P ops (Post P N B w1 ι ex S') f listed a w
  | 0, listed, pl, S, ι, a, w, _, hp, hF, _, h => by
    simp only [planA] at hp
    split at hp
    · rename_i he
      cases hp
      simp only [List.append_nil, List.filterMap_nil, runOps, Option.some.injEq, Prod.mk.injEq] at h
      obtain ⟨rfl, rfl⟩ := h
      exact ⟨by simpa using he, ι, Io.le.refl _, rfl, hF⟩
    · cases hp
  | f + 1, listed, pl, S, ι, a, w, hcl, hp, hF, hrd, h => by
    simp only [planA] at hp
    split at hp
    · rename_i i hfind
      simp only [Option.map_eq_some_iff] at hp
      obtain ⟨pl', hp', rfl⟩ := hp
      have hmem := List.mem_of_find?_eq_some hfind
      have hcond := List.find?_some hfind
      simp only [Bool.and_eq_true] at hcond
      obtain ⟨⟨hq, hfree⟩, hlate⟩ := hcond
      obtain ⟨_, o, ho, _⟩ := mem_ready.1 hmem
      rw [irAt_eq ho] at hq
      simp only [List.cons_append, List.filterMap_cons, ho, Option.map_some, runOps] at h
      have hl : isLd o = true → lateB bar P ops i = true := fun hld => by
        have : ldAt ops i = true := by simp [ldAt, ho, hld]
        simpa [this] using hlate
      have hx : extI bar (irAt P ops i) = true := by rw [irAt_eq ho]; exact ext_of_quiet hq
      have hQ : ∀ {v : Value} (c : List PanicEntry) (a : Act) (w : World), Post P N B w1 ι ex S' (.panic c) (a.put o.dst v) w → Post P N B w1 ι ex S' (.panic c) a w := by
        intro v c a w hpp
        have hd : (a.put o.dst v).defers = a.defers := by cases o.dst <;> rfl
        obtain ⟨ι', h1, h2⟩ := hpp
        refine ⟨ι', h1, ?_⟩
        cases ex with
        | panic v' e' =>
          have := hex v' e' rfl
          subst this
          obtain ⟨u, g1, g2, g3, g4, _⟩ := h2
          rw [hd] at g4
          exact ⟨u, g1, g2, g3, g4, by simp⟩
        | normal => cases h2.1
        | exit id => cases h2.1
        | ret => cases h2.1
      rcases step_sound (ops := ops) hr hF hrd o h with ⟨hw, hk⟩ | ⟨hw, _, v, u, hk, hv, hy⟩ | ⟨hw, hnq, _⟩
      · exact wpAnyP_first ho (Region.noSelect_spec hsel) hnd hl hx (fun c a w hc => hQ c a w hc) f listed a w hcl (Region.free_spec ho hfree) hmem (.inr ⟨hw, rfl⟩)
          (planA_sound hr hsel hnd hex f _ pl' _ ι _ w (closed_set hcl hmem) hp' (hF.put (.lit _)) hrd hk)
      · exact wpAnyP_first ho (Region.noSelect_spec hsel) hnd hl hx (fun c a w hc => hQ c a w hc) f listed a w hcl (Region.free_spec ho hfree) hmem (.inl ⟨hw, hy⟩)
          (planA_sound hr hsel hnd hex f _ pl' _ ι _ w (closed_set hcl hmem) hp' (hF.put hv) hrd hk)
      · rw [hq] at hnq; cases hnq
    · split at hp
      · rename_i hr0
        cases hp
        simp only [List.append_nil, List.filterMap_nil, runOps, Option.some.injEq, Prod.mk.injEq] at h
        obtain ⟨rfl, rfl⟩ := h
        exact ⟨fun _ => ⟨ι, Io.le.refl _, rfl, hF⟩, by rw [hr0]; simp⟩
      · rename_i i hr0
        cases hext : extI bar (irAt P ops i) with
        | false =>
          simp only [hext, cond_false, Option.map_eq_some_iff] at hp
          obtain ⟨l', hp', rfl⟩ := hp
          exact planB_sound (e := false) hr (f + 1) listed l' S ι a w hp' hF hrd (by simpa using h)
        | true =>
          simp only [hext, cond_true, Option.map_eq_some_iff] at hp
          obtain ⟨pl', hp', rfl⟩ := hp
          have hmem : i ∈ Region.ready .any ops listed := by rw [hr0]; simp
          refine ⟨fun h0 => (by rw [hr0] at h0; cases h0), fun j hj => ?_⟩
          rw [hr0] at hj
          simp at hj
          subst hj
          obtain ⟨_, o, ho, _⟩ := mem_ready.1 hmem
          simp only [List.cons_append, List.filterMap_cons, ho, Option.map_some, runOps] at h
          exact one_step hr hF hrd ho h fun S1 ι1 a1 wx hle hF1 hk hbel => ⟨hbel, wpAnyP_monoQ (fun en a w hp => hp.mono hle) f _ _ _ (planA_sound hr hsel hnd hex f _ pl' S1 ι1 a1 wx (closed_set hcl hmem) hp' hF1 (hrd.mono hle) hk)⟩
      · cases hp

theorem stepO_e {o : O} {top : Bool} {k : St → Option (Ex × St)} (h : stepO r B bar top e S o k = some (ex, S')) (hk : ∀ S1, k S1 = some (ex, S') → ∀ v e', ex = .panic v e' → e' = e) : ∀ v e', ex = .panic v e' → e' = e := by
  have hfin : ∀ {x : Option (CR × Heap)}, finO e o S x k = some (ex, S') → ∀ v e', ex = .panic v e' → e' = e := by
    intro x hx
    unfold finO at hx
    split at hx
    · exact hk _ hx
    · simp only [Option.some.injEq, Prod.mk.injEq] at hx
      obtain ⟨rfl, _⟩ := hx
      intro v e' he; cases he; rfl
    · cases hx
  unfold stepO at h
  split at h
  · exact hk _ h
  · split at h
    · split at h
      · exact hfin h
      · cases h
    · split at h
      · exact hfin h
      · cases h
    · split at h
      · simp only [Option.some.injEq, Prod.mk.injEq] at h
        obtain ⟨rfl, _⟩ := h
        intro v e' he; cases he; rfl
      · cases h
    · split at h
      · cases top with
        | true => simp only [cond_true] at h; exact hk _ h
        | false => simp only [cond_false] at h; cases h
      · cases h
    · cases hq : quietI o.i with
      | true =>
        simp only [hq, cond_true] at h
        split at h
        · exact hk _ h
        · cases h
      | false =>
        simp only [hq, cond_false] at h
        split at h
        · exact hk _ h
        · cases h
theorem runOps_e {top : Bool} : ∀ (l : List O) (S S' : St) (ex : Ex), runOps r B bar top e l S = some (ex, S') → ∀ v e', ex = .panic v e' → e' = e
  | [], S, S', ex, h => by
    simp only [runOps, Option.some.injEq, Prod.mk.injEq] at h
    obtain ⟨rfl, _⟩ := h
    intro v e' he; cases he
  | o :: l, S, S', ex, h => stepO_e h fun S1 h1 => runOps_e l S1 S' ex h1
theorem FSim.drew (hF : FSim P N B w1 ι S a w) : FSim P N B w1 ι S a { w with drawn := w.drawn + 1 } := ⟨hF.sim.grown (drew_grown w none), hF.env, hF.dfs⟩
theorem region_draw (hm : P.follows .mixedOrders = true) (hr : RecOk P r) (hF : FSim P N B w1 ι S a w) (hrd : RdRel ι rd rb) {id : Nat} {pl : List Nat × List Nat} (hp : plan bar P ops = some pl)
    (h : runOps r B bar rd.isNone false ((pl.1 ++ pl.2).filterMap fun i => (ops[i]?).map (irO P N ops)) S = some (ex, S')) : (Code.region id ops true).wpIn (FW rb) 0 P (Post P N B w1 ι ex S') a w := by
  unfold plan at hp
  split at hp
  · rename_i hc
    simp only [Bool.and_eq_true] at hc
    refine wpIn_region_any hm (wpAny_of_P (bar := bar) _ _ _ _ (planA_sound hr hc.1.1 hc.1.2 (runOps_e _ _ _ _ h) _ _ pl S ι a _ ?_ hp hF.drew hrd h))
    intro j oj hj hl
    rcases Nat.lt_or_ge j ops.size with h1 | h1
    · simp [h1] at hl
    · simp [h1] at hl
  · cases hp
end
end Go.Mx
