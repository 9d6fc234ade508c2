/-
  Regions that draw their order. Conditions: none.
-/
import Derived.Test.YtobhjbbinnbdaaaNnMx10
namespace Go.Mx
open Go Go.RowKit
section
variable {P : Program} {B N : Nat} {w1 w : World} {ι : Io} {S S' : St} {a : Act} {r : Rec} {ops : Array Oper} {rd rb : Option Nat} {Q : Exit → Act → World → Prop} {ex : Ex} {bar e : Bool} {Sx : World → Prop}
theorem zeX {i : Nat} {o : Oper} {v : Value} (hi : ops[i]? = some o) (hnd : ∀ c, o.op ≠ .defer c) (hy : YieldsIf P ops Sx o v a) {K : Act → World → Prop} (hS : Sx w) (h : K (a.put o.dst v) w) : wpOpIn (FW rb) 0 P ops Q i K a w := by
  rcases hy with ⟨hw, hv⟩ | ⟨hw, rfl⟩
  · exact zfv hi hw hnd (hv w hS) h
  · exact zeS hi hw h
theorem zjm {j : Nat} {oi oj : Oper} {v : Value} (hj : ops[j]? = some oj) (hap : oi.apart ops oj = true)
    (hsi : ∀ cs b, oi.op ≠ .select cs b) (hsj : ∀ cs b, oj.op ≠ .select cs b) (hdj : ∀ c, oj.op ≠ .defer c)
    (hQ : ∀ c a w, Q (.panic c) (a.put oi.dst v) w → Q (.panic c) a w) {K : Act → World → Prop} {a : Act} {w : World}
    (hy : YieldsIf P ops Sx oi v a) (h : wpOpIn (FW rb) 0 P ops Q j K (a.put oi.dst v) w) :
    wpOpIn (FW rb) 0 P ops Q j (fun a' w' => YieldsIf P ops Sx oi v a' ∧ K (a'.put oi.dst v) w') a w := by
  obtain ⟨h1, h2, h3⟩ := Oper.apart_spec hap
  have zdx : ∀ (a : Act), YieldsIf P ops Sx oi v a → ∀ u, YieldsIf P ops Sx oi v (a.put oj.dst u) := fun a hy u =>
    hy.of_same (execOp_put oi hsi a oj.dst u h3) (wanted_put oi a oj.dst u h3)
  have keepD : ∀ d, YieldsIf P ops Sx oi v { a with defers := d :: a.defers } := fun d => hy.of_same rfl rfl
  unfold wpOpIn at *
  simp only [hj] at *
  rw [wanted_put oj a oi.dst v h1] at h
  split
  · rename_i hw
    simp only [hw, if_true] at h
    refine ⟨fun _ _ => trivial, ?_⟩
    have h := h.2
    rw [Oper.semAt_eq _ _ oj hdj, execOp_put oj hsj a oi.dst v h1] at h
    rw [Oper.semAt_eq _ _ oj hdj]
    generalize (execOp a.eval oj).run P w = res at *
    cases res with
    | ok x w' =>
      cases x <;> simp only [Oper.uponIn] at h ⊢
      case value u => exact ⟨zdx a hy u, by rw [← Act.put_comm a v u h2]; exact h⟩
      case skip => exact ⟨zdx a hy _, by rw [← Act.put_comm a v undef h2]; exact h⟩
      case defer d =>
        refine ⟨zdx _ (keepD d) _, ?_⟩
        rw [← Act.put_comm _ v undef h2, ← Act.put_defers]
        exact h
      case enter f args =>
        refine ⟨h.1, CallsIn.mono h.2 fun e w'' he => ?_⟩
        cases e with
        | returned u => exact ⟨zdx a hy u, by rw [← Act.put_comm a v u h2]; exact he⟩
        | panicked c => exact hQ _ _ _ he
        | outgrown => exact he
      case row row args => exact ⟨h.1, RowsIn.mono h.2 fun u w'' he => ⟨zdx a hy u, by rw [← Act.put_comm a v u h2]; exact he⟩⟩
      case round l f tmps assign body =>
        refine ⟨h.1, RoundIn.mono h.2 fun e w'' he => ?_⟩
        cases e with
        | returned u => exact ⟨zdx a hy u, by rw [← Act.put_comm a v u h2]; exact he⟩
        | panicked c => exact hQ _ _ _ he
        | outgrown => exact he
    | halt x w' =>
      cases x <;> simp only [Oper.uponIn] at h ⊢
      case panic u => exact hQ _ _ _ h
  · rename_i hw
    simp only [hw] at h
    exact ⟨fun _ _ => trivial, zdx a hy _, by rw [← Act.put_comm a v undef h2]; exact h.2⟩
abbrev Prs := List (Nat × Nat)
def Carry (ops : Array Oper) (Pr : Prs) (i : Nat) (w w' : World) : Prop := ∀ p ∈ Pr, zcE ops ops.size i p.1 = false → ∀ o, w.heap[p.2]? = some o → w'.heap[p.2]? = some o
def zcH (rb : Option Nat) (P : Program) (ops : Array Oper) (Q : Exit → Act → World → Prop) (Pr : Prs) : Nat → Array Bool → Act → World → Prop
  | 0, listed, a, w => Region.ready .any ops listed = [] ∧ Q .normal a w
  | fuel + 1, listed, a, w =>
    (Region.ready .any ops listed = [] → Q .normal a w) ∧
    ∀ i ∈ Region.ready .any ops listed, wpOpIn (FW rb) 0 P ops Q i (fun a' w' => Carry ops Pr i w w' ∧ zcH rb P ops Q Pr fuel (listed.setIfInBounds i true) a' w') a w
theorem zhy {Pr : Prs} : ∀ (fuel : Nat) (listed : Array Bool) (a : Act) (w : World), zcH rb P ops Q Pr fuel listed a w → wpAnyIn (FW rb) 0 P .any ops Q fuel listed a w
  | 0, _, _, _, h => h
  | fuel + 1, _, _, _, h => ⟨h.1, fun i hi => wpOpIn_mono (fun a' w' h' => zhy fuel _ a' w' h'.2) (h.2 i hi)⟩
theorem zhn {Pr Pr' : Prs} (hs : ∀ p ∈ Pr, p ∈ Pr') : ∀ (fuel : Nat) (listed : Array Bool) (a : Act) (w : World), zcH rb P ops Q Pr' fuel listed a w → zcH rb P ops Q Pr fuel listed a w
  | 0, _, _, _, h => h
  | fuel + 1, _, _, _, h => ⟨h.1, fun i hi => wpOpIn_mono (fun a' w' h' => ⟨fun p hp => h'.1 p (hs p hp), zhn hs fuel _ a' w' h'.2⟩) (h.2 i hi)⟩
def zcZ (ops : Array Oper) (listed : Array Bool) : Prop :=
  ∀ j oj, ops[j]? = some oj → listed.getD j false = true → ∀ ed ∈ oj.after, Region.binds .any ed = true → listed.getD ed.on false = true
theorem zbH {listed : Array Bool} (h : zcZ ops listed) {i : Nat} (hi : i ∈ Region.ready .any ops listed) : zcZ ops (listed.setIfInBounds i true) := by
  obtain ⟨_, oi, hoi, hall⟩ := mem_ready.1 hi
  intro j oj hj hl ed hed hb
  by_cases hij : i = j
  · subst hij
    have : oj = oi := Option.some.inj (hj.symm.trans hoi)
    subst this
    exact getD_set_true (hall ed hed hb)
  · rw [getD_set_ne false hij] at hl
    exact getD_set_true (h j oj hj hl ed hed hb)
theorem zd1 {listed : Array Bool} (h : zcZ ops listed) {i : Nat} : ∀ (f j : Nat) oj, ops[j]? = some oj → (∀ ed ∈ oj.after, Region.binds .any ed = true → listed.getD ed.on false = true) → zcE ops f j i = true → listed.getD i false = true
  | 0, _, _, _, _, hr => by simp [zcE] at hr
  | f + 1, j, oj, hj, hall, hr => by
    simp only [zcE, hj] at hr
    obtain ⟨ed, hed, hb⟩ := Array.any_eq_true'.1 hr
    simp only [Bool.and_eq_true, Bool.or_eq_true, beq_iff_eq] at hb
    have h1 := hall ed hed hb.1
    rcases hb.2 with h2 | h2
    · rw [← h2]; exact h1
    · cases hk : ops[ed.on]? with
      | none =>
        cases f with
        | zero => simp [zcE] at h2
        | succ f => simp [zcE, hk] at h2
      | some ok => exact zd1 h f ed.on ok hk (fun e' he' hb' => h ed.on ok hk h1 e' he' hb') h2
theorem zc6 (h : zgJ ops = true) {j : Nat} {o : Oper} (ho : ops[j]? = some o) : ∀ c, o.op ≠ .defer c := by
  intro c hop
  have := Array.all_eq_true_iff_forall_mem.1 h o (Array.mem_of_getElem? ho)
  rw [hop] at this
  cases this
theorem zl2 {listed : Array Bool} (hcl : zcZ ops listed) {i j : Nat} (hj : j ∈ Region.ready .any ops listed) (hi : listed.getD i false = false) : zcE ops ops.size j i = false := by
  obtain ⟨_, oj, hoj, hall⟩ := mem_ready.1 hj
  cases hr : zcE ops ops.size j i with
  | false => rfl
  | true =>
    have := zd1 hcl ops.size j oj hoj hall hr
    rw [hi] at this; cases this
theorem zdJ {listed : Array Bool} {i : Nat} (hr : i ∈ Region.ready .any ops listed) : listed.getD i false = false := by
  have h0 := (mem_ready.1 hr).1
  rcases Nat.lt_or_ge i listed.size with h' | h'
  · simp [h'] at h0 ⊢; exact h0
  · simp [Array.getElem?_eq_none h']
theorem ziV {i : Nat} {oi : Oper} {v : Value} (hi : ops[i]? = some oi) (hsel : ∀ (j : Nat) (o : Oper) cs b, ops[j]? = some o → o.op ≠ .select cs b) (hnd : zgJ ops = true)
    (hQ : ∀ c a w, Q (.panic c) (a.put oi.dst v) w → Q (.panic c) a w) {Pr Pr' : Prs} (hsub : ∀ p ∈ Pr, p ∈ Pr') {ob : Option Nat} (hob : ∀ b, ob = some b → (i, b) ∈ Pr') :
    ∀ (fuel : Nat) (listed : Array Bool) (a : Act) (w : World), zcZ ops listed →
      (∀ j oj, ops[j]? = some oj → j ≠ i → listed.getD j true = false → (∀ e ∈ oj.after, Region.binds .any e = true → e.on ≠ i) → oi.apart ops oj = true) →
      i ∈ Region.ready .any ops listed → YieldsIf P ops (fun w' => ∀ b, ob = some b → w'.heap[b]? = w.heap[b]?) oi v a → (∀ b, ob = some b → ∃ o, w.heap[b]? = some o) →
      zcH rb P ops Q Pr' fuel (listed.setIfInBounds i true) (a.put oi.dst v) w → zcH rb P ops Q Pr (fuel + 1) listed a w := by
  intro fuel
  induction fuel with
  | zero =>
    intro listed a w _ _ hr hy _ H
    refine ⟨fun h => (by rw [h] at hr; cases hr), fun j hj => ?_⟩
    by_cases hji : j = i
    · subst hji; exact zeX hi (zc6 hnd hi) hy (fun _ _ => rfl) ⟨fun _ _ _ _ ho => ho, H⟩
    · have := ready_mono hj hji
      rw [H.1] at this
      cases this
  | succ fuel ih =>
    intro listed a w hcl hfree hr hy hex H
    refine ⟨fun h => (by rw [h] at hr; cases hr), fun j hj => ?_⟩
    by_cases hji : j = i
    · subst hji; exact zeX hi (zc6 hnd hi) hy (fun _ _ => rfl) ⟨fun _ _ _ _ ho => ho, zhn hsub _ _ _ _ H⟩
    · have h1 := H.2 j (ready_mono hj hji)
      obtain ⟨hjun, oj, hoj, hall⟩ := mem_ready.1 hj
      have hiun := zdJ hr
      have hnot : ∀ e ∈ oj.after, Region.binds .any e = true → e.on ≠ i := fun e he hb heq => by
        have h1 := hall e he hb
        rw [heq, hiun] at h1; cases h1
      have h2 := zjm hoj (hfree j oj hoj hji hjun hnot) (fun cs b => hsel i oi cs b hi) (fun cs b => hsel j oj cs b hoj) (zc6 hnd hoj) hQ hy h1
      have hfree' : ∀ k ok, ops[k]? = some ok → k ≠ i → (listed.setIfInBounds j true).getD k true = false →
          (∀ e ∈ ok.after, Region.binds .any e = true → e.on ≠ i) → oi.apart ops ok = true := fun k ok hk hki hun hno => by
        refine hfree k ok hk hki ?_ hno
        by_cases hjk : j = k
        · subst hjk; exact hjun
        · rw [getD_set_ne true hjk] at hun; exact hun
      refine wpOpIn_mono (fun a' w' h3 => ?_) h2
      have hsame : ∀ b, ob = some b → w'.heap[b]? = w.heap[b]? := fun b hb => by
        obtain ⟨o, ho⟩ := hex b hb
        rw [ho]; exact h3.2.1 (i, b) (hob b hb) (zl2 hcl hj hiun) o ho
      have hy' : YieldsIf P ops (fun w'' => ∀ b, ob = some b → w''.heap[b]? = w'.heap[b]?) oi v a' := by
        rcases h3.1 with ⟨g1, g2⟩ | g
        · exact .inl ⟨g1, fun w'' hw'' => g2 w'' (fun b hb => (hw'' b hb).trans (hsame b hb))⟩
        · exact .inr g
      refine ⟨fun p hp => h3.2.1 p (hsub p hp), ih (listed.setIfInBounds j true) a' w' (zbH hcl hj) hfree' (ready_mono hr (Ne.symm hji)) hy' (fun b hb => by rw [hsame b hb]; exact hex b hb) ?_⟩
      rw [Array.setIfInBounds_comm _ _ hji]
      exact h3.2.2
theorem zcC {i : Nat} {o : Oper} (h : ops[i]? = some o) : zcA P ops i = zau P o := by simp [zcA, h]
theorem zjH {i : I} (h : zah i = true) : zeO bar i = true := by cases i <;> first | rfl | exact h | (simp [zah] at h)
theorem zct {Q' : Exit → Act → World → Prop} {Pr : Prs} (hQ : ∀ en a w, Q en a w → Q' en a w) : ∀ (fuel : Nat) (listed : Array Bool) (a : Act) (w : World), zcH rb P ops Q Pr fuel listed a w → zcH rb P ops Q' Pr fuel listed a w
  | 0, _, _, _, h => ⟨h.1, hQ _ _ _ h.2⟩
  | fuel + 1, listed, a, w, h => ⟨fun h0 => hQ _ _ _ (h.1 h0), fun i hi => by
    have hh := wpOpIn_mono (fun a' w' h' => (⟨h'.1, zct hQ fuel _ a' w' h'.2⟩ : Carry ops Pr i w w' ∧ zcH rb P ops Q' Pr fuel (listed.setIfInBounds i true) a' w')) (h.2 i hi)
    exact ziQ hQ hh⟩
theorem zlH (hr : RecOk P r) (hF : FSim P N B w1 ι S a w) (hrd : zeU ι rd rb) {i : Nat} {o : Oper} (ho : ops[i]? = some o) {k : St → Option (Ex × St)} (h : zbT r B bar rd.isNone e S (irO P N ops o) k = some (ex, S'))
    {K : Act → World → Prop} (hK : ∀ S1 ι1 a1 wx, Io.le ι ι1 → FSim P N B w1 ι1 S1 a1 wx → k S1 = some (ex, S') → (zeO bar (zcA P ops i) = true → Below w.heap.size w wx) →
      ((zeO bar (zcA P ops i) && !alI (zcA P ops i) || zj7 (zcA P ops i)) = true → zpw w S.heap S1.heap ι1) → (calls (zcA P ops i) = false → wanted S.env (irO P N ops o).g = true → zqS B S.heap ι w wx (zqJ S.env (zcA P ops i))) → (wanted S.env (irO P N ops o).g = false → wx = w) →
      (∃ u ds, a1 = ({ a with defers := ds } : Act).put o.dst u) → K a1 wx) :
    wpOpIn (FW rb) 0 P ops (zfy P N B w1 ι ex S') i K a w := by
  have nul : ∀ d (v : V), zpw w S.heap (S.put d v).heap ι := fun d v => by
    have : (S.put d v).heap = S.heap := by cases d <;> rfl
    rw [this]
    exact ⟨fun β o _ h1 h2 => ⟨o, h1, h2⟩, fun β o b s sz h1 _ h3 _ => by have := (List.getElem?_eq_some_iff.1 h1).1; omega⟩
  have hwe := zfr (ops := ops) hF o
  rcases zdz (ops := ops) hr hF hrd o h with ⟨hw, hk⟩ | ⟨hw, hq, v, u, hk, hv, hy⟩ | ⟨hw, hq, hE⟩
  · exact zeS ho hw (hK _ ι _ w (Io.le.refl _) (hF.put (.lit _)) hk (fun _ => Below.refl _ _) (fun _ => nul _ _) (fun _ _ => .za7 (Below.refl _ _)) (fun _ => rfl) ⟨undef, a.defers, rfl⟩)
  · exact zfv ho hw (zfa hq) (hy w fun _ _ => rfl) (hK _ ι _ w (Io.le.refl _) (hF.put hv) hk (fun _ => Below.refl _ _) (fun _ => nul _ _) (fun _ _ => .za7 (Below.refl _ _)) (fun _ => rfl) ⟨u, a.defers, rfl⟩)
  · rw [← hwe] at hw
    refine zeA ho (hwe ▸ hw) hE (fun u ds w' ⟨S1, ι1, hk, hle, hF1, hbel, hnu, hbut⟩ => hK S1 ι1 _ w' hle hF1 hk (fun he => hbel (by rw [zcC ho] at he; exact he)) (fun he => hnu ?_) (fun he _ => ?_) (fun he => by rw [hw] at he; cases he) ⟨u, ds, rfl⟩) (fun v w' hp => znd hp)
    · rw [zcC ho] at he
      generalize zau P o = i at he hq
      cases i <;> first | rfl | (cases he; done) | (cases hq; done) | (simpa [zeO, alI, nuI, zj7, calls, zah] using he)
    · rw [zcC ho] at he ⊢
      exact hbut (by rw [he]; rfl)
theorem zlz {i : Nat} {o : Oper} (ho : ops[i]? = some o) (h : zmC (zau P o) = none ∨ zoY ops i = []) : zkx P N ops i = [irO P N ops o] := by
  unfold zkx
  simp only [ho]
  rcases h with h | h
  · rw [h]
  · rw [h]
    cases zmC (zau P o) <;> rfl
theorem zph {i : Nat} {o : Oper} (ho : ops[i]? = some o) {x : X} (h : zmC (zau P o) = some x) {y : X} {l : List X} (hl : zoY ops i = y :: l) : zkx P N ops i = [{ dst := none, i := .avo (y :: l) x, g := (irO P N ops o).g }, irO P N ops o] := by
  unfold zkx
  simp only [ho]
  rw [h, hl]
theorem znt {top : Bool} {l : List X} {x : X} {g : Option (Nat × Bool)} {k : St → Option (Ex × St)} (h : zbT r B bar top e S { dst := none, i := .avo l x, g := g } k = some (ex, S')) : k S = some (ex, S') ∧ (wanted S.env g = true → zmG S.heap S.env l x = true) := by
  unfold zbT at h
  cases hw : wanted S.env g with
  | false =>
    simp only [hw, St.put] at h
    exact ⟨h, fun h => by cases h⟩
  | true =>
    simp only [hw, St.put, zah, cond_true, q] at h
    cases hv : zmG S.heap S.env l x with
    | false => simp only [hv, cond_false] at h; cases h
    | true =>
      simp only [hv, cond_true] at h
      exact ⟨h, fun _ => rfl⟩
theorem zen {top : Bool} {i : Nat} {o : Oper} (ho : ops[i]? = some o) {l : List Nat} (h : zaE r B bar top e ((i :: l).flatMap (zkx P N ops)) S = some (ex, S')) :
    zbT r B bar top e S (irO P N ops o) (zaE r B bar top e (l.flatMap (zkx P N ops))) = some (ex, S') ∧
    ∀ x y, wanted S.env (irO P N ops o).g = true → zmC (zau P o) = some x → y ∈ zoY ops i → zmG S.heap S.env (zoY ops i) x = true := by
  rw [List.flatMap_cons] at h
  cases ht : zmC (zau P o) with
  | none =>
    rw [zlz ho (.inl ht), List.singleton_append, zaE] at h
    exact ⟨h, fun x y _ hx => by cases hx⟩
  | some x0 =>
    cases hl : zoY ops i with
    | nil =>
      rw [zlz ho (.inr hl), List.singleton_append, zaE] at h
      exact ⟨h, fun x y _ _ hy => by cases hy⟩
    | cons y0 l0 =>
      rw [zph ho ht hl, List.cons_append, List.cons_append, List.nil_append, zaE] at h
      obtain ⟨h1, h2⟩ := znt h
      rw [zaE] at h1
      exact ⟨h1, fun x y hw hx _ => by cases hx; exact h2 hw⟩
structure PrOk (bar : Bool) (P : Program) (ops : Array Oper) (a : Act) (M : Array Bool) (p : Nat × Nat) : Prop where
  done : M.getD p.1 false = true
  rest : ∀ j, j < ops.size → M.getD j false = false → zeO bar (zcA P ops j) = true ∨ zvD (zcA P ops j) = true ∨ zcE ops ops.size j p.1 = true
  addr : ∃ x, ldX ops p.1 = some x ∧ ztI (a.eval x) = some p.2 ∧ ∀ k ok, ops[k]? = some ok → M.getD k false = false → ∀ d, ok.dst = some d → x ≠ .tmp d
theorem zjD {M : Array Bool} (hcl : zcZ ops M) {i j : Nat} (hj : M.getD j false = true) (hi : M.getD i false = false) : zcE ops ops.size j i = false := by
  cases hr : zcE ops ops.size j i with
  | false => rfl
  | true =>
    cases hoj : ops[j]? with
    | none =>
      cases hs : ops.size with
      | zero => rw [hs] at hr; cases hr
      | succ f => rw [hs] at hr; simp [zcE, hoj] at hr
    | some oj =>
      have := zd1 hcl ops.size j oj hoj (fun ed hed hb => hcl j oj hoj hj ed hed hb) hr
      rw [hi] at this; cases this
theorem PrOk.step {M : Array Bool} {p : Nat × Nat} (hp : PrOk bar P ops a M p) {j : Nat} {oj : Oper} (hj : ops[j]? = some oj) (hjr : j ∈ Region.ready .any ops M) {u : Value} {ds : List Deferred} :
    PrOk bar P ops (({ a with defers := ds } : Act).put oj.dst u) (M.setIfInBounds j true) p := by
  have hmono : ∀ {k}, (M.setIfInBounds j true).getD k false = false → M.getD k false = false := fun {k} h => by
    cases hM : M.getD k false with
    | false => rfl
    | true => rw [getD_set_true hM] at h; cases h
  obtain ⟨x, h1, h2, h3⟩ := hp.addr
  refine ⟨getD_set_true hp.done, fun k hk hun => hp.rest k hk (hmono hun), x, h1, ?_, fun k ok hk hun d hd => h3 k ok hk (hmono hun) d hd⟩
  rw [← h2]
  congr 1
  cases hd : oj.dst with
  | none => rfl
  | some d =>
    have := h3 j oj hj (zdJ hjr) d hd
    cases x with
    | tmp k =>
      have hne : k ≠ d := fun h => this (by rw [h])
      simp only [Act.put, Act.eval]
      simp [hne, Ne.symm hne]
    | _ => rfl
theorem zk5 (hF : FSim P N B w1 ι S a w) {M : Array Bool} (hcl : zcZ ops M) {i : Nat} {o : Oper} (ho : ops[i]? = some o) (hi : i ∈ Region.ready .any ops M) {Pr : Prs} (hP : ∀ p ∈ Pr, PrOk bar P ops a M p) {w' : World}
    (hbel : zeO bar (zcA P ops i) = true → Below w.heap.size w w') (hbut : calls (zcA P ops i) = false → wanted S.env (irO P N ops o).g = true → zqS B S.heap ι w w' (zqJ S.env (zcA P ops i))) (hsk : wanted S.env (irO P N ops o).g = false → w' = w)
    (havo : ∀ x y, wanted S.env (irO P N ops o).g = true → zmC (zau P o) = some x → y ∈ zoY ops i → zmG S.heap S.env (zoY ops i) x = true) : Carry ops Pr i w w' := by
  intro p hp hre o0 ho0
  have hlt := (Array.getElem?_eq_some_iff.1 ho0).1
  have hpo := hP p hp
  have hiu := zdJ hi
  rcases hpo.rest i (Array.getElem?_eq_some_iff.1 ho).1 hiu with h | h | h
  · rw [(hbel h).block _ hlt]; exact ho0
  · cases hw : wanted S.env (irO P N ops o).g with
    | false => rw [hsk hw]; exact ho0
    | true =>
      obtain ⟨x, hx⟩ := Option.isSome_iff_exists.1 h
      have hcal : calls (zcA P ops i) = false := by
        generalize zcA P ops i = i0 at hx
        cases i0 <;> first | rfl | cases hx
      obtain ⟨ob, g1, g2⟩ := hbut hcal hw
      rw [← ho0]
      refine g1 _ hlt fun he => ?_
      obtain ⟨β, s, sz, ob', k1, k2, k3, k4, k5⟩ := g2 _ he.symm
      obtain ⟨y, a1, a2, _⟩ := hpo.addr
      have hmem : opX y ∈ zoY ops i := by
        unfold zoY
        rw [List.mem_filterMap]
        have hlt : p.1 < ops.size := by
          cases ho : ops[p.1]? with
          | none => simp [ldX, ho] at a1
          | some o => exact (Array.getElem?_eq_some_iff.1 ho).1
        refine ⟨p.1, List.mem_range.2 hlt, ?_⟩
        rw [hre, zjD hcl hpo.done hiu, a1]
        rfl
      rw [zcC ho] at hx
      have hv := havo x _ hw hx hmem
      unfold zmG at hv
      unfold zqJ at k1
      rw [zcC ho, hx] at k1
      simp only [Option.bind_some] at k1
      cases hev : ev S.env x with
      | none => rw [hev] at k1; cases k1
      | some v =>
        rw [hev] at k1 hv
        simp only [Option.bind_some] at k1
        simp only [k1, List.all_eq_true] at hv
        have hv := hv _ hmem
        unfold zrG at hv
        split at hv
        · rename_i γ off hγ
          simp only [Bool.and_eq_true, Bool.not_eq_true', beq_eq_false_iff_ne, ne_eq] at hv
          obtain ⟨cs, hcs⟩ := Option.isSome_iff_exists.1 hv.1
          have hr := zac hF.env hγ
          generalize hu0 : a.eval y = u0 at hr
          cases hr with
          | ptr _ _ b s2 sz2 hι =>
            rw [hu0] at a2
            simp only [ztI, Option.some.injEq] at a2
            rw [← a2] at k2
            rcases Nat.lt_or_ge γ B with hγB | hγB
            · have h1 := hF.sim.old γ _ _ _ _ (zcB hcs) trivial hγB hι
              have h2 := hF.sim.own β _ _ _ _ k3 k4 k5 k2
              omega
            · exact hv.2 (hF.sim.inj β γ _ _ _ _ _ _ _ k3 (zcB hcs) k4 trivial k5 hγB k2 hι).symm
        · cases hv
  · rw [h] at hre; cases hre
theorem zgr (hr : RecOk P r) {Pr : Prs} : ∀ (f : Nat) (listed : Array Bool) (l : List Nat) (S : St) (ι : Io) (a : Act) (w : World), zcZ ops listed → zjX ops f listed = some l → FSim P N B w1 ι S a w → zeU ι rd rb → (∀ p ∈ Pr, PrOk bar P ops a listed p) →
    zaE r B bar rd.isNone e (l.flatMap (zkx P N ops)) S = some (ex, S') → zcH rb P ops (zfy P N B w1 ι ex S') Pr f listed a w
  | 0, listed, l, S, ι, a, w, _, hp, hF, _, _, h => by
    simp only [zjX] at hp
    split at hp
    · rename_i he
      cases hp
      simp only [List.flatMap_nil, zaE, Option.some.injEq, Prod.mk.injEq] at h
      obtain ⟨rfl, rfl⟩ := h
      exact ⟨by simpa using he, ι, Io.le.refl _, rfl, hF⟩
    · cases hp
  | f + 1, listed, l, S, ι, a, w, hcl, hp, hF, hrd, hP, h => by
    simp only [zjX] at hp
    split at hp
    · rename_i hr0
      cases hp
      simp only [List.flatMap_nil, zaE, Option.some.injEq, Prod.mk.injEq] at h
      obtain ⟨rfl, rfl⟩ := h
      exact ⟨fun _ => ⟨ι, Io.le.refl _, rfl, hF⟩, by rw [hr0]; simp⟩
    · rename_i i hr0
      simp only [Option.map_eq_some_iff] at hp
      obtain ⟨l', hp', rfl⟩ := hp
      refine ⟨fun h0 => (by rw [hr0] at h0; cases h0), fun j hj => ?_⟩
      have hjm := hj
      rw [hr0] at hj
      simp at hj
      subst hj
      obtain ⟨_, o, ho, _⟩ := mem_ready.1 hjm
      obtain ⟨h, havo⟩ := zen ho h
      refine zlH hr hF hrd ho h fun S1 ι1 a1 wx hle hF1 hk hbel _ hbut hsk ha1 => ⟨zk5 hF hcl ho hjm hP hbel hbut hsk havo, zct (fun en a w hp => hp.mono hle) f _ _ _ (zgr hr f _ l' S1 ι1 a1 wx (zbH hcl hjm) hp' hF1 (hrd.mono hle) (fun p hp => ?_) hk)⟩
      obtain ⟨u, ds, rfl⟩ := ha1
      exact (hP p hp).step ho hjm
    · cases hp
theorem zrC {o : O} {top : Bool} {k : St → Option (Ex × St)} (h : zbT r B bar top e S o k = some (ex, S')) (hk : ∀ S1, k S1 = some (ex, S') → ∀ v e', ex = .panic v e' → e' = e) : ∀ v e', ex = .panic v e' → e' = e := by
  have hfin : ∀ {x : Option (CR × zaj)}, zj3 e o S x k = some (ex, S') → ∀ v e', ex = .panic v e' → e' = e := by
    intro x hx
    unfold zj3 at hx
    split at hx
    · exact hk _ hx
    · simp only [Option.some.injEq, Prod.mk.injEq] at hx
      obtain ⟨rfl, _⟩ := hx
      intro v e' he; cases he; rfl
    · cases hx
  unfold zbT at h
  split at h
  · exact hk _ h
  · split at h
    · split at h
      · exact hfin h
      · cases h
    · split at h
      · exact hfin h
      · cases h
    · split at h
      · simp only [Option.some.injEq, Prod.mk.injEq] at h
        obtain ⟨rfl, _⟩ := h
        intro v e' he; cases he; rfl
      · cases h
    · split at h
      · cases top with
        | true => simp only [cond_true] at h; exact hk _ h
        | false => simp only [cond_false] at h; cases h
      · cases h
    · cases hq : zah o.i with
      | true =>
        simp only [hq, cond_true] at h
        split at h
        · exact hk _ h
        · cases h
      | false =>
        simp only [hq, cond_false] at h
        split at h
        · exact hk _ h
        · cases h
theorem zlC {top : Bool} : ∀ (l : List O) (S S' : St) (ex : Ex), zaE r B bar top e l S = some (ex, S') → ∀ v e', ex = .panic v e' → e' = e
  | [], S, S', ex, h => by
    simp only [zaE, Option.some.injEq, Prod.mk.injEq] at h
    obtain ⟨rfl, _⟩ := h
    intro v e' he; cases he
  | o :: l, S, S', ex, h => zrC h fun S1 h1 => zlC l S1 S' ex h1
end
end Go.Mx
