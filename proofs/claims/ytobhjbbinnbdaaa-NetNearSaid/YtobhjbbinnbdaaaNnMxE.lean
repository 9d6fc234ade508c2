/-
  Regions that draw their order: the machine's one order stands for all. Conditions: none.
-/
import Derived.Test.YtobhjbbinnbdaaaNnJ9
namespace Go.Mx
open Go Go.RowKit
section
variable {P : Program} {B N : Nat} {w1 w : World} {ι : Io} {S S' : St} {a : Act} {r : Rec} {ops : Array Oper} {rd rb : Option Nat} {Q : Exit → Act → World → Prop} {ex : Ex} {bar e : Bool} {Sx : World → Prop}
theorem zlq (hex : ∀ v e', ex = .panic v e' → e' = false) {d : Option Tmp} {u : Value} (c : List PanicEntry) (a : Act) (w : World) : zfy P N B w1 ι ex S' (.panic c) (a.put d u) w ↔ zfy P N B w1 ι ex S' (.panic c) a w := by
  have hd : (a.put d u).defers = a.defers := by cases d <;> rfl
  constructor
  all_goals
    intro hpp
    obtain ⟨ι', h1, h2⟩ := hpp
    refine ⟨ι', h1, ?_⟩
    cases ex with
    | panic v' e' =>
      have := hex v' e' rfl
      subst this
      obtain ⟨u, g1, g2, g3, g4, _⟩ := h2
      first
        | (rw [hd] at g4; exact ⟨u, g1, g2, g3, g4, by simp⟩)
        | (exact ⟨u, g1, g2, g3, by rw [hd]; exact g4, by simp⟩)
    | normal => cases h2.1
    | exit id => cases h2.1
    | ret => cases h2.1
structure Stage (bar : Bool) (P : Program) (ops : Array Oper) (M : Array Bool) (n : Nat) (r1 : List Nat) : Prop where
  mem : n ∈ Region.ready .any ops M
  ext : zeO bar (zcA P ops n) = true ∨ zme P ops n = true
  others : ∀ i ∈ Region.ready .any ops M, i ≠ n → alI (zcA P ops i) = true ∧ Region.free .any ops M i = true
  clos : ∀ k ok, ops[k]? = some ok → M.getD k true = false → k ∉ Region.ready .any ops M → ∃ e ∈ ok.after, Region.binds .any e = true ∧ M.getD e.on false = false ∧ (e.on = n ∨ e.on ∉ Region.ready .any ops M)
  sure : ∀ i ∈ Region.ready .any ops M, i ≠ n → zin (zcA P ops i) = true ∨ ∃ k, i ∈ (n :: r1).take k ∧ ∀ j ∈ (n :: r1).take k, (alI (zcA P ops j) || zme P ops j) = true ∧ (j ≠ i → zlQ ops i j = true)
theorem zkp {M : Array Bool} {n : Nat} {r1 : List Nat} (h1 : okN bar P ops M (Region.ready .any ops M) n = true) (h2 : okF P ops (Region.ready .any ops M) n r1 = true) : Stage bar P ops M n r1 := by
  simp only [okN, Bool.and_eq_true, List.all_eq_true, Bool.or_eq_true, beq_iff_eq, List.mem_range, List.contains_iff_mem, decide_eq_true_eq] at h1
  obtain ⟨⟨⟨⟨g1, g2⟩, g3⟩, g4⟩, g5⟩ := h1
  refine ⟨g1, g2, fun i hi hne => ?_, fun k ok hk hun hnot => ?_, fun i hi hne => ?_⟩
  · rcases g3 i hi with h | h
    · exact absurd h hne
    · exact h
  · rcases g5 k (Array.getElem?_eq_some_iff.1 hk).1 with (h | h) | h
    · rw [h] at hun; cases hun
    · exact absurd h hnot
    · rw [hk] at h
      obtain ⟨ed, hed, hb⟩ := Array.any_eq_true'.1 h
      simp only [Bool.and_eq_true, Bool.or_eq_true, beq_iff_eq, Bool.not_eq_true', List.contains_eq_mem, decide_eq_false_iff_not] at hb
      exact ⟨ed, hed, hb.1.1, hb.1.2, hb.2⟩
  · cases hs : zin (zcA P ops i) with
    | true => exact .inl rfl
    | false =>
      refine .inr ⟨r1.idxOf i + 2, ?_⟩
      have h3 := List.all_eq_true.1 h2 i hi
      rw [List.take_succ_cons]
      simp only [hs, Bool.or_false, Bool.or_eq_true, beq_iff_eq, Bool.and_eq_true, List.contains_iff_mem, List.all_eq_true] at h3
      rcases h3 with h3 | ⟨h3, h4⟩
      · exact absurd h3 hne
      · refine ⟨h3, fun j hj => ⟨by rw [Bool.or_eq_true]; exact (h4 j hj).1, fun hji => ?_⟩⟩
        rcases (h4 j hj).2 with h | h
        · exact absurd h hji
        · exact h
theorem znI {M : Array Bool} {n : Nat} {r1 : List Nat} (hr : Region.ready .any ops M = [n]) (hx : zeO bar (zcA P ops n) = true) : Stage bar P ops M n r1 := by
  refine ⟨by rw [hr]; simp, .inl hx, fun i hi hne => ?_, fun k ok hk hun hnot => ?_, fun i hi hne => ?_⟩
  · rw [hr] at hi; simp at hi; exact absurd hi hne
  · have hnr : ¬ ∀ e ∈ ok.after, Region.binds .any e = true → M.getD e.on false = true := fun h => hnot (mem_ready.2 ⟨hun, ok, hk, h⟩)
    obtain ⟨ed, h1⟩ := Classical.not_forall.1 hnr
    obtain ⟨h2, h1⟩ := Classical.not_imp.1 h1
    obtain ⟨h3, h1⟩ := Classical.not_imp.1 h1
    refine ⟨ed, h2, h3, by simpa using h1, ?_⟩
    by_cases hm : ed.on ∈ Region.ready .any ops M
    · rw [hr] at hm; simp at hm; exact .inl hm
    · exact .inr hm
  · rw [hr] at hi; simp at hi; exact absurd hi hne
theorem zkG {Y : Pen} {M : Array Bool} {h : zaj} (hY : ∀ p ∈ Y, PenOk P ops B a w w1 ι h M p) {j : Nat} {oj : Oper} (hj : ops[j]? = some oj) (hjr : j ∈ Region.ready .any ops M) (hn : j ∉ Y.map (·.1)) : ApY ops Y oj := by
  intro p hp
  obtain ⟨oy, hoy, _⟩ := (hY p hp).made
  obtain ⟨hju, oj', hoj', hall⟩ := mem_ready.1 hjr
  have : oj' = oj := Option.some.inj (hoj'.symm.trans hj)
  subst this
  have hpu := (mem_ready.1 (hY p hp).ready).1
  have hne : j ≠ p.1 := fun h => hn (List.mem_map.2 ⟨p, hp, h.symm⟩)
  exact ⟨oy, hoy, (hY p hp).free oy hoy j oj' hj hne hju fun e he hb' heq => by
    have h1 := hall e he hb'
    rw [heq] at h1
    rcases Nat.lt_or_ge p.1 M.size with h2 | h2
    · simp [h2] at h1 hpu; rw [h1] at hpu; cases hpu
    · simp [Array.getElem?_eq_none h2] at h1⟩
def zoH (p q : Nat × Option Nat × Value) : Prop := p.1 ≠ q.1 ∧ ∀ b, p.2.1 = some b → q.2.1 ≠ some b
theorem zl1 {Y : Pen} (h : Y.Pairwise zoH) : (Y.map (·.1)).Nodup := by
  rw [List.Nodup, List.pairwise_map]
  exact h.imp fun h => h.1
theorem zhC (ops : Array Oper) (Pr : Prs) (j : Nat) (w : World) : Carry ops Pr j w w := fun _ _ _ _ h => h
theorem zjg (Pr : Prs) (j : Nat) (w : World) (x : Obj) : Carry ops Pr j w (zaU w x) := fun p _ _ o h => by
  rw [(zat w x).block _ (Array.getElem?_eq_some_iff.1 h).1]; exact h
theorem zvl (hF : FSim P N B w1 ι S a w) {o : Oper} (hq : zah (zau P o) = true) {top : Bool} {k : St → Option (Ex × St)} (h : zbT r B bar top e S (irO P N ops o) k = some (ex, S')) (hw : Region.wanted o (yielded ops a.tmps) = true) : ∀ b, ldB a o = some b → ∃ x, w.heap[b]? = some x := by
  intro b hb
  have hwe := zfr (ops := ops) hF o
  rw [hw] at hwe
  unfold ldB at hb
  split at hb
  · rename_i t x hop
    have hi : (irO P N ops o).i = zau P o := rfl
    have hir : zau P o = bif zb0 P t then .load (zj4 P t) (opX x) else .bad := by unfold zau; rw [hop]
    cases ht : zb0 P t with
    | false => rw [hir, ht] at hq; cases hq
    | true =>
      rw [ht, cond_true] at hir
      unfold zbT at h
      simp only [hwe, hi, hir, zah, cond_true, q] at h
      split at h
      · rename_i v hv
        split at hv
        · rename_i β off hev
          obtain ⟨cs, h2, h3⟩ := Option.bind_eq_some_iff.1 hv
          have hx := zac hF.env hev
          obtain ⟨b', s, sz, arr, T, fr, k1, k2, _⟩ := hF.sim.cells h2
          generalize hu0 : a.eval x = u0 at hx hb
          cases hx with
          | ptr _ _ b2 s2 sz2 hι =>
            rw [k1] at hι
            cases hι
            simp only [ztI, Option.some.injEq] at hb
            subst hb
            exact ⟨_, k2⟩
        · cases hv
      · cases h
  · cases hb
theorem zp8 {i : Nat} {o : Oper} (ho : ops[i]? = some o) {M : Array Bool} (hi : i ∈ Region.ready .any ops M) (hl : (!ztc ops i || zpW bar P ops M i) = true) {b : Nat} (hb : ldB a o = some b) {u : Value} : PrOk bar P ops (a.put o.dst u) (M.setIfInBounds i true) (i, b) := by
  unfold ldB at hb
  split at hb
  · rename_i t x hop
    have hld : ztc ops i = true := by simp [ztc, ho, zvS, hop]
    have hlx : ldX ops i = some x := by simp [ldX, ho, hop]
    rw [hld] at hl
    simp only [Bool.not_true, Bool.false_or, zpW, Bool.and_eq_true, hlx, List.all_eq_true, List.mem_range, Bool.or_eq_true, beq_iff_eq] at hl
    obtain ⟨h1, h2⟩ := hl
    have hmono : ∀ {k}, (M.setIfInBounds i true).getD k false = false → M.getD k false = false := fun {k} h => by
      cases hM : M.getD k false with
      | false => rfl
      | true => rw [getD_set_true hM] at h; cases h
    have hset : (M.setIfInBounds i true).getD i false = true := by
      have := (mem_ready.1 hi).1
      rcases Nat.lt_or_ge i M.size with h' | h'
      · simp [h']
      · simp [Array.getElem?_eq_none h'] at this
    have hne : ∀ k ok, ops[k]? = some ok → M.getD k false = false → ∀ d, ok.dst = some d → x ≠ .tmp d := fun k ok hk hun d hd hx => by
      subst hx
      simp only [List.all_eq_true, List.mem_range, Bool.or_eq_true] at h2
      rcases h2 k (Array.getElem?_eq_some_iff.1 hk).1 with h3 | h3
      · rw [hun] at h3; cases h3
      · simp [hk, hd] at h3
    refine ⟨hset, fun j hj hun => ?_, x, hlx, ?_, fun k ok hk hun => hne k ok hk (hmono hun)⟩
    · rcases h1 j hj with (((h3 | h3) | h3) | h3) | h3
      · subst h3; rw [hset] at hun; cases hun
      · exact .inl h3
      · exact .inr (.inl h3)
      · rw [hmono hun] at h3; cases h3
      · exact .inr (.inr h3)
    · rw [← hb]
      congr 1
      cases hd : o.dst with
      | none => rfl
      | some d =>
        have := hne i o ho (zdJ hi) d hd
        cases x with
        | tmp k =>
          have hne : k ≠ d := fun h => this (by rw [h])
          simp only [Act.put, Act.eval]
          simp [hne, Ne.symm hne]
        | _ => rfl
  · cases hb
theorem zbl (hr : RecOk P r) (hsel : Region.noSelect ops = true) (hnd : zgJ ops = true) (hex : ∀ v e', ex = .panic v e' → e' = false) : ∀ (g : Nat) (Y : Pen) (M : Array Bool) (pl : List Nat × List Nat) (S : St) (ι : Io) (a : Act) (w : World), zcZ ops M →
    zd9 bar P ops (g + Y.length) M = some pl → FSim P N B w1 ι S a w → zeU ι rd rb → (∀ p ∈ Y, PenOk P ops B a w w1 ι S.heap M p) → Y.Pairwise zoH → ∀ (Pr : Prs), (∀ p ∈ Pr, PrOk bar P ops a M p) →
    zaE r B bar rd.isNone false ((pl.1 ++ pl.2).flatMap (zkx P N ops)) S = some (ex, S') → zcH rb P ops (zfy P N B w1 ι ex S') Pr g (zeE Y M) (zcl ops Y a) w := by
  intro g Y M pl S ι a w hcl hp hF hrd hY hpw Pr hP h
  have hse := Region.noSelect_spec hsel
  have hnod := zl1 hpw
  have hYr : ∀ p ∈ Y, p.1 ∈ Region.ready .any ops M := fun p hp => (hY p hp).ready
  have hpens : ∀ {i f pl'}, zd9 bar P ops f (M.setIfInBounds i true) = some pl' → i ∉ Y.map (·.1) → Y.length ≤ f := fun {i f pl'} hp' hi => by
    have := zkg f _ pl' (Y.map (·.1)) hp' hnod fun y hy => by
      obtain ⟨p, hp1, rfl⟩ := List.mem_map.1 hy
      exact ⟨ready_mono (hYr p hp1) (fun h => hi (by rw [← h]; exact hy)), (hY p hp1).al⟩
    rw [List.length_map] at this
    exact this
  have hp0 := hp
  cases hfy : g + Y.length with
  | zero =>
    have hg : g = 0 := by omega
    have hY0 : Y = [] := List.eq_nil_of_length_eq_zero (by omega)
    subst hg
    subst hY0
    simp only [List.length_nil, Nat.add_zero, zd9] at hp
    split at hp
    · rename_i he
      cases hp
      simp only [List.append_nil, List.flatMap_nil, zaE, Option.some.injEq, Prod.mk.injEq] at h
      obtain ⟨rfl, rfl⟩ := h
      exact ⟨by show Region.ready .any ops M = []; simpa using he, ι, Io.le.refl _, rfl, hF⟩
    · cases hp
  | succ f =>
    rw [hfy] at hp
    simp only [zd9] at hp
    split at hp
    ·
      rename_i i hfind
      simp only [Option.map_eq_some_iff] at hp
      obtain ⟨pl', hp', rfl⟩ := hp
      have hmem := List.mem_of_find?_eq_some hfind
      have hcond := List.find?_some hfind
      simp only [Bool.and_eq_true] at hcond
      obtain ⟨⟨hq, hfree⟩, hlate⟩ := hcond
      obtain ⟨hiu, o, ho, hall⟩ := mem_ready.1 hmem
      rw [zcC ho] at hq
      have hiY : i ∉ Y.map (·.1) := fun hi => by
        obtain ⟨p, hp1, rfl⟩ := List.mem_map.1 hi
        have := ziX (hY p hp1).al
        rw [zcC ho, hq] at this
        cases this
      have hYf := hpens hp' hiY
      obtain ⟨g', rfl⟩ : ∃ g', g = g' + 1 := ⟨g - 1, by omega⟩
      have hf : f = g' + Y.length := by omega
      subst hf
      simp only [List.cons_append] at h
      have h := (zen ho h).1
      have hx : zeO bar (zcA P ops i) = true := by rw [zcC ho]; exact zjH hq
      have hap := zkG hY ho hmem hiY
      have hsi : ∀ cs b, o.op ≠ .select cs b := fun cs b => hse i o cs b ho
      have hfr : ∀ j oj, ops[j]? = some oj → j ≠ i → (zeE Y M).getD j true = false → (∀ e ∈ oj.after, Region.binds .any e = true → e.on ≠ i) → o.apart ops oj = true := fun j oj hj hne hun hno => Region.free_spec ho hfree j oj hj hne (zgG Y M hun) hno
      have next : ∀ v u (ob : Option Nat), (∀ b, ob = some b → ldB a o = some b ∧ ∃ x, w.heap[b]? = some x) → ((∀ w', (∀ b, ob = some b → w'.heap[b]? = w.heap[b]?) → (execOp a.eval o).run P w' = .ok (.value u) w') ∧ Region.wanted o (yielded ops a.tmps) = true ∧ VRel ι v u ∨ Region.wanted o (yielded ops a.tmps) = false ∧ u = undef ∧ v = zaF) →
          zaE r B bar rd.isNone false ((pl'.1 ++ pl'.2).flatMap (zkx P N ops)) (S.put o.dst v) = some (ex, S') → zcH rb P ops (zfy P N B w1 ι ex S') Pr (g' + 1) (zeE Y M) (zcl ops Y a) w := by
        intro v u ob hob hy hk
        have hvr : VRel ι v u := by
          rcases hy with ⟨_, _, h3⟩ | ⟨_, h2, h3⟩
          · exact h3
          · subst h2; subst h3; exact .lit _
        have hheap : (S.put o.dst v).heap = S.heap := by cases o.dst <;> rfl
        have hold : ∀ p ∈ Pr, PrOk bar P ops (a.put o.dst u) (M.setIfInBounds i true) p := fun p hp => (hP p hp).step (ds := a.defers) ho hmem
        obtain ⟨Pr', hsub, hobP, hP'⟩ : ∃ Pr' : Prs, (∀ p ∈ Pr, p ∈ Pr') ∧ (∀ b, ob = some b → (i, b) ∈ Pr') ∧ ∀ p ∈ Pr', PrOk bar P ops (a.put o.dst u) (M.setIfInBounds i true) p := by
          cases ob with
          | none => exact ⟨Pr, fun _ h => h, fun b hb => (by cases hb), hold⟩
          | some b =>
            refine ⟨(i, b) :: Pr, fun p hp => List.mem_cons_of_mem _ hp, fun b' hb => by cases hb; exact List.mem_cons_self, fun p hp => ?_⟩
            rcases List.mem_cons.1 hp with rfl | hp
            · exact zp8 ho hmem hlate (hob b rfl).1
            · exact hold p hp
        have ih := zbl hr hsel hnd hex g' Y (M.setIfInBounds i true) pl' _ ι (a.put o.dst u) w (zbH hcl hmem) hp' (hF.put (d := o.dst) hvr) hrd (fun p hp => by
          rw [hheap]
          exact (hY p hp).step (ds := a.defers) ho hmem (fun h => hiY (List.mem_map.2 ⟨p, hp, h.symm⟩)) hse (fun _ _ _ _ => rfl) (fun b _ _ h => h)) hpw Pr' hP' hk
        refine ziV (v := u) ho hse hnd (fun c a w hc => (zlq hex c a w).1 hc) hsub hobP g' _ _ w (zgH Y M hcl hYr hnod) hfr (zfq hmem hiY) ?_ (fun b hb => (hob b hb).2) ?_
        · rcases hy with ⟨h1, h2, _⟩ | ⟨h1, h2, _⟩
          · exact .inl ⟨by rw [zd0 Y a hap]; exact h2, fun w' hw' => by rw [zhx hsi Y a hap]; exact h1 w' hw'⟩
          · exact .inr ⟨by rw [zd0 Y a hap]; exact h1, h2⟩
        · rw [zdX, zdZ Y a hap]
          exact ih
      have hld := fun hw => zvl (top := rd.isNone) (w := w) (ops := ops) hF hq h hw
      rcases zdz (ops := ops) hr hF hrd o h with ⟨hw, hk⟩ | ⟨hw, _, v, u, hk, hv, hy⟩ | ⟨hw, hnq, _⟩
      · exact next _ _ none (fun b hb => by cases hb) (.inr ⟨hw, rfl, rfl⟩) hk
      · exact next _ _ (ldB a o) (fun b hb => ⟨hb, hld hw b hb⟩) (.inl ⟨hy, hw, hv⟩) hk
      · rw [hq] at hnq; cases hnq
    ·
      have stage : ∀ n pl', Stage bar P ops M n pl'.1 → zd9 bar P ops f (M.setIfInBounds n true) = some pl' → pl = (n :: pl'.1, pl'.2) → zcH rb P ops (zfy P N B w1 ι ex S') Pr g (zeE Y M) (zcl ops Y a) w := by
        rintro n pl' hst hp' rfl
        obtain ⟨hnu, on, hon, hnall⟩ := mem_ready.1 hst.mem
        have h0 := h
        simp only [List.cons_append] at h h0
        obtain ⟨h, havo⟩ := zen hon h
        by_cases hnY : n ∈ Y.map (·.1)
        ·
          obtain ⟨p, hp1, hpn⟩ := List.mem_map.1 hnY
          obtain ⟨Y1, Y2, rfl⟩ := List.append_of_mem hp1
          have hpo := hY p hp1
          have hlen : (Y1 ++ p :: Y2).length = (Y1 ++ Y2).length + 1 := by simp; omega
          have hf : f = g + (Y1 ++ Y2).length := by omega
          subst hf
          have hsub : ∀ q ∈ Y1 ++ Y2, q ∈ Y1 ++ p :: Y2 := fun q hq => by
            rcases List.mem_append.1 hq with h | h
            · simp [h]
            · simp [h]
          have hpw2 : (Y1 ++ Y2).Pairwise zoH := hpw.sublist (List.Sublist.append (List.Sublist.refl _) (List.sublist_cons_self _ _))
          have hne : ∀ q ∈ Y1 ++ Y2, q.1 ≠ p.1 ∧ ∀ b, p.2.1 = some b → q.2.1 ≠ some b := fun q hq => by
            rw [List.pairwise_append] at hpw
            rcases List.mem_append.1 hq with h | h
            · have := hpw.2.2 q h p (by simp)
              exact ⟨this.1, fun b hb hq => this.2 b hq hb⟩
            · have := (List.pairwise_cons.1 hpw.2.1).1 q h
              exact ⟨Ne.symm this.1, this.2⟩
          have hnot : n ∉ (Y1 ++ Y2).map (·.1) := fun hn => by
            obtain ⟨q, hq, hqn⟩ := List.mem_map.1 hn
            exact (hne q hq).1 (hqn.trans hpn.symm)
          have hap := zkG (fun q hq => hY q (hsub q hq)) hon hst.mem hnot
          have hsetY : zeE (Y1 ++ p :: Y2) M = zeE (Y1 ++ Y2) (M.setIfInBounds n true) := by
            rw [zhP, zhP]
            simp only [zeE]
            rw [hpn, zdX]
          have hputs : zcl ops (Y1 ++ p :: Y2) a = zcl ops (Y1 ++ Y2) (a.put on.dst p.2.2) := by
            rw [zgc, zgc]
            simp only [zcl]
            rw [hpn, zej hon, zdZ Y2 a fun q hq => hap q (by simp [hq])]
          rw [hsetY, hputs]
          have hal : alI (zau P on) = true := by
            have := hpo.al
            rw [hpn, zcC hon] at this
            exact this
          obtain ⟨oy, hoy, hm⟩ := hpo.made
          have : oy = on := by
            rw [hpn] at hoy
            exact Option.some.inj (hoy.symm.trans hon)
          subst this
          rcases zhY (ops := ops) hF.env oy hal h with ⟨hw, hk⟩ | ⟨hw, v, mk, arr, T, cs, hk, hmk, hL, hv⟩
          · rcases hm with ⟨hw', _⟩ | ⟨_, _, hu⟩
            · rw [hw] at hw'; cases hw'
            · rw [hu]
              have hheap : (S.put oy.dst zaF).heap = S.heap := by cases oy.dst <;> rfl
              exact zbl hr hsel hnd hex g (Y1 ++ Y2) _ pl' _ ι _ w (zbH hcl hst.mem) hp' (hF.put (d := oy.dst) (v := zaF) (.lit _)) hrd (fun q hq => by
                rw [hheap]
                exact (hY q (hsub q hq)).step (ds := a.defers) hon hst.mem (fun h => hnot (List.mem_map.2 ⟨q, hq, h.symm⟩)) hse (fun _ _ _ _ => rfl) (fun b _ _ h => h)) hpw2 Pr (fun p hp => (hP p hp).step (ds := a.defers) hon hst.mem) hk
          · rcases hm with ⟨_, b, mk', arr', T', hb, hmk', hu, hblk, hlow, hfree⟩ | ⟨hw', _⟩
            · obtain ⟨e1, e2, e3⟩ := zef.same w hmk hmk' b
              subst e2
              subst e3
              rw [hu, ← e1]
              have hF2 := zlk (dst := oy.dst) hF hblk hlow hfree hL hv
              have hle : Io.le ι (ι.ext S.heap.length (b, 0, arr.size)) := hF.sim.zci _
              have hheap : (St.put { S with heap := S.heap ++ [Ob.blk cs] } oy.dst v).heap = S.heap ++ [Ob.blk cs] := by cases oy.dst <;> rfl
              refine zct (fun en a w hp => hp.mono hle) _ _ _ _ (zbl hr hsel hnd hex g (Y1 ++ Y2) _ pl' _ _ _ w (zbH hcl hst.mem) hp' hF2 (hrd.mono hle) (fun q hq => ?_) hpw2 Pr (fun p hp => (hP p hp).step (ds := a.defers) hon hst.mem) hk)
              rw [hheap]
              refine (hY q (hsub q hq)).step (ds := a.defers) hon hst.mem (fun h => hnot (List.mem_map.2 ⟨q, hq, h.symm⟩)) hse (fun _ _ _ _ => rfl) (fun b0 hq0 hb0 hfr => ?_)
              intro β o b' s sz h1 h2 h3 h4
              by_cases hβ : β < S.heap.length
              · rw [List.getElem?_append_left hβ] at h1
                refine hfr β o b' s sz h1 h2 h3 ?_
                simp only [Io.ext] at h4
                rw [if_neg (by omega)] at h4
                exact h4
              · have hβ2 := (List.getElem?_eq_some_iff.1 h1).1
                simp only [List.length_append, List.length_cons, List.length_nil] at hβ2
                obtain rfl : β = S.heap.length := by omega
                rw [Io.zaK] at h4
                cases h4
                exact fun he => (hne q hq).2 _ hb (by rw [hq0, he])
            · rw [hw] at hw'; cases hw'
        ·
          have hYf := hpens hp' hnY
          obtain ⟨g', rfl⟩ : ∃ g', g = g' + 1 := ⟨g - 1, by omega⟩
          have hf : f = g' + Y.length := by omega
          subst hf
          have hnin := zfq hst.mem hnY
          refine ⟨fun h0 => (by rw [h0] at hnin; cases hnin), fun j hj => ?_⟩
          obtain ⟨hju, oj, hoj, hall⟩ := mem_ready.1 hj
          have hjM := zgG Y M hju
          have hjY := zk0 Y M hju
          have hjl : j ∈ Region.ready .any ops M := by
            by_cases hjl : j ∈ Region.ready .any ops M
            · exact hjl
            · obtain ⟨ed, hed, hb, hun, hor⟩ := hst.clos j oj hoj hjM hjl
              have h1 := hall ed hed hb
              have h2 : ed.on ∈ Y.map (·.1) := by
                by_cases hin : ed.on ∈ Y.map (·.1)
                · exact hin
                · rw [zeY Y M hin, hun] at h1; cases h1
              obtain ⟨p, hp1, hpe⟩ := List.mem_map.1 h2
              rcases hor with h3 | h3
              · exact absurd (h3 ▸ h2) hnY
              · exact absurd (hpe ▸ hYr p hp1) h3
          have hap := zkG hY hoj hjl hjY
          have hsj : ∀ cs b, oj.op ≠ .select cs b := fun cs b => hse j oj cs b hoj
          have hdj := zc6 hnd hoj
          have out := fun {K : Act → World → Prop} (hk : wpOpIn (FW rb) 0 P ops (zfy P N B w1 ι ex S') j K a w) => zhJ hoj hsj hdj (fun d u c a w hc => (zlq hex c a w).2 hc) Y a hap hk
          have old : ∀ {ob : Obj} {b : Nat} {x : Obj}, w.heap[b]? = some x → (zaU w ob).heap[b]? = some x := fun {ob b x} hb => by
            rw [(zat w ob).block b (Array.getElem?_eq_some_iff.1 hb).1]; exact hb
          by_cases hjn : j = n
          · subst hjn
            have : oj = on := Option.some.inj (hoj.symm.trans hon)
            subst this
            rw [zdX]
            cases hal : alI (zau P oj) with
            | true =>
              suffices hs : wpOpIn (FW rb) 0 P ops (zfy P N B w1 ι ex S') j (fun a1 w' => Carry ops Pr j w w' ∧ zcH rb P ops (zfy P N B w1 ι ex S') Pr g' (zeE Y (M.setIfInBounds j true)) (zcl ops Y a1) w') a w by
                refine wpOpIn_mono ?_ (out hs)
                rintro a' w' ⟨a1, rfl, h1, h2⟩
                exact ⟨h1, h2⟩
              rcases zhY (ops := ops) hF.env oj hal h with ⟨hw, hk⟩ | ⟨hw, v, mk, arr, T, cs, hk, hmk, hL, hv⟩
              · refine zh6 hoj hal (fun hw' => by rw [hw] at hw'; cases hw') (fun _ _ _ hw' => by rw [hw] at hw'; cases hw') fun _ => ⟨zhC _ _ _ _, ?_⟩
                have hheap : (S.put oj.dst zaF).heap = S.heap := by cases oj.dst <;> rfl
                exact zbl hr hsel hnd hex g' Y _ pl' _ ι _ w (zbH hcl hst.mem) hp' (hF.put (d := oj.dst) (v := zaF) (.lit _)) hrd (fun q hq => by
                  rw [hheap]
                  exact (hY q hq).step (ds := a.defers) hoj hst.mem (fun h => hnY (List.mem_map.2 ⟨q, hq, h.symm⟩)) hse (fun _ _ _ _ => rfl) (fun b _ _ h => h)) hpw Pr (fun p hp => (hP p hp).step (ds := a.defers) hoj hst.mem) hk
              · refine zh6 hoj hal (fun _ => ⟨mk, arr, T, hmk⟩) (fun mk' arr' T' _ hmk' => ?_) fun hw' => by rw [hw] at hw'; cases hw'
                obtain ⟨e1, e2, e3⟩ := zef.same w hmk hmk' w.heap.size
                subst e2
                subst e3
                rw [← e1]
                refine ⟨zjg _ _ _ _, ?_⟩
                have hF' : FSim P N B w1 ι S a (zaU w (.cells arr T (0, 0))) := ⟨hF.sim.grown (zdV w _ none), hF.env, hF.dfs⟩
                have hF2 := zlk (dst := oj.dst) hF' (zdq w _) hF.sim.below.size (fun β o b' s sz q1 q2 _ q4 => by have := hF.sim.lt q1 q2 q4; omega) hL hv
                have hle : Io.le ι (ι.ext S.heap.length (w.heap.size, 0, arr.size)) := hF.sim.zci _
                have hheap : (St.put { S with heap := S.heap ++ [Ob.blk cs] } oj.dst v).heap = S.heap ++ [Ob.blk cs] := by cases oj.dst <;> rfl
                refine zct (fun en a w hp => hp.mono hle) _ _ _ _ (zbl hr hsel hnd hex g' Y _ pl' _ _ _ _ (zbH hcl hst.mem) hp' hF2 (hrd.mono hle) (fun q hq => ?_) hpw Pr (fun p hp => (hP p hp).step (ds := a.defers) hoj hst.mem) hk)
                rw [hheap]
                refine (hY q hq).step (ds := a.defers) hoj hst.mem (fun h => hnY (List.mem_map.2 ⟨q, hq, h.symm⟩)) hse (fun b _ hb _ => (zat _ _).block b hb) (fun b0 hq0 hb0 hfr => ?_)
                intro β o b' s sz h1 h2 h3 h4
                by_cases hβ : β < S.heap.length
                · rw [List.getElem?_append_left hβ] at h1
                  refine hfr β o b' s sz h1 h2 h3 ?_
                  simp only [Io.ext] at h4
                  rw [if_neg (by omega)] at h4
                  exact h4
                · have hβ2 := (List.getElem?_eq_some_iff.1 h1).1
                  simp only [List.length_append, List.length_cons, List.length_nil] at hβ2
                  obtain rfl : β = S.heap.length := by omega
                  rw [Io.zaK] at h4
                  cases h4
                  omega
            | false =>
              suffices hs : wpOpIn (FW rb) 0 P ops (zfy P N B w1 ι ex S') j (fun a1 w' => Carry ops Pr j w w' ∧ zcH rb P ops (zfy P N B w1 ι ex S') Pr g' (zeE Y (M.setIfInBounds j true)) (zcl ops Y a1) w') a w by
                refine wpOpIn_mono ?_ (out hs)
                rintro a' w' ⟨a1, rfl, h1, h2⟩
                exact ⟨h1, h2⟩
              refine zlH hr hF hrd hoj h fun S1 ι1 a1 wx hle hF1 hk hbel hnu hbut hsk ⟨u, ds, ha1⟩ => ⟨zk5 hF hcl hoj hjl hP hbel hbut hsk havo, ?_⟩
              have hnu' := hnu (by
                rcases hst.ext with h1 | h1
                · rw [h1, zcC hoj, hal]; rfl
                · simp only [zme, Bool.and_eq_true] at h1
                  rw [h1.1, Bool.or_true])
              refine zct (fun en a w hp => hp.mono hle) _ _ _ _ (zbl hr hsel hnd hex g' Y _ pl' _ _ _ _ (zbH hcl hst.mem) hp' hF1 (hrd.mono hle) (fun q hq => ?_) hpw Pr (fun p hp => by rw [ha1]; exact (hP p hp).step hoj hst.mem) hk)
              rw [ha1]
              refine (hY q hq).step hoj hst.mem (fun h => hnY (List.mem_map.2 ⟨q, hq, h.symm⟩)) hse (fun b0 hq0 hb0 hfr => ?_) (fun b0 hq0 hb0 hfr => ?_)
              · rcases hst.ext with h1 | h1
                · exact (hbel h1).block _ hb0
                · cases hw : wanted S.env (irO P N ops oj).g with
                  | false => rw [hsk hw]
                  | true =>
                    simp only [zme, Bool.and_eq_true] at h1
                    obtain ⟨ob, k1, k2⟩ := hbut (by
                      have := h1.1
                      generalize zcA P ops j = i0 at this
                      cases i0 <;> first | rfl | cases this) hw
                    refine k1 _ hb0 fun he => ?_
                    obtain ⟨β, s, sz, ob', m1, m2, m3, m4, m5⟩ := k2 _ he.symm
                    exact hfr β _ _ _ _ m3 m4 m5 m2 rfl
              · intro β o b' s sz h1 h2 h3 h4
                by_cases hβ : β < S.heap.length
                · obtain ⟨o0, h5, h6⟩ := hnu'.1 β o hβ h1 h2
                  obtain ⟨b2, s2, sz2, ob, g1, _⟩ := (hF.sim.obj β o0 h5).at_ h6
                  have := hle β _ g1
                  rw [h4] at this
                  cases this
                  exact hfr β o0 b' s sz h5 h6 h3 g1
                · have := hnu'.2 β o b' s sz h1 h2 (by omega) h4
                  omega
          · obtain ⟨hal, hfree⟩ := hst.others j hjl hjn
            have hal' : alI (zau P oj) = true := by rw [zcC hoj] at hal; exact hal
            have hmk : Region.wanted oj (yielded ops a.tmps) = true → ∃ mk arr T, zef P oj a mk arr T := fun hw => by
              rcases hst.sure j hjl hjn with h1 | ⟨k, h1, h2⟩
              · exact zmw hF.env oj (by rw [zcC hoj] at h1; exact h1)
              · have htk : ((n :: pl'.1) ++ pl'.2).take ((n :: pl'.1).take k).length = (n :: pl'.1).take k := by
                  rw [List.take_append_of_le_length (by rw [List.length_take]; exact Nat.min_le_right _ _), List.length_take]
                  rcases Nat.le_total k (n :: pl'.1).length with h | h
                  · rw [Nat.min_eq_left h]
                  · rw [Nat.min_eq_right h, List.take_length, List.take_of_length_le h]
                exact ziE hoj hsj hal' ((n :: pl'.1) ++ pl'.2) ((n :: pl'.1).take k).length S ι a hF.env hF.sim.scope (by rw [htk]; exact h1) (by rw [htk]; exact fun i hi => (h2 i hi).1) (by rw [htk]; exact fun i hi => (h2 i hi).2) h0 hw
            have hlenY : ∀ p : Nat × Option Nat × Value, g' + (p :: Y).length = g' + 1 + Y.length := fun p => by simp; omega
            suffices hs : wpOpIn (FW rb) 0 P ops (zfy P N B w1 ι ex S') j (fun a1 w' => Carry ops Pr j w w' ∧ zcH rb P ops (zfy P N B w1 ι ex S') Pr g' ((zeE Y M).setIfInBounds j true) (zcl ops Y a1) w') a w by
              refine wpOpIn_mono ?_ (out hs)
              rintro a' w' ⟨a1, rfl, h1, h2⟩
              exact ⟨h1, h2⟩
            refine zh6 hoj hal' hmk (fun mk arr T hw hm => ⟨zjg _ _ _ _, ?_⟩) fun hw => ⟨zhC _ _ _ _, ?_⟩
            · have ih := zbl hr hsel hnd hex g' ((j, some w.heap.size, mk w.heap.size) :: Y) M (n :: pl'.1, pl'.2) S ι a (zaU w (.cells arr T (0, 0))) hcl (by rw [hlenY]; exact hp0) ⟨hF.sim.grown (zdV w _ none), hF.env, hF.dfs⟩ hrd (fun p hp => ?_) ?_ Pr hP h0
              · simp only [zeE, zcl, zej hoj] at ih
                rw [← zdZ Y a hap]
                exact ih
              · rcases List.mem_cons.1 hp with rfl | hp
                · exact ⟨hjl, hal, fun oy hoy => Region.free_spec hoy hfree, oj, hoj, .inl ⟨hw, w.heap.size, mk, arr, T, rfl, hm, rfl, zdq w _, hF.sim.below.size, fun β o b' s sz q1 q2 _ q4 => by have := hF.sim.lt q1 q2 q4; omega⟩⟩
                · have hq := hY p hp
                  obtain ⟨oy, hoy, hm'⟩ := hq.made
                  refine ⟨hq.ready, hq.al, hq.free, oy, hoy, ?_⟩
                  rcases hm' with ⟨h1, b, mk2, arr2, T2, h2, h3, h4, h5, h6, h7⟩ | h1
                  · exact .inl ⟨h1, b, mk2, arr2, T2, h2, h3, h4, old h5, h6, h7⟩
                  · exact .inr h1
              · refine List.pairwise_cons.2 ⟨fun q hq => ⟨fun h => hjY (List.mem_map.2 ⟨q, hq, h.symm⟩), fun b hb hqb => ?_⟩, hpw⟩
                cases hb
                obtain ⟨oy, hoy, hm'⟩ := (hY q hq).made
                rcases hm' with ⟨h1, b, mk2, arr2, T2, h2, h3, h4, h5, h6, h7⟩ | ⟨_, h1, _⟩
                · rw [h2] at hqb
                  cases hqb
                  have := (Array.getElem?_eq_some_iff.1 h5).1
                  omega
                · rw [h1] at hqb; cases hqb
            · have ih := zbl hr hsel hnd hex g' ((j, none, undef) :: Y) M (n :: pl'.1, pl'.2) S ι a w hcl (by rw [hlenY]; exact hp0) hF hrd (fun p hp => ?_) ?_ Pr hP h0
              · simp only [zeE, zcl, zej hoj] at ih
                rw [← zdZ Y a hap]
                exact ih
              · rcases List.mem_cons.1 hp with rfl | hp
                · exact ⟨hjl, hal, fun oy hoy => Region.free_spec hoy hfree, oj, hoj, .inr ⟨hw, rfl, rfl⟩⟩
                · exact hY p hp
              · exact List.pairwise_cons.2 ⟨fun q hq => ⟨fun h => hjY (List.mem_map.2 ⟨q, hq, h.symm⟩), fun b hb => by cases hb⟩, hpw⟩
      split at hp
      · rename_i hr0
        cases hp
        have hY0 : Y = [] := by
          cases Y with
          | nil => rfl
          | cons p Y => have := hYr p (by simp); rw [hr0] at this; cases this
        subst hY0
        simp only [List.append_nil, List.flatMap_nil, zaE, Option.some.injEq, Prod.mk.injEq] at h
        obtain ⟨rfl, rfl⟩ := h
        obtain rfl : g = f + 1 := by simpa using hfy
        exact ⟨fun _ => ⟨ι, Io.le.refl _, rfl, hF⟩, by show ∀ i ∈ Region.ready .any ops M, _; rw [hr0]; simp⟩
      · rename_i i hr0
        cases hext : zeO bar (zcA P ops i) with
        | false =>
          simp only [hext, cond_false, Option.map_eq_some_iff] at hp
          obtain ⟨l', hp', rfl⟩ := hp
          have hY0 : Y = [] := by
            cases Y with
            | nil => rfl
            | cons p Y =>
              have h1 := hYr p (by simp)
              rw [hr0] at h1
              simp at h1
              have h2 := zoO (bar := bar) (hY p (by simp)).al
              rw [h1, hext] at h2
              cases h2
          subst hY0
          obtain rfl : g = f + 1 := by simpa using hfy
          exact zgr (e := false) hr (f + 1) M l' S ι a w hcl hp' hF hrd hP (by simpa using h)
        | true =>
          simp only [hext, cond_true, Option.map_eq_some_iff] at hp
          obtain ⟨pl', hp', rfl⟩ := hp
          exact stage i pl' (znI hr0 hext) hp' rfl
      · rename_i i j l hr0
        cases hok : okN bar P ops M (i :: j :: l) (zie bar P ops M (i :: j :: l)) with
        | false => simp only [hok, cond_false] at hp; cases hp
        | true =>
          simp only [hok, cond_true] at hp
          split at hp
          · rename_i pl' hp'
            cases hok2 : okF P ops (i :: j :: l) (zie bar P ops M (i :: j :: l)) pl'.1 with
            | false => simp only [hok2, cond_false] at hp; cases hp
            | true =>
              simp only [hok2, cond_true, Option.some.injEq] at hp
              exact stage _ pl' (zkp (by rw [hr0]; exact hok) (by rw [hr0]; exact hok2)) hp' hp.symm
          · cases hp
termination_by g Y => (g, Y.length)
decreasing_by
  all_goals first
    | exact Prod.Lex.left _ _ (Nat.lt_succ_self _)
    | (subst_vars; exact Prod.Lex.left _ _ (Nat.lt_succ_self _))
    | (subst_vars; apply Prod.Lex.right; simp <;> omega)
    | (subst_vars; apply Prod.Lex.right; simp; done)
theorem FSim.drew (hF : FSim P N B w1 ι S a w) : FSim P N B w1 ι S a { w with drawn := w.drawn + 1 } := ⟨hF.sim.grown (zhp w none), hF.env, hF.dfs⟩
theorem zf5 (hm : P.follows .mixedOrders = true) (hr : RecOk P r) (hF : FSim P N B w1 ι S a w) (hrd : zeU ι rd rb) {id : Nat} {pl : List Nat × List Nat} (hp : zsJ bar P ops = some pl)
    (h : zaE r B bar rd.isNone false ((pl.1 ++ pl.2).flatMap (zkx P N ops)) S = some (ex, S')) : (Code.region id ops true).wpIn (FW rb) 0 P (zfy P N B w1 ι ex S') a w := by
  unfold zsJ at hp
  split at hp
  · rename_i hc
    simp only [Bool.and_eq_true] at hc
    refine wpIn_region_any hm (zhy (Pr := []) _ _ _ _ (zbl hr hc.1.1 hc.1.2 (zlC _ _ _ _ h) ops.size [] _ pl S ι a _ ?_ (by simpa using hp) hF.drew hrd (by simp) .nil [] (by simp) h))
    intro j oj hj hl
    rcases Nat.lt_or_ge j ops.size with h1 | h1
    · simp [h1] at hl
    · simp [h1] at hl
  · cases hp
end
end Go.Mx
