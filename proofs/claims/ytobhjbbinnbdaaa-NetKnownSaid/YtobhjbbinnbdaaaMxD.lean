/-
  Regions that draw their order: all orders, against the one of the machine. Conditions: none.
-/
import Derived.Test.YtobhjbbinnbdaaaMxC
namespace Go.Mx
open Go Go.RowKit
set_option linter.unusedSimpArgs false
set_option linter.unusedVariables false

section
variable {P : Program} {B N : Nat} {w1 w : World} {ι : Io} {S S' : St} {a : Act} {r : Rec} {ops : Array Oper} {rd rb : Option Nat} {Q : Exit → Act → World → Prop} {ex : Ex} {bar e : Bool} {Sx : World → Prop}

theorem al_some {j : Nat} (h : alI (irAt P ops j) = true) : ∃ oj, ops[j]? = some oj ∧ alI (irOp P oj) = true := by
  cases hj : ops[j]? with
  | none => simp [irAt, hj, alI] at h
  | some oj => exact ⟨oj, rfl, by simpa [irAt, hj] using h⟩
theorem ext_of_al {i : I} (h : alI i = true) : extI bar i = true := by cases i <;> first | rfl | cases h
theorem al_not_quiet {i : I} (h : alI i = true) : quietI i = false := by cases i <;> first | rfl | cases h
/-- What the machine comes to make can be made now. -/
theorem al_next {y : Nat} {oy : Oper} (hoy : ops[y]? = some oy) (hsel : ∀ cs b, oy.op ≠ .select cs b) {top : Bool} (haly : alI (irOp P oy) = true) : ∀ (l : List Nat) (k : Nat) (S : St) (ι : Io) (a : Act), ERel ι N S.env a → (∀ β x, ι β = some x → β < S.heap.length) → y ∈ l.take k →
    (∀ j ∈ l.take k, (alI (irAt P ops j) || stAt P ops j) = true) →
    (∀ j ∈ l.take k, j ≠ y → apartB ops y j = true) → runOps r B bar top e (l.flatMap (seqO P N ops)) S = some (ex, S') → Region.wanted oy (yielded ops a.tmps) = true → ∃ mk arr T, Makes P oy a mk arr T
  | [], k, S, ι, a, _, _, hy, _, _, _, _ => by simp at hy
  | j :: l, 0, S, ι, a, _, _, hy, _, _, _, _ => by simp at hy
  | j :: l, k + 1, S, ι, a, hE, hsc, hy, hal, hap, h, hw => by
    rw [List.take_succ_cons] at hy hal hap
    have halj := hal j (by simp)
    rw [Bool.or_eq_true] at halj
    by_cases hjy : j = y
    · subst hjy
      have h := (seq_step hoy h).1
      rcases al_step (ops := ops) hE oy haly h with ⟨h1, _⟩ | ⟨_, v, mk, arr, T, cs, _, h2, _⟩
      · rw [h1] at hw; cases hw
      · exact ⟨mk, arr, T, h2⟩
    · have hy' : y ∈ l.take k := by
        rcases List.mem_cons.1 hy with h1 | h1
        · exact absurd h1.symm hjy
        · exact h1
      rcases halj with halj | halj
      · obtain ⟨oj, hoj, halj⟩ := al_some halj
        have h := (seq_step hoj h).1
        have hapj : oy.apart ops oj = true := by
          have := hap j (by simp) hjy
          simpa [apartB, hoy, hoj] using this
        obtain ⟨g1, g2, g3⟩ := Oper.apart_spec hapj
        have hw' : ∀ u, Region.wanted oy (yielded ops (a.put oj.dst u).tmps) = true := fun u => by rw [wanted_put oy a oj.dst u g3]; exact hw
        have hput : ∀ {ι' : Io} {S0 : St} {v u}, ERel ι' N S0.env a → VRel ι' v u → ERel ι' N (S0.put oj.dst v).env (a.put oj.dst u) := fun {ι' S0 v u} h1 h2 => by
          cases hd : oj.dst with
          | none => exact h1
          | some d => exact h1.put h2
        have hheap : ∀ (S0 : St) v, (S0.put oj.dst v).heap = S0.heap := fun S0 v => by cases oj.dst <;> rfl
        rcases al_step (ops := ops) hE oj halj h with ⟨h1, h2⟩ | ⟨h1, v, mk, arr, T, cs, h2, h3, h4, h5⟩
        · obtain ⟨mk, arr, T, h3⟩ := al_next hoy hsel haly l k _ ι _ (hput hE (.lit undef)) (by rw [hheap]; exact hsc) hy' (fun i hi => hal i (by simp [hi])) (fun i hi => hap i (by simp [hi])) h2 (hw' _)
          exact ⟨mk, arr, T, h3.put hsel hapj⟩
        · have hle : Io.le ι (ι.ext S.heap.length (0, 0, arr.size)) := fun β x hx => by
            have := hsc β x hx
            simp only [Io.ext]
            rw [if_neg (by omega)]; exact hx
          obtain ⟨mk', arr', T', h6⟩ := al_next hoy hsel haly l k _ (ι.ext S.heap.length (0, 0, arr.size)) _ (hput (S0 := { S with heap := S.heap ++ [Ob.blk cs] }) (hE.mono hle) (h5 _ 0 (Io.ext_self _ _ _))) (by
            rw [hheap]
            intro β x hx
            simp only [List.length_append, List.length_cons, List.length_nil]
            simp only [Io.ext] at hx
            split at hx
            · omega
            · have := hsc β x hx; omega) hy' (fun i hi => hal i (by simp [hi])) (fun i hi => hap i (by simp [hi])) h2 (hw' _)
          exact ⟨mk', arr', T', h6.put hsel hapj⟩
      · cases hoj : ops[j]? with
        | none => simp [stAt, hoj] at halj
        | some oj =>
          have h := (seq_step hoj h).1
          obtain ⟨_, S1, h1, h2, h3⟩ := st_step hoj halj h
          exact al_next hoy hsel haly l k S1 ι a (by rw [h2]; exact hE) (by rw [h3]; exact hsc) hy' (fun i hi => hal i (by simp [hi])) (fun i hi => hap i (by simp [hi])) h1 hw

theorem setY_comm (n : Nat) : ∀ (Y : Pen) (M : Array Bool), (setY Y M).setIfInBounds n true = setY Y (M.setIfInBounds n true)
  | [], M => rfl
  | p :: Y, M => by
    simp only [setY]
    by_cases h : p.1 = n
    · subst h
      rw [setY_comm p.1 Y M]
    · rw [Array.setIfInBounds_comm _ _ h, setY_comm n Y M]
theorem setY_getD {j : Nat} {d : Bool} : ∀ (Y : Pen) (M : Array Bool), j ∉ Y.map (·.1) → (setY Y M).getD j d = M.getD j d
  | [], M, _ => rfl
  | p :: Y, M, h => by
    simp only [List.map_cons, List.mem_cons, not_or] at h
    simp only [setY]
    rw [getD_set_ne _ (Ne.symm h.1), setY_getD Y M h.2]
theorem setY_true {j : Nat} : ∀ (Y : Pen) (M : Array Bool), M.getD j false = true → (setY Y M).getD j false = true
  | [], M, h => h
  | p :: Y, M, h => getD_set_true (setY_true Y M h)
theorem setY_mono {j : Nat} : ∀ (Y : Pen) (M : Array Bool), (setY Y M).getD j true = false → M.getD j true = false
  | [], M, h => h
  | p :: Y, M, h => by
    simp only [setY] at h
    by_cases hp : p.1 = j
    · subst hp
      rcases Nat.lt_or_ge p.1 (setY Y M).size with h2 | h2
      · simp [h2] at h
      · simp [Array.getElem?_eq_none h2, h2] at h
    · rw [getD_set_ne true hp] at h; exact setY_mono Y M h
theorem setY_out {j : Nat} : ∀ (Y : Pen) (M : Array Bool), (setY Y M).getD j true = false → j ∉ Y.map (·.1)
  | [], M, h => by simp
  | p :: Y, M, h => by
    simp only [setY] at h
    have hne : p.1 ≠ j := by
      rintro rfl
      rcases Nat.lt_or_ge p.1 (setY Y M).size with h2 | h2
      · simp [h2] at h
      · simp [Array.getElem?_eq_none h2, h2] at h
    rw [getD_set_ne true hne] at h
    simp only [List.map_cons, List.mem_cons, not_or]
    exact ⟨Ne.symm hne, setY_out Y M h⟩
theorem setY_app : ∀ (Y1 Y2 : Pen) (M : Array Bool), setY (Y1 ++ Y2) M = setY Y1 (setY Y2 M)
  | [], _, _ => rfl
  | p :: Y1, Y2, M => by simp only [List.cons_append, setY]; rw [setY_app Y1 Y2 M]
theorem putsY_app : ∀ (Y1 Y2 : Pen) (a : Act), putsY ops (Y1 ++ Y2) a = putsY ops Y1 (putsY ops Y2 a)
  | [], _, _ => rfl
  | p :: Y1, Y2, a => by simp only [List.cons_append, putsY]; rw [putsY_app Y1 Y2 a]
theorem closed_setY : ∀ (Y : Pen) (M : Array Bool), closedL ops M → (∀ p ∈ Y, p.1 ∈ Region.ready .any ops M) → (Y.map (·.1)).Nodup → closedL ops (setY Y M)
  | [], M, h, _, _ => h
  | p :: Y, M, h, hr, hn => by
    simp only [List.map_cons, List.nodup_cons] at hn
    have ih := closed_setY Y M h (fun q hq => hr q (by simp [hq])) hn.2
    refine closed_set ih ?_
    obtain ⟨h1, o, h2, h3⟩ := mem_ready.1 (hr p (by simp))
    exact mem_ready.2 ⟨by rw [setY_getD Y M hn.1]; exact h1, o, h2, fun e he hb => setY_true Y M (h3 e he hb)⟩
theorem ready_setY_in {j : Nat} {Y : Pen} {M : Array Bool} (h : j ∈ Region.ready .any ops M) (hn : j ∉ Y.map (·.1)) : j ∈ Region.ready .any ops (setY Y M) := by
  obtain ⟨h1, o, h2, h3⟩ := mem_ready.1 h
  exact mem_ready.2 ⟨by rw [setY_getD Y M hn]; exact h1, o, h2, fun e he hb => setY_true Y M (h3 e he hb)⟩
/-- No more can have come up than is left. -/
theorem pens_le : ∀ (f : Nat) (M : Array Bool) (pl : List Nat × List Nat) (L : List Nat), planA bar P ops f M = some pl → L.Nodup → (∀ y ∈ L, y ∈ Region.ready .any ops M ∧ alI (irAt P ops y) = true) → L.length ≤ f
  | 0, M, pl, L, hp, hn, hL => by
    simp only [planA] at hp
    split at hp
    · rename_i he
      cases L with
      | nil => simp
      | cons y L =>
        have := (hL y (by simp)).1
        simp at he
        rw [he] at this
        cases this
    · cases hp
  | f + 1, M, pl, L, hp, hn, hL => by
    have keep : ∀ i pl', planA bar P ops f (M.setIfInBounds i true) = some pl' → i ∉ L → L.length ≤ f := fun i pl' hp' hi =>
      pens_le f _ pl' L hp' hn fun y hy => ⟨ready_mono (hL y hy).1 (fun h => hi (h ▸ hy)), (hL y hy).2⟩
    have drop : ∀ i pl', planA bar P ops f (M.setIfInBounds i true) = some pl' → L.length ≤ f + 1 := fun i pl' hp' => by
      by_cases hi : i ∈ L
      · have h1 := pens_le f _ pl' (L.erase i) hp' (hn.erase i) fun y hy => by
          have hy' := List.mem_of_mem_erase hy
          refine ⟨ready_mono (hL y hy').1 (fun h => ?_), (hL y hy').2⟩
          subst h
          exact (List.Nodup.not_mem_erase hn) hy
        rw [List.length_erase_of_mem hi] at h1
        omega
      · have := keep i pl' hp' hi; omega
    simp only [planA] at hp
    split at hp
    · rename_i i hfind
      simp only [Option.map_eq_some_iff] at hp
      obtain ⟨pl', hp', rfl⟩ := hp
      exact drop i pl' hp'
    · split at hp
      · rename_i hr0
        cases L with
        | nil => simp
        | cons y L => have := (hL y (by simp)).1; rw [hr0] at this; cases this
      · rename_i i hr0
        have : L.length ≤ 1 := by
          have hsub : L ⊆ [i] := fun y hy => by have := (hL y hy).1; rw [hr0] at this; exact this
          match L, hn, hsub with
          | [], _, _ => simp
          | [_], _, _ => simp
          | y :: z :: L, hn, hsub =>
            have h1 := hsub (show y ∈ y :: z :: L by simp)
            have h2 := hsub (show z ∈ y :: z :: L by simp)
            simp only [List.mem_singleton] at h1 h2
            subst h1
            subst h2
            simp at hn
        omega
      · rename_i i j l hr0
        cases hok : okN bar P ops M (i :: j :: l) (pickN bar P ops M (i :: j :: l)) with
        | false => simp only [hok, cond_false] at hp; cases hp
        | true =>
          simp only [hok, cond_true] at hp
          split at hp
          · rename_i pl' hp'
            exact drop _ pl' hp'
          · cases hp
end
end Go.Mx
