/-
  Operations that make memory or write it: the machine's memory stands for the world's. Conditions: none.
-/
import Derived.Test.YtobhjbbinnbdaaaNsMx5
namespace Go.Mx
open Go Go.RowKit
set_option linter.unusedSimpArgs false
set_option linter.unusedVariables false

section
variable {P : Program} {B N : Nat} {w1 w : World} {ι : Io} {h : Heap} {env : List V} {a : Act}

/-- The block that an operation writes. -/
def tgtV (env : List V) (i : I) : Option Nat := ((tgtX i).bind (ev env)).bind blkV
/-- Nothing else that is there is written. -/
def ButT (B : Nat) (h : Heap) (ι : Io) (w w' : World) (t : Option Nat) : Prop := ∃ ob : Option Nat, (∀ γ, γ < w.heap.size → some γ ≠ ob → w'.heap[γ]? = w.heap[γ]?) ∧ ∀ b, ob = some b → ∃ β s sz o, t = some β ∧ ι β = some (b, s, sz) ∧ h[β]? = some o ∧ o.live ∧ B ≤ β
theorem ButT.of_below {w w' : World} {t : Option Nat} (hb : Below w.heap.size w w') : ButT B h ι w w' t := ⟨none, fun γ hγ _ => hb.block γ hγ, fun b hb => by cases hb⟩
theorem ButT.of_but {w w' : World} {t : Option Nat} {b β s sz : Nat} {cs : List V} (hk : ∀ γ, γ ≠ b → w'.heap[γ]? = w.heap[γ]?) (ht : t = some β) (hι : ι β = some (b, s, sz)) (hcs : blkAt h β = some cs) (hB : B ≤ β) : ButT B h ι w w' t :=
  ⟨some b, fun γ _ hne => hk γ (fun h => hne (by rw [h])), fun b' hb => by cases hb; exact ⟨β, s, sz, _, ht, hι, blk_get hcs, trivial, hB⟩⟩
/-- What an operation comes to that calls nothing. -/
def EOk (P : Program) (B : Nat) (w1 : World) (ι : Io) (a : Act) (w : World) (o : Oper) (v : V) (h' : Heap) (ext : Bool) (h : Heap) (t : Option Nat) : Prop :=
  ∃ u w' ι', ((execOp a.eval o).run P w = .ok (.value u) w' ∨ ((execOp a.eval o).run P w = .ok .skip w' ∧ u = undef)) ∧ Io.le ι ι' ∧ Sim P B w1 ι' h' w' ∧ VRel ι' v u ∧ (ext = true → Below w.heap.size w w') ∧ ButT B h ι w w' t

/-! ### Writing cells -/
theorem wput_self {b : Nat} {o : Obj} (hb : w.heap[b]? = some o) : wput w b o = w := by
  unfold wput
  have : w.heap.setIfInBounds b o = w.heap := by
    apply Array.ext_getElem?
    intro i
    by_cases hi : b = i
    · subst hi
      rw [Array.getElem?_setIfInBounds_self_of_lt (lt_of_block hb), hb]
    · rw [Array.getElem?_setIfInBounds_ne hi]
  rw [this]
theorem setCell_eq {b off : Nat} {arr : Array Value} {T : TypeId} (hb : w.heap[b]? = some (.cells arr T (0, 0))) (v : Value) : w.setCell ⟨b, off, none⟩ v = wput w b (.cells (arr.setIfInBounds off v) T (0, 0)) := by
  unfold World.setCell wput
  congr 1
  apply Array.ext_getElem?
  intro i
  by_cases hi : b = i
  · subst hi
    rw [Array.getElem?_setIfInBounds_self_of_lt (lt_of_block hb)]
    simp [Array.getElem?_modify, hb]
  · rw [Array.getElem?_setIfInBounds_ne hi, Array.getElem?_modify, if_neg hi]
theorem wput_wput (b : Nat) (o o' : Obj) : wput (wput w b o) b o' = wput w b o' := by
  unfold wput
  congr 1
  apply Array.ext_getElem?
  intro i
  by_cases hi : b = i
  · subst hi; simp
  · simp [Array.getElem?_setIfInBounds_ne hi]
theorem run_storeCells {b off : Nat} {T : TypeId} : ∀ (vs : List Value) (i : Nat) (arr : Array Value) (w : World), w.heap[b]? = some (.cells arr T (0, 0)) → (∀ v ∈ vs, v.oneCell' = true) → off + i + vs.length ≤ arr.size →
    (storeCells ⟨b, off, none⟩ vs i).run P w = .ok () (wput w b (.cells ((vs.zipIdx i).foldl (fun cs x => cs.setIfInBounds (off + x.2) x.1) arr) T (0, 0)))
  | [], i, arr, w, hb, _, _ => by
    simp only [storeCells, List.zipIdx_nil, List.foldl_nil, wput_self hb]
    rfl
  | v :: vs, i, arr, w, hb, h1, hl => by
    simp only [List.length_cons] at hl
    have hlt : off + i < arr.size := by omega
    have hc : w.cell? ⟨b, off + i, none⟩ = some arr[off + i] := cell?_mk hb (Array.getElem?_eq_getElem hlt)
    have hf : w.frozen? ⟨b, off + i, none⟩ = false := by simp [World.frozen?, hb]
    simp only [storeCells, Sem.run_bind, add_none, run_store P w _ v _ (h1 v List.mem_cons_self), hc, hf, Bool.false_eq_true, if_false, Result.andThen_ok, setCell_eq hb]
    have h' : (wput w b (.cells (arr.setIfInBounds (off + i) v) T (0, 0))).heap[b]? = some (.cells (arr.setIfInBounds (off + i) v) T (0, 0)) := wput_at _ (lt_of_block hb)
    rw [run_storeCells vs (i + 1) _ _ h' (fun u hu => h1 u (List.mem_cons_of_mem _ hu)) (by simp; omega), wput_wput]
    simp [List.zipIdx_cons]
/-- The new content of a row, as a fold. -/
def putArr (arr : Array Value) (off : Nat) (vs : List Value) : Array Value := (vs.zipIdx 0).foldl (fun cs x => cs.setIfInBounds (off + x.2) x.1) arr
theorem putArr_get (arr : Array Value) (off : Nat) (vs : List Value) (h : off + vs.length ≤ arr.size) : (putArr arr off vs).size = arr.size ∧
    ∀ i, (putArr arr off vs)[i]? = if off ≤ i ∧ i < off + vs.length then vs[i - off]? else arr[i]? := by
  have := foldl_set off vs 0 arr (by omega)
  simpa [putArr] using this
theorem LRel.ones {l : List V} {arr : Array Value} (hL : LRel ι l arr) : ∀ v ∈ arr.toList, v.oneCell' = true := by
  intro v hv
  obtain ⟨i, hi, rfl⟩ := List.getElem_of_mem hv
  have hi' : i < l.length := by rw [← hL.1]; simpa using hi
  have hi2 : i < arr.size := by simpa using hi
  exact (hL.2 i l[i] _ (List.getElem?_eq_getElem hi') (Array.getElem?_eq_getElem hi2)).2

/-- Some cells of a block are written. -/
theorem Sim.putCells (hS : Sim P B w1 ι h w) {β o : Nat} {cs l : List V} {narr : Array Value} (hβ : blkAt h β = some cs) (hB : B ≤ β) (hL : LRel ι l narr) (hle : o + l.length ≤ cs.length) {b s sz : Nat} (hι : ι β = some (b, s, sz)) :
    ∃ w', (storeCells ⟨b, s + o, none⟩ narr.toList 0).run P w = .ok () w' ∧ Sim P B w1 ι (h.set β (.blk (putAt cs o l))) w' ∧ ∀ γ, γ ≠ b → w'.heap[γ]? = w.heap[γ]? := by
  obtain ⟨b', s', sz', arr, T, fr, k1, k2, k3, k4, k5, k6⟩ := hS.cells hβ
  rw [hι] at k1; cases k1
  have hfr := k6 hB
  subst hfr
  have hsz : narr.toList.length = l.length := by simpa using hL.1
  have hrun := run_storeCells (P := P) (b := b) (off := s + o) (T := T) narr.toList 0 arr w k2 hL.ones (by omega)
  refine ⟨_, hrun, ?_, fun γ hγ => by unfold wput; exact Array.getElem?_setIfInBounds_ne (Ne.symm hγ)⟩
  obtain ⟨p1, p2⟩ := putArr_get arr (s + o) narr.toList (by omega)
  obtain ⟨q1, q2⟩ := putAt_get cs l o hle
  have hb := blk_get hβ
  refine hS.change (o' := .blk _) hb trivial hB hι (wput_grown _ _ _) ⟨b, s, sz, _, T, (0, 0), hι, wput_at _ (lt_of_block k2), p1.trans k3, by rw [q1]; exact k4, fun k v hk => ?_, fun _ => rfl⟩
  rw [q2 k] at hk
  have hp := p2 (s + k)
  unfold putArr at hp
  rw [hp, hsz]
  split at hk
  · rename_i hc
    rw [if_pos (by omega)]
    obtain ⟨u, g1, g2, g3⟩ := hL.get hk
    exact ⟨u, by have : s + k - (s + o) = k - o := by omega
                 rw [this]; simpa using g1, g2, g3⟩
  · rename_i hc
    rw [if_neg (by omega)]
    exact k5 k v hk

/-! ### New variables -/
theorem e_alloc (hS : Sim P B w1 ι h w) {o : Oper} {t : TypeId} (ho : o.op = .alloc t) {z : List Value} (hz : zeroC P t = some z) (hone : z.all oneV = true) {v : V} {h' : Heap} {x : Bool} {t0 : Option Nat}
    (he : eff B h env (.alloc z) = some (v, h')) : EOk P B w1 ι a w o v h' x h t0 := by
  simp only [eff, Option.some.injEq, Prod.mk.injEq] at he
  obtain ⟨rfl, rfl⟩ := he
  obtain ⟨zv, hzv, rfl⟩ := zeroC_inv hz
  have hL : LRel ι (zv.cells.toList.map .lit) zv.cells := by simpa using zero_rel (ι := ι) _ hone
  have hrun : (execOp a.eval o).run P w = .ok (.value (.pointer (some ⟨w.heap.size, 0, none⟩))) (newBlk w (.cells zv.cells t (0, 0))) := by
    simp only [execOp, ho, Instr.alloc, Sem.run_bind, run_zeroValue' hzv, Result.andThen_ok, newVar, newRow, run_newObj, Sem.run_pure]
    rfl
  exact ⟨_, _, _, .inl hrun, hS.le_ext _, hS.allocBlk hL, .ptr _ _ w.heap.size 0 zv.cells.size (Io.ext_self _ _ _), fun _ => newBlk_below _ _, .of_below (newBlk_below _ _)⟩

theorem e_box (hS : Sim P B w1 ι h w) (hE : ERel ι N env a) {o : Oper} {t : TypeId} {y : Operand} (ho : o.op = .box t y) {v : V} {h' : Heap} {x : Bool} {t0 : Option Nat}
    (he : eff B h env (.box (opX y)) = some (v, h')) : EOk P B w1 ι a w o v h' x h t0 := by
  simp only [eff] at he
  split at he
  · rename_i l hl
    simp only [Option.some.injEq, Prod.mk.injEq] at he
    obtain ⟨rfl, rfl⟩ := he
    obtain ⟨v1, h1, h2⟩ := Option.bind_eq_some_iff.1 hl
    have hL := one_cells (ev_sound hE h1) h2
    have hrun : (execOp a.eval o).run P w = .ok (.value (.pointer (some ⟨w.heap.size, 0, none⟩))) (newBlk w (.cells (a.eval y).cells t (0, 0))) := by
      simp only [execOp, ho, Instr.box, Sem.run_bind, Result.andThen_ok, newVar, newRow, run_newObj, Sem.run_pure]
      rfl
    exact ⟨_, _, _, .inl hrun, hS.le_ext _, hS.allocBlk hL, .ptr _ _ w.heap.size 0 (a.eval y).cells.size (Io.ext_self _ _ _), fun _ => newBlk_below _ _, .of_below (newBlk_below _ _)⟩
  · cases he

theorem reps_get (z : List V) : ∀ (n i : Nat), (reps n z).length = n * z.length ∧ (i < n * z.length → (reps n z)[i]? = z[i % z.length]?)
  | 0, i => by simp [reps]
  | n + 1, i => by
    obtain ⟨h1, _⟩ := reps_get z n i
    have hr : reps (n + 1) z = z ++ reps n z := by simp [reps, List.replicate_succ]
    rw [hr]
    refine ⟨by simp [h1, Nat.succ_mul]; omega, fun hi => ?_⟩
    rw [List.getElem?_append]
    split
    · rename_i hlt; rw [Nat.mod_eq_of_lt hlt]
    · rename_i hge
      have hz : 0 < z.length := by
        rcases Nat.eq_zero_or_pos z.length with h0 | h0
        · simp [h0] at hi
        · exact h0
      have hlt : i - z.length < n * z.length := by rw [Nat.succ_mul] at hi; omega
      rw [(reps_get z n (i - z.length)).2 hlt]
      have : i = (i - z.length) + z.length := by omega
      conv => rhs; rw [this, Nat.add_mod_right]

theorem reps_rel {z : List Value} (hone : z.all oneV = true) (n : Nat) (zv : Array Value) (hz : zv.toList = z) : LRel ι (reps n (z.map .lit)) ((Array.range (n * zv.size)).map (zv[· % zv.size]!)) := by
  have hlen : zv.size = z.length := by rw [← hz]; simp
  refine ⟨by simp [(reps_get (z.map .lit) n 0).1, hlen], fun i x v hx hv => ?_⟩
  have hi : i < n * z.length := by
    have := (List.getElem?_eq_some_iff.1 hx).1
    rw [(reps_get (z.map .lit) n 0).1] at this
    simpa using this
  rw [(reps_get (z.map .lit) n i).2 (by simpa using hi)] at hx
  simp only [List.length_map, List.getElem?_map, Option.map_eq_some_iff] at hx
  obtain ⟨u, hu, rfl⟩ := hx
  have hm : i % zv.size < zv.size := by rw [hlen]; exact (List.getElem?_eq_some_iff.1 hu).1
  have hvu : v = u := by
    have h2 : zv[i % zv.size]! = u := by
      rw [getElem!_pos zv _ hm]
      have : zv.toList[i % zv.size]? = some u := by rw [hz, hlen]; exact hu
      simpa [hm] using this
    simp only [Array.getElem?_map, Option.map_eq_some_iff] at hv
    obtain ⟨j, hj, rfl⟩ := hv
    have : j = i := by
      have := Array.getElem?_eq_some_iff.1 hj
      obtain ⟨_, h5⟩ := this
      simpa using h5.symm
    subst this
    exact h2
  subst hvu
  have hone' := List.all_eq_true.1 hone v (List.mem_of_getElem? hu)
  exact ⟨.lit _, by cases v <;> first | rfl | (simp [oneV] at hone')⟩

theorem fillS_eq (n : Nat) : ∀ (parts : List (Nat × X)) (cs : List V), fillS env n cs parts = fillC env cs (parts.map fun ix => (ix.1 * n, n, ix.2))
  | [], cs => rfl
  | (i, x) :: r, cs => by
    simp only [fillS, List.map_cons, fillC]
    split
    · rw [fillS_eq n r]
    · rfl

theorem map_range0 (f : Nat → Value) : (Array.range 0).map f = #[] := by
  apply Array.ext
  · simp
  · intro i h1; simp at h1
theorem e_bsl (hS : Sim P B w1 ι h w) (hE : ERel ι N env a) {o : Oper} {t el : TypeId} {len : Nat} {parts : Array (Nat × Operand)} (ho : o.op = .buildSlice t len parts) (hs : P.underlying t = some (.slice el)) (ht : tyOk P el = true)
    (hn : 0 < P.cellsOf el) (hbig : len * P.cellsOf el ≤ 16777216) {z : List Value} (hz : zeroC P el = some z) (hone : z.all oneV = true) (hzl : z.length = P.cellsOf el) {v : V} {h' : Heap} {x : Bool} {t0 : Option Nat}
    (he : eff B h env (.bsl (P.cellsOf el) len z (parts.toList.map fun ix => (ix.1, opX ix.2))) = some (v, h')) : EOk P B w1 ι a w o v h' x h t0 := by
  simp only [eff] at he
  split at he
  · rename_i cs hf
    simp only [Option.some.injEq, Prod.mk.injEq] at he
    obtain ⟨rfl, rfl⟩ := he
    obtain ⟨zv, hzv, hzc⟩ := zeroC_inv hz
    simp only [tyOk, Bool.and_eq_true] at ht
    have hzs : zv.cells.size = P.cellsOf el := by rw [← hzl, ← hzc]; simp
    rw [fillS_eq, List.map_map] at hf
    obtain ⟨arr', h1, h2⟩ := fill_sound hE (place := fun i => some (i * P.cellsOf el, P.cellsOf el)) (off := fun i => i * P.cellsOf el) (size := fun _ => P.cellsOf el)
      parts.toList _ cs ((Array.range (len * zv.cells.size)).map (zv.cells[· % zv.cells.size]!)) (fun ix _ => rfl) (reps_rel hone len zv.cells hzc) hf
    have hsz : arr'.size = len * P.cellsOf el := by
      have : ∀ (ps : List (Nat × Nat × X)) (cs cs' : List V), fillC env cs ps = some cs' → cs'.length = cs.length := by
        intro ps
        induction ps with
        | nil => intro cs cs' hh; simp only [fillC, Option.some.injEq] at hh; rw [hh]
        | cons y ys ih =>
          intro cs cs' hh
          obtain ⟨y1, y2, y3⟩ := y
          simp only [fillC] at hh
          split at hh
          · rename_i l _
            cases hb : (l.length == y2) && Nat.ble (y1 + y2) cs.length with
            | false => simp only [hb, cond_false] at hh; cases hh
            | true =>
              simp only [hb, cond_true] at hh
              simp only [Bool.and_eq_true, beq_iff_eq] at hb
              rw [ih _ _ hh, (putAt_get cs l y1 (by have := Nat.le_of_ble_eq_true hb.2; omega)).1]
          · cases hh
      rw [h2.1, this _ _ _ hf, (reps_get _ _ 0).1]
      simp [hzl]
    have hp2 : (parts.map fun ix => (ix.1, a.eval ix.2)).toList = parts.toList.map fun ix => (ix.1, a.eval ix.2) := by simp
    have hrun : (execOp a.eval o).run P w = .ok (.value (.slice (some ⟨w.heap.size, 0, none⟩) len len)) (newBlk w (.cells arr' el (0, 0))) := by
      have h1' : Instr.fill (fun i => some (i * P.cellsOf el, P.cellsOf el)) ((Array.range (len * P.cellsOf el)).map (zv.cells[· % zv.cells.size]!)) (parts.map fun ix => (ix.1, a.eval ix.2)).toList = some arr' := by
        rw [hp2, ← hzs]; rw [hzs]; rw [hzs] at h1; exact h1
      have hbig' : ¬ (len * P.cellsOf el > 2 ^ 24) := by omega
      simp only [execOp, ho, Instr.buildSlice, Sem.run_bind, run_underlying' hs, run_sizeOf' ht.1, Result.andThen_ok, hbig', if_false]
      by_cases h0 : len * P.cellsOf el = 0
      · have hfill0 : Instr.fill (fun i => some (i * P.cellsOf el, P.cellsOf el)) ((Array.range (len * P.cellsOf el)).map ((#[] : Array Value)[· % (#[] : Array Value).size]!)) (parts.map fun ix => (ix.1, a.eval ix.2)).toList = some arr' := by
          rw [h0, map_range0] at h1' ⊢
          exact h1'
        rw [if_pos h0]
        simp only [Sem.run_pure, Result.andThen_ok, hfill0, newRow, Sem.run_bind, run_newObj]
        rfl
      · rw [if_neg h0]
        simp only [Sem.run_bind, run_zeroValue' hzv, Sem.run_pure, Result.andThen_ok, h1', newRow, run_newObj]
        rfl
    refine ⟨_, _, _, .inl hrun, hS.le_ext _, hS.allocBlk h2, ?_, fun _ => newBlk_below _ _, .of_below (newBlk_below _ _)⟩
    have := VRel.sl (ι := ι.ext h.length (w.heap.size, 0, arr'.size)) h.length 0 (P.cellsOf el) len (some len) w.heap.size 0 arr'.size len (Io.ext_self _ _ _) (by rw [hsz]; omega) (Nat.le_refl _) (by
      have := Nat.le_mul_of_pos_right len hn
      omega) hn (by simp)
    simpa using this
  · cases he

theorem e_store (hS : Sim P B w1 ι h w) (hE : ERel ι N env a) {o : Oper} {t : TypeId} {x y : Operand} (ho : o.op = .store t x y) (ht : tyOk P t = true) {v : V} {h' : Heap}
    (he : eff B h env (.store (P.cellsOf t) (opX x) (opX y)) = some (v, h')) : EOk P B w1 ι a w o v h' false h (((ev env (opX x))).bind blkV) := by
  simp only [tyOk, Bool.and_eq_true] at ht
  simp only [eff] at he
  split at he
  · rename_i β off l hx1 hl
    split at he
    · rename_i cs hcs
      cases hb : Nat.ble B β && (l.length == P.cellsOf t) && Nat.ble (off + P.cellsOf t) cs.length with
      | false => simp only [hb, cond_false] at he; cases he
      | true =>
        simp only [hb, cond_true, Option.some.injEq, Prod.mk.injEq] at he
        obtain ⟨rfl, rfl⟩ := he
        simp only [Bool.and_eq_true, beq_iff_eq] at hb
        obtain ⟨⟨hB, hln⟩, hle⟩ := hb
        have hB := Nat.le_of_ble_eq_true hB
        have hle := Nat.le_of_ble_eq_true hle
        obtain ⟨v1, h1, h2⟩ := Option.bind_eq_some_iff.1 hl
        have hL := one_cells (ev_sound hE h1) h2
        have hx := ev_sound hE hx1
        generalize hu0 : a.eval x = u0 at hx
        cases hx with
        | ptr _ _ b s sz hι =>
          obtain ⟨w', r1, r2, r3⟩ := hS.putCells hcs hB hL (o := off) (by omega) hι
          refine ⟨undef, w', ι, .inr ⟨?_, rfl⟩, Io.le.refl _, r2, .lit _, by simp, .of_but r3 (by rw [hx1]; rfl) hι hcs hB⟩
          have hsize : (a.eval y).cells.size = P.cellsOf t := by rw [hL.1, hln]
          simp only [execOp, ho, Instr.storeAt, hu0, Instr.sureAddr, Sem.run_bind, Sem.run_pure, Result.andThen_ok, storeVar, run_sizeOf' ht.1, hsize, ne_eq, not_true_eq_false, if_false, r1]
    · cases he
  · cases he

theorem e_mk (hS : Sim P B w1 ι h w) (hE : ERel ι N env a) {o : Oper} {t el : TypeId} {x y : Operand} (ho : o.op = .makeSlice t x y) (hs : P.underlying t = some (.slice el)) (ht : tyOk P el = true)
    (hn : 0 < P.cellsOf el) (hby : 0 < P.bytesOf el) {z : List Value} (hz : zeroC P el = some z) (hone : z.all oneV = true) (hzl : z.length = P.cellsOf el) {v : V} {h' : Heap} {e : Bool} {t0 : Option Nat}
    (he : eff B h env (.mk (P.cellsOf el) (P.bytesOf el) z (opX x) (opX y)) = some (v, h')) : EOk P B w1 ι a w o v h' e h t0 := by
  simp only [eff] at he
  split at he
  · rename_i l c hl hc
    cases hb : decide (0 ≤ l) && decide (l ≤ c) && decide (c * (P.bytesOf el : Int) ≤ maxBytes) with
    | false => simp only [hb, cond_false] at he; cases he
    | true =>
      simp only [hb, cond_true, Option.some.injEq, Prod.mk.injEq] at he
      obtain ⟨rfl, rfl⟩ := he
      simp only [Bool.and_eq_true, decide_eq_true_eq] at hb
      obtain ⟨⟨h0, hlc⟩, hmax⟩ := hb
      obtain ⟨kl, hxl⟩ := evI_sound hE hl
      obtain ⟨kc, hyc⟩ := evI_sound hE hc
      obtain ⟨zv, hzv, hzc⟩ := zeroC_inv hz
      simp only [tyOk, Bool.and_eq_true] at ht
      obtain ⟨ti, hti⟩ := Option.isSome_iff_exists.1 ht.1
      have hbt : P.bytesOf el = ti.bytes := by simp [Program.bytesOf, hti]
      have hzs : zv.cells.size = P.cellsOf el := by rw [← hzl, ← hzc]; simp
      rw [hbt] at hmax hby
      have hmb : (maxBytes : Int) = 140737488355328 := rfl
      have hcb : c ≤ 140737488355328 := by
        have : c * 1 ≤ c * (ti.bytes : Int) := Int.mul_le_mul_of_nonneg_left (by omega) (by omega)
        omega
      have hwl : IntKind.i64.wrap l = l := by simp [IntKind.wrap, IntKind.signed, IntKind.bits]; omega
      have hwc : IntKind.i64.wrap c = c := by simp [IntKind.wrap, IntKind.signed, IntKind.bits]; omega
      have hL := reps_rel (ι := ι) hone c.toNat zv.cells hzc
      have hcom : (ti.bytes : Int) * c = c * ti.bytes := Int.mul_comm _ _
      have e1 : ¬ (c < 0) := by omega
      have e2 : ¬ (281474976710656 < (ti.bytes : Int) * c) := by omega
      have e3 : ¬ (l < 0) := by omega
      have e4 : ¬ (c < l) := by omega
      have hroom : ¬ (roomBytes < c.toNat * ti.bytes) := by
        have : ((c.toNat * ti.bytes : Nat) : Int) = c * ti.bytes := by rw [Int.natCast_mul, Int.toNat_of_nonneg (by omega)]
        have h47 : roomBytes = 140737488355328 := rfl
        omega
      have hrun : (execOp a.eval o).run P w = .ok (.value (.slice (some ⟨w.heap.size, 0, none⟩) l.toNat c.toNat)) (newBlk w (.cells ((Array.range (c.toNat * zv.cells.size)).map (zv.cells[· % zv.cells.size]!)) el (0, 0))) := by
        simp only [execOp, ho, Instr.makeSlice, Sem.run_bind, run_underlying' hs, Result.andThen_ok, asInt, asIntOf, hxl, hyc, Sem.run_pure, run_typeInfo' hti, hwl, hwc]
        simp only [Bool.or_eq_true, decide_eq_true_eq, gt_iff_lt, show (2 : Int) ^ 48 = 281474976710656 from rfl, e1, e2, e3, e4, or_self, if_false, askRoom, hroom, Sem.run_bind, Sem.run_pure, Result.andThen_ok, run_sizeOf' ht.1]
        by_cases hz0 : c.toNat * P.cellsOf el = 0
        · rw [if_pos hz0]
          have hc0 : c.toNat = 0 := by
            rcases Nat.mul_eq_zero.1 hz0 with h1 | h1
            · exact h1
            · omega
          simp only [Sem.run_pure, Result.andThen_ok, newRow, Sem.run_bind, run_newObj, hc0, Nat.zero_mul, map_range0]
          rfl
        · rw [if_neg hz0]
          simp only [Sem.run_bind, run_zeroValue' hzv, Sem.run_pure, Result.andThen_ok, newRow, run_newObj, hzs]
          rfl
      refine ⟨_, _, _, .inl hrun, hS.le_ext _, hS.allocBlk hL, ?_, fun _ => newBlk_below _ _, .of_below (newBlk_below _ _)⟩
      have hsz : ((Array.range (c.toNat * zv.cells.size)).map (zv.cells[· % zv.cells.size]!)).size = c.toNat * P.cellsOf el := by simp [hzs]
      have := VRel.sl (ι := ι.ext h.length (w.heap.size, 0, ((Array.range (c.toNat * zv.cells.size)).map (zv.cells[· % zv.cells.size]!)).size)) h.length 0 (P.cellsOf el) l.toNat (some c.toNat) w.heap.size 0 _ c.toNat (Io.ext_self _ _ _) (by rw [hsz]; omega) (by omega) (by omega) hn (by simp)
      simpa using this
  · cases he
end
end Go.Mx
