/-
  What makes a block, in whatever world. Conditions: none.
-/
import Derived.Test.YtobhjbbinnbdaaaMx10
namespace Go.Mx
open Go Go.RowKit
set_option linter.unusedSimpArgs false
set_option linter.unusedVariables false

section
variable {P : Program} {B N : Nat} {w1 w : World} {ι : Io} {a : Act} {h : Heap} {env : List V}
/-! ### What makes a block -/
/-- What an operation makes in whatever world: a block with what it holds, and the word of it. -/
def Makes (P : Program) (o : Oper) (a : Act) (mk : Nat → Value) (arr : Array Value) (T : TypeId) : Prop :=
  ∀ w0 : World, (execOp a.eval o).run P w0 = .ok (.value (mk w0.heap.size)) (newBlk w0 (.cells arr T (0, 0)))
/-- What the machine makes of it. -/
def AOk (P : Program) (ι : Io) (a : Act) (o : Oper) (h : Heap) (v : V) (h' : Heap) : Prop :=
  ∃ mk arr T cs, Makes P o a mk arr T ∧ h' = h ++ [.blk cs] ∧ LRel ι cs arr ∧ ∀ (ι' : Io) b, ι' h.length = some (b, 0, arr.size) → VRel ι' v (mk b)
theorem m_bsl (hE : ERel ι N env a) {o : Oper} {t el : TypeId} {len : Nat} {parts : Array (Nat × Operand)} (ho : o.op = .buildSlice t len parts) (hs : P.underlying t = some (.slice el)) (ht : tyOk P el = true)
    (hn : 0 < P.cellsOf el) (hbig : len * P.cellsOf el ≤ 16777216) {z : List Value} (hz : zeroC P el = some z) (hone : z.all oneV = true) (hzl : z.length = P.cellsOf el) {v : V} {h' : Heap} 
    (he : eff B h env (.bsl (P.cellsOf el) len z (parts.toList.map fun ix => (ix.1, opX ix.2))) = some (v, h')) : AOk P ι a o h v h' := by
  simp only [eff] at he
  split at he
  · rename_i cs hf
    simp only [Option.some.injEq, Prod.mk.injEq] at he
    obtain ⟨rfl, rfl⟩ := he
    obtain ⟨zv, hzv, hzc⟩ := zeroC_inv hz
    simp only [tyOk, Bool.and_eq_true] at ht
    have hzs : zv.cells.size = P.cellsOf el := by rw [← hzl, ← hzc]; simp
    rw [fillS_eq, List.map_map] at hf
    obtain ⟨arr', h1, h2⟩ := fill_sound hE (place := fun i => some (i * P.cellsOf el, P.cellsOf el)) (off := fun i => i * P.cellsOf el) (size := fun _ => P.cellsOf el)
      parts.toList _ cs ((Array.range (len * zv.cells.size)).map (zv.cells[· % zv.cells.size]!)) (fun ix _ => rfl) (reps_rel hone len zv.cells hzc) hf
    have hsz : arr'.size = len * P.cellsOf el := by
      have : ∀ (ps : List (Nat × Nat × X)) (cs cs' : List V), fillC env cs ps = some cs' → cs'.length = cs.length := by
        intro ps
        induction ps with
        | nil => intro cs cs' hh; simp only [fillC, Option.some.injEq] at hh; rw [hh]
        | cons y ys ih =>
          intro cs cs' hh
          obtain ⟨y1, y2, y3⟩ := y
          simp only [fillC] at hh
          split at hh
          · rename_i l _
            cases hb : (l.length == y2) && Nat.ble (y1 + y2) cs.length with
            | false => simp only [hb, cond_false] at hh; cases hh
            | true =>
              simp only [hb, cond_true] at hh
              simp only [Bool.and_eq_true, beq_iff_eq] at hb
              rw [ih _ _ hh, (putAt_get cs l y1 (by have := Nat.le_of_ble_eq_true hb.2; omega)).1]
          · cases hh
      rw [h2.1, this _ _ _ hf, (reps_get _ _ 0).1]
      simp [hzl]
    have hp2 : (parts.map fun ix => (ix.1, a.eval ix.2)).toList = parts.toList.map fun ix => (ix.1, a.eval ix.2) := by simp
    have hrun : ∀ w : World, (execOp a.eval o).run P w = .ok (.value (.slice (some ⟨w.heap.size, 0, none⟩) len len)) (newBlk w (.cells arr' el (0, 0))) := by
      intro w
      have h1' : Instr.fill (fun i => some (i * P.cellsOf el, P.cellsOf el)) ((Array.range (len * P.cellsOf el)).map (zv.cells[· % zv.cells.size]!)) (parts.map fun ix => (ix.1, a.eval ix.2)).toList = some arr' := by
        rw [hp2, ← hzs]; rw [hzs]; rw [hzs] at h1; exact h1
      have hbig' : ¬ (len * P.cellsOf el > 2 ^ 24) := by omega
      simp only [execOp, ho, Instr.buildSlice, Sem.run_bind, run_underlying' hs, run_sizeOf' ht.1, Result.andThen_ok, hbig', if_false]
      by_cases h0 : len * P.cellsOf el = 0
      · have hfill0 : Instr.fill (fun i => some (i * P.cellsOf el, P.cellsOf el)) ((Array.range (len * P.cellsOf el)).map ((#[] : Array Value)[· % (#[] : Array Value).size]!)) (parts.map fun ix => (ix.1, a.eval ix.2)).toList = some arr' := by
          rw [h0, map_range0] at h1' ⊢
          exact h1'
        rw [if_pos h0]
        simp only [Sem.run_pure, Result.andThen_ok, hfill0, newRow, Sem.run_bind, run_newObj]
        rfl
      · rw [if_neg h0]
        simp only [Sem.run_bind, run_zeroValue' hzv, Sem.run_pure, Result.andThen_ok, h1', newRow, run_newObj]
        rfl
    refine ⟨fun b => .slice (some ⟨b, 0, none⟩) len len, arr', el, cs, hrun, rfl, h2, fun ι' b hb => ?_⟩
    have := VRel.sl (ι := ι') h.length 0 (P.cellsOf el) len (some len) b 0 arr'.size len hb (by rw [hsz]; omega) (Nat.le_refl _) (by
      have := Nat.le_mul_of_pos_right len hn
      omega) hn (by simp)
    simpa using this
  · cases he
theorem m_mk (hE : ERel ι N env a) {o : Oper} {t el : TypeId} {x y : Operand} (ho : o.op = .makeSlice t x y) (hs : P.underlying t = some (.slice el)) (ht : tyOk P el = true)
    (hn : 0 < P.cellsOf el) (hby : 0 < P.bytesOf el) {z : List Value} (hz : zeroC P el = some z) (hone : z.all oneV = true) (hzl : z.length = P.cellsOf el) {v : V} {h' : Heap} 
    (he : eff B h env (.mk (P.cellsOf el) (P.bytesOf el) z (opX x) (opX y)) = some (v, h')) : AOk P ι a o h v h' := by
  simp only [eff] at he
  split at he
  · rename_i l c hl hc
    cases hb : decide (0 ≤ l) && decide (l ≤ c) && decide (c * (P.bytesOf el : Int) ≤ maxBytes) with
    | false => simp only [hb, cond_false] at he; cases he
    | true =>
      simp only [hb, cond_true, Option.some.injEq, Prod.mk.injEq] at he
      obtain ⟨rfl, rfl⟩ := he
      simp only [Bool.and_eq_true, decide_eq_true_eq] at hb
      obtain ⟨⟨h0, hlc⟩, hmax⟩ := hb
      obtain ⟨kl, hxl⟩ := evI_sound hE hl
      obtain ⟨kc, hyc⟩ := evI_sound hE hc
      obtain ⟨zv, hzv, hzc⟩ := zeroC_inv hz
      simp only [tyOk, Bool.and_eq_true] at ht
      obtain ⟨ti, hti⟩ := Option.isSome_iff_exists.1 ht.1
      have hbt : P.bytesOf el = ti.bytes := by simp [Program.bytesOf, hti]
      have hzs : zv.cells.size = P.cellsOf el := by rw [← hzl, ← hzc]; simp
      rw [hbt] at hmax hby
      have hmb : (maxBytes : Int) = 140737488355328 := rfl
      have hcb : c ≤ 140737488355328 := by
        have : c * 1 ≤ c * (ti.bytes : Int) := Int.mul_le_mul_of_nonneg_left (by omega) (by omega)
        omega
      have hwl : IntKind.i64.wrap l = l := by simp [IntKind.wrap, IntKind.signed, IntKind.bits]; omega
      have hwc : IntKind.i64.wrap c = c := by simp [IntKind.wrap, IntKind.signed, IntKind.bits]; omega
      have hL := reps_rel (ι := ι) hone c.toNat zv.cells hzc
      have hcom : (ti.bytes : Int) * c = c * ti.bytes := Int.mul_comm _ _
      have e1 : ¬ (c < 0) := by omega
      have e2 : ¬ (281474976710656 < (ti.bytes : Int) * c) := by omega
      have e3 : ¬ (l < 0) := by omega
      have e4 : ¬ (c < l) := by omega
      have hroom : ¬ (roomBytes < c.toNat * ti.bytes) := by
        have : ((c.toNat * ti.bytes : Nat) : Int) = c * ti.bytes := by rw [Int.natCast_mul, Int.toNat_of_nonneg (by omega)]
        have h47 : roomBytes = 140737488355328 := rfl
        omega
      have hrun : ∀ w : World, (execOp a.eval o).run P w = .ok (.value (.slice (some ⟨w.heap.size, 0, none⟩) l.toNat c.toNat)) (newBlk w (.cells ((Array.range (c.toNat * zv.cells.size)).map (zv.cells[· % zv.cells.size]!)) el (0, 0))) := by
        intro w
        simp only [execOp, ho, Instr.makeSlice, Sem.run_bind, run_underlying' hs, Result.andThen_ok, asInt, asIntOf, hxl, hyc, Sem.run_pure, run_typeInfo' hti, hwl, hwc]
        simp only [Bool.or_eq_true, decide_eq_true_eq, gt_iff_lt, show (2 : Int) ^ 48 = 281474976710656 from rfl, e1, e2, e3, e4, or_self, if_false, askRoom, hroom, Sem.run_bind, Sem.run_pure, Result.andThen_ok, run_sizeOf' ht.1]
        by_cases hz0 : c.toNat * P.cellsOf el = 0
        · rw [if_pos hz0]
          have hc0 : c.toNat = 0 := by
            rcases Nat.mul_eq_zero.1 hz0 with h1 | h1
            · exact h1
            · omega
          simp only [Sem.run_pure, Result.andThen_ok, newRow, Sem.run_bind, run_newObj, hc0, Nat.zero_mul, map_range0]
          rfl
        · rw [if_neg hz0]
          simp only [Sem.run_bind, run_zeroValue' hzv, Sem.run_pure, Result.andThen_ok, newRow, run_newObj, hzs]
          rfl
      refine ⟨fun b => .slice (some ⟨b, 0, none⟩) l.toNat c.toNat, _, el, _, hrun, rfl, hL, fun ι' b hb => ?_⟩
      have hsz : ((Array.range (c.toNat * zv.cells.size)).map (zv.cells[· % zv.cells.size]!)).size = c.toNat * P.cellsOf el := by simp [hzs]
      have := VRel.sl (ι := ι') h.length 0 (P.cellsOf el) l.toNat (some c.toNat) b 0 ((Array.range (c.toNat * zv.cells.size)).map (zv.cells[· % zv.cells.size]!)).size c.toNat hb (by rw [hsz]; omega) (by omega) (by omega) hn (by simp)
      simpa using this
  · cases he
theorem a_sound {h' : Heap} {v : V} (hE : ERel ι N env a) (o : Oper) (hal : alI (irOp P o) = true) (he : eff B h env (irOp P o) = some (v, h')) : AOk P ι a o h v h' := by
  obtain ⟨dst, op, type, pos, after, guard⟩ := o
  cases op with
  | alloc t =>
    simp only [irOp] at he
    split at he
    · rename_i z hz
      obtain ⟨hone, he⟩ := e_bad he
      simp only [eff, Option.some.injEq, Prod.mk.injEq] at he
      obtain ⟨rfl, rfl⟩ := he
      obtain ⟨zv, hzv, rfl⟩ := zeroC_inv hz
      have hL : LRel ι (zv.cells.toList.map .lit) zv.cells := by simpa using zero_rel (ι := ι) _ hone
      refine ⟨fun b => .pointer (some ⟨b, 0, none⟩), zv.cells, t, _, fun w0 => ?_, rfl, hL, fun ι' b hb => .ptr _ _ b 0 zv.cells.size hb⟩
      simp only [execOp, Instr.alloc, Sem.run_bind, run_zeroValue' hzv, Result.andThen_ok, newVar, newRow, run_newObj, Sem.run_pure]
      rfl
    · simp [eff] at he
  | box t x =>
    simp only [irOp, eff] at he
    split at he
    · rename_i l hl
      simp only [Option.some.injEq, Prod.mk.injEq] at he
      obtain ⟨rfl, rfl⟩ := he
      obtain ⟨v1, h1, h2⟩ := Option.bind_eq_some_iff.1 hl
      have hL := one_cells (ev_sound hE h1) h2
      refine ⟨fun b => .pointer (some ⟨b, 0, none⟩), (a.eval x).cells, t, _, fun w0 => ?_, rfl, hL, fun ι' b hb => .ptr _ _ b 0 _ hb⟩
      simp only [execOp, Instr.box, Sem.run_bind, Result.andThen_ok, newVar, newRow, run_newObj, Sem.run_pure]
      rfl
    · cases he
  | buildSlice t len parts =>
    simp only [irOp] at he
    split at he
    · rename_i el hs
      obtain ⟨hb, he⟩ := e_bad he
      simp only [Bool.and_eq_true] at hb
      split at he
      · rename_i z hz
        obtain ⟨hone, he⟩ := e_bad he
        simp only [Bool.and_eq_true, beq_iff_eq] at hone
        obtain ⟨mk, arr, T, cs, g1, g2, g3, g4⟩ := m_bsl (h := h) (ι := ι) (o := ⟨dst, .buildSlice t len parts, type, pos, after, guard⟩) hE rfl hs hb.1.1 (Nat.blt_eq.mp hb.1.2) (Nat.le_of_ble_eq_true hb.2) hz hone.1 hone.2 he
        exact ⟨mk, arr, T, cs, g1, g2, g3, g4⟩
      · simp [eff] at he
    · simp [eff] at he
  | makeSlice t l c =>
    simp only [irOp] at he
    split at he
    · rename_i el hs
      obtain ⟨hb, he⟩ := e_bad he
      simp only [Bool.and_eq_true] at hb
      split at he
      · rename_i z hz
        obtain ⟨hone, he⟩ := e_bad he
        simp only [Bool.and_eq_true, beq_iff_eq] at hone
        exact m_mk (o := ⟨dst, .makeSlice t l c, type, pos, after, guard⟩) hE rfl hs hb.1.1 (Nat.blt_eq.mp hb.1.2) (Nat.blt_eq.mp hb.2) hz hone.1 hone.2 he
      · simp [eff] at he
    · simp [eff] at he
  | _ =>
    exfalso
    simp only [irOp, irCall, Bool.cond_eq_ite] at hal
    repeat' (split at hal)
    all_goals first | (simp [alI] at hal; done) | (simp_all; done)
end
end Go.Mx
