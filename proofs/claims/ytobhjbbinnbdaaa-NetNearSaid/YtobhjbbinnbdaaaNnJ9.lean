/-
  What makes a block, in whatever world. Conditions: none.
-/
import Derived.Test.YtobhjbbinnbdaaaNnMx10
import Derived.Test.YtobhjbbinnbdaaaNnMx11
namespace Go.Mx
open Go Go.RowKit
section
variable {P : Program} {B N : Nat} {w1 w : World} {ι : Io} {a : Act} {h : zaj} {env : List V}
def zef (P : Program) (o : Oper) (a : Act) (mk : Nat → Value) (arr : Array Value) (T : TypeId) : Prop :=
  ∀ w0 : World, (execOp a.eval o).run P w0 = .ok (.value (mk w0.heap.size)) (zaU w0 (.cells arr T (0, 0)))
def AOk (P : Program) (ι : Io) (a : Act) (o : Oper) (h : zaj) (v : V) (h' : zaj) : Prop :=
  ∃ mk arr T cs, zef P o a mk arr T ∧ h' = h ++ [.blk cs] ∧ zdP ι cs arr ∧ ∀ (ι' : Io) b, ι' h.length = some (b, 0, arr.size) → VRel ι' v (mk b)
theorem zuW (hE : zbs ι N env a) {o : Oper} {t el : TypeId} {len : Nat} {parts : Array (Nat × Operand)} (ho : o.op = .buildSlice t len parts) (hs : P.underlying t = some (.slice el)) (ht : zb0 P el = true)
    (hn : 0 < P.cellsOf el) (hbig : len * P.cellsOf el ≤ 16777216) {z : List Value} (hz : zeb P el = some z) (hone : z.all zez = true) (hzl : z.length = P.cellsOf el) {v : V} {h' : zaj}
    (he : eff B h env (.bsl (P.cellsOf el) len z (parts.toList.map fun ix => (ix.1, opX ix.2))) = some (v, h')) : AOk P ι a o h v h' := by
  simp only [eff] at he
  split at he
  · rename_i cs hf
    simp only [Option.some.injEq, Prod.mk.injEq] at he
    obtain ⟨rfl, rfl⟩ := he
    obtain ⟨zv, hzv, hzc⟩ := zbP hz
    simp only [zb0, Bool.and_eq_true] at ht
    have hzs : zv.cells.size = P.cellsOf el := by rw [← hzl, ← hzc]; simp
    rw [zh5, List.map_map] at hf
    obtain ⟨arr', h1, h2⟩ := zb5 hE (place := fun i => some (i * P.cellsOf el, P.cellsOf el)) (off := fun i => i * P.cellsOf el) (size := fun _ => P.cellsOf el)
      parts.toList _ cs ((Array.range (len * zv.cells.size)).map (zv.cells[· % zv.cells.size]!)) (fun ix _ => rfl) (zfd hone len zv.cells hzc) hf
    have hsz : arr'.size = len * P.cellsOf el := by
      have : ∀ (ps : List (Nat × Nat × X)) (cs cs' : List V), zdW env cs ps = some cs' → cs'.length = cs.length := by
        intro ps
        induction ps with
        | nil => intro cs cs' hh; simp only [zdW, Option.some.injEq] at hh; rw [hh]
        | cons y ys ih =>
          intro cs cs' hh
          obtain ⟨y1, y2, y3⟩ := y
          simp only [zdW] at hh
          split at hh
          · rename_i l _
            cases hb : (l.length == y2) && Nat.ble (y1 + y2) cs.length with
            | false => simp only [hb, cond_false] at hh; cases hh
            | true =>
              simp only [hb, cond_true] at hh
              simp only [Bool.and_eq_true, beq_iff_eq] at hb
              rw [ih _ _ hh, (zd2 cs l y1 (by have := Nat.le_of_ble_eq_true hb.2; omega)).1]
          · cases hh
      rw [h2.1, this _ _ _ hf, (zc8 _ _ 0).1]
      simp [hzl]
    have hp2 : (parts.map fun ix => (ix.1, a.eval ix.2)).toList = parts.toList.map fun ix => (ix.1, a.eval ix.2) := by simp
    have hrun : ∀ w : World, (execOp a.eval o).run P w = .ok (.value (.slice (some ⟨w.heap.size, 0, none⟩) len len)) (zaU w (.cells arr' el (0, 0))) := by
      intro w
      have h1' : Instr.fill (fun i => some (i * P.cellsOf el, P.cellsOf el)) ((Array.range (len * P.cellsOf el)).map (zv.cells[· % zv.cells.size]!)) (parts.map fun ix => (ix.1, a.eval ix.2)).toList = some arr' := by
        rw [hp2, ← hzs]; rw [hzs]; rw [hzs] at h1; exact h1
      have hbig' : ¬ (len * P.cellsOf el > 2 ^ 24) := by omega
      simp only [execOp, ho, Instr.buildSlice, Sem.run_bind, zae hs, zar ht.1, Result.andThen_ok, hbig', if_false]
      by_cases h0 : len * P.cellsOf el = 0
      · have hfill0 : Instr.fill (fun i => some (i * P.cellsOf el, P.cellsOf el)) ((Array.range (len * P.cellsOf el)).map ((#[] : Array Value)[· % (#[] : Array Value).size]!)) (parts.map fun ix => (ix.1, a.eval ix.2)).toList = some arr' := by
          rw [h0, zeo] at h1' ⊢
          exact h1'
        rw [if_pos h0]
        simp only [Sem.run_pure, Result.andThen_ok, hfill0, newRow, Sem.run_bind, run_newObj]
        rfl
      · rw [if_neg h0]
        simp only [Sem.run_bind, zaJ hzv, Sem.run_pure, Result.andThen_ok, h1', newRow, run_newObj]
        rfl
    refine ⟨fun b => .slice (some ⟨b, 0, none⟩) len len, arr', el, cs, hrun, rfl, h2, fun ι' b hb => ?_⟩
    have := VRel.sl (ι := ι') h.length 0 (P.cellsOf el) len (some len) b 0 arr'.size len hb (by rw [hsz]; omega) (Nat.le_refl _) (by
      have := Nat.le_mul_of_pos_right len hn
      omega) hn (by simp) (by simp)
    simpa using this
  · cases he
theorem zvZ (hE : zbs ι N env a) {o : Oper} {t el : TypeId} {x y : Operand} (ho : o.op = .makeSlice t x y) (hs : P.underlying t = some (.slice el)) (ht : zb0 P el = true)
    (hn : 0 < P.cellsOf el) (hby : 0 < P.bytesOf el) {z : List Value} (hz : zeb P el = some z) (hone : z.all zez = true) (hzl : z.length = P.cellsOf el) {v : V} {h' : zaj}
    (he : eff B h env (.mk (P.cellsOf el) (P.bytesOf el) z (opX x) (opX y)) = some (v, h')) : AOk P ι a o h v h' := by
  simp only [eff] at he
  split at he
  · rename_i l c hl hc
    cases hb : decide (0 ≤ l) && decide (l ≤ c) && decide (c * (P.bytesOf el : Int) ≤ zal) with
    | false => simp only [hb, cond_false] at he; cases he
    | true =>
      simp only [hb, cond_true, Option.some.injEq, Prod.mk.injEq] at he
      obtain ⟨rfl, rfl⟩ := he
      simp only [Bool.and_eq_true, decide_eq_true_eq] at hb
      obtain ⟨⟨h0, hlc⟩, hmax⟩ := hb
      obtain ⟨kl, hxl⟩ := zbQ hE hl
      obtain ⟨kc, hyc⟩ := zbQ hE hc
      obtain ⟨zv, hzv, hzc⟩ := zbP hz
      simp only [zb0, Bool.and_eq_true] at ht
      obtain ⟨ti, hti⟩ := Option.isSome_iff_exists.1 ht.1
      have hbt : P.bytesOf el = ti.bytes := by simp [Program.bytesOf, hti]
      have hzs : zv.cells.size = P.cellsOf el := by rw [← hzl, ← hzc]; simp
      rw [hbt] at hmax hby
      have hmb : (zal : Int) = 140737488355328 := rfl
      have hcb : c ≤ 140737488355328 := by
        have : c * 1 ≤ c * (ti.bytes : Int) := Int.mul_le_mul_of_nonneg_left (by omega) (by omega)
        omega
      have hwl : IntKind.i64.wrap l = l := by simp [IntKind.wrap, IntKind.signed, IntKind.bits]; omega
      have hwc : IntKind.i64.wrap c = c := by simp [IntKind.wrap, IntKind.signed, IntKind.bits]; omega
      have hL := zfd (ι := ι) hone c.toNat zv.cells hzc
      have hcom : (ti.bytes : Int) * c = c * ti.bytes := Int.mul_comm _ _
      have e1 : ¬ (c < 0) := by omega
      have e2 : ¬ (281474976710656 < (ti.bytes : Int) * c) := by omega
      have e3 : ¬ (l < 0) := by omega
      have e4 : ¬ (c < l) := by omega
      have hroom : ¬ (roomBytes < c.toNat * ti.bytes) := by
        have : ((c.toNat * ti.bytes : Nat) : Int) = c * ti.bytes := by rw [Int.natCast_mul, Int.toNat_of_nonneg (by omega)]
        have h47 : roomBytes = 140737488355328 := rfl
        omega
      have hrun : ∀ w : World, (execOp a.eval o).run P w = .ok (.value (.slice (some ⟨w.heap.size, 0, none⟩) l.toNat c.toNat)) (zaU w (.cells ((Array.range (c.toNat * zv.cells.size)).map (zv.cells[· % zv.cells.size]!)) el (0, 0))) := by
        intro w
        simp only [execOp, ho, Instr.makeSlice, Sem.run_bind, zae hs, Result.andThen_ok, asInt, asIntOf, hxl, hyc, Sem.run_pure, zdN hti, hwl, hwc]
        simp only [Bool.or_eq_true, decide_eq_true_eq, gt_iff_lt, show (2 : Int) ^ 48 = 281474976710656 from rfl, e1, e2, e3, e4, or_self, if_false, askRoom, hroom, Sem.run_bind, Sem.run_pure, Result.andThen_ok, zar ht.1]
        by_cases hz0 : c.toNat * P.cellsOf el = 0
        · rw [if_pos hz0]
          have hc0 : c.toNat = 0 := by
            rcases Nat.mul_eq_zero.1 hz0 with h1 | h1
            · exact h1
            · omega
          simp only [Sem.run_pure, Result.andThen_ok, newRow, Sem.run_bind, run_newObj, hc0, Nat.zero_mul, zeo]
          rfl
        · rw [if_neg hz0]
          simp only [Sem.run_bind, zaJ hzv, Sem.run_pure, Result.andThen_ok, newRow, run_newObj, hzs]
          rfl
      refine ⟨fun b => .slice (some ⟨b, 0, none⟩) l.toNat c.toNat, _, el, _, hrun, rfl, hL, fun ι' b hb => ?_⟩
      have hsz : ((Array.range (c.toNat * zv.cells.size)).map (zv.cells[· % zv.cells.size]!)).size = c.toNat * P.cellsOf el := by simp [hzs]
      have := VRel.sl (ι := ι') h.length 0 (P.cellsOf el) l.toNat (some c.toNat) b 0 ((Array.range (c.toNat * zv.cells.size)).map (zv.cells[· % zv.cells.size]!)).size c.toNat hb (by rw [hsz]; omega) (by omega) (by omega) hn (by simp) (by simp)
      simpa using this
  · cases he
theorem zmN {h' : zaj} {v : V} (hE : zbs ι N env a) (o : Oper) (hal : alI (zau P o) = true) (he : eff B h env (zau P o) = some (v, h')) : AOk P ι a o h v h' := by
  obtain ⟨dst, op, type, pos, after, guard⟩ := o
  cases op with
  | alloc t =>
    simp only [zau] at he
    split at he
    · rename_i z hz
      obtain ⟨hone, he⟩ := zcd he
      simp only [eff, Option.some.injEq, Prod.mk.injEq] at he
      obtain ⟨rfl, rfl⟩ := he
      obtain ⟨zv, hzv, rfl⟩ := zbP hz
      have hL : zdP ι (zv.cells.toList.map .lit) zv.cells := by simpa using zf1 (ι := ι) _ hone
      refine ⟨fun b => .pointer (some ⟨b, 0, none⟩), zv.cells, t, _, fun w0 => ?_, rfl, hL, fun ι' b hb => .ptr _ _ b 0 zv.cells.size hb⟩
      simp only [execOp, Instr.alloc, Sem.run_bind, zaJ hzv, Result.andThen_ok, newVar, newRow, run_newObj, Sem.run_pure]
      rfl
    · simp [eff] at he
  | box t x =>
    simp only [zau, eff] at he
    split at he
    · rename_i l hl
      simp only [Option.some.injEq, Prod.mk.injEq] at he
      obtain ⟨rfl, rfl⟩ := he
      obtain ⟨v1, h1, h2⟩ := Option.bind_eq_some_iff.1 hl
      have hL := zdp (zac hE h1) h2
      refine ⟨fun b => .pointer (some ⟨b, 0, none⟩), (a.eval x).cells, t, _, fun w0 => ?_, rfl, hL, fun ι' b hb => .ptr _ _ b 0 _ hb⟩
      simp only [execOp, Instr.box, Sem.run_bind, Result.andThen_ok, newVar, newRow, run_newObj, Sem.run_pure]
      rfl
    · cases he
  | buildSlice t len parts =>
    simp only [zau] at he
    split at he
    · rename_i el hs
      obtain ⟨hb, he⟩ := zcd he
      simp only [Bool.and_eq_true] at hb
      split at he
      · rename_i z hz
        obtain ⟨hone, he⟩ := zcd he
        simp only [Bool.and_eq_true, beq_iff_eq] at hone
        obtain ⟨mk, arr, T, cs, g1, g2, g3, g4⟩ := zuW (h := h) (ι := ι) (o := ⟨dst, .buildSlice t len parts, type, pos, after, guard⟩) hE rfl hs hb.1.1 (Nat.blt_eq.mp hb.1.2) (Nat.le_of_ble_eq_true hb.2) hz hone.1 hone.2 he
        exact ⟨mk, arr, T, cs, g1, g2, g3, g4⟩
      · simp [eff] at he
    · simp [eff] at he
  | makeSlice t l c =>
    simp only [zau] at he
    split at he
    · rename_i el hs
      obtain ⟨hb, he⟩ := zcd he
      simp only [Bool.and_eq_true] at hb
      split at he
      · rename_i z hz
        obtain ⟨hone, he⟩ := zcd he
        simp only [Bool.and_eq_true, beq_iff_eq] at hone
        exact zvZ (o := ⟨dst, .makeSlice t l c, type, pos, after, guard⟩) hE rfl hs hb.1.1 (Nat.blt_eq.mp hb.1.2) (Nat.blt_eq.mp hb.2) hz hone.1 hone.2 he
      · simp [eff] at he
    · simp [eff] at he
  | _ =>
    exfalso
    simp only [zau, zf9, Bool.cond_eq_ite] at hal
    repeat' (split at hal)
    all_goals first | (simp [alI] at hal; done) | (simp_all; done)
end
end Go.Mx
namespace Go.Mx
open Go Go.RowKit
section
variable {P : Program} {B N : Nat} {w1 w : World} {ι : Io} {S S' : St} {a : Act} {r : Rec} {ops : Array Oper} {rd rb : Option Nat} {Q : Exit → Act → World → Prop} {ex : Ex} {bar e : Bool} {Sx : World → Prop}
theorem zik {j : Nat} {oi oj : Oper} {u : Value} (hj : ops[j]? = some oj) (hap : oi.apart ops oj = true) (hsj : ∀ cs b, oj.op ≠ .select cs b) (hdj : ∀ c, oj.op ≠ .defer c)
    (hQ : ∀ c a w, Q (.panic c) a w → Q (.panic c) (a.put oi.dst u) w) {K : Act → World → Prop} {a : Act} {w : World}
    (h : wpOpIn (FW rb) 0 P ops Q j K a w) : wpOpIn (FW rb) 0 P ops Q j (fun a' w' => ∃ a'', a' = a''.put oi.dst u ∧ K a'' w') (a.put oi.dst u) w := by
  obtain ⟨h1, h2, h3⟩ := Oper.apart_spec hap
  unfold wpOpIn at *
  simp only [hj] at *
  rw [wanted_put oj a oi.dst u h1]
  split
  · rename_i hw
    simp only [hw, if_true] at h
    refine ⟨fun _ _ => trivial, ?_⟩
    have h := h.2
    rw [Oper.semAt_eq _ _ oj hdj] at h
    rw [Oper.semAt_eq _ _ oj hdj, execOp_put oj hsj a oi.dst u h1]
    generalize (execOp a.eval oj).run P w = res at *
    cases res with
    | ok x w' =>
      cases x <;> simp only [Oper.uponIn] at h ⊢
      case value v => exact ⟨_, Act.put_comm a u v h2, h⟩
      case skip => exact ⟨_, Act.put_comm a u undef h2, h⟩
      case defer d =>
        refine ⟨_, ?_, h⟩
        rw [Act.put_defers]
        exact Act.put_comm _ u undef h2
      case enter f args =>
        refine ⟨h.1, CallsIn.mono h.2 fun e w'' he => ?_⟩
        cases e with
        | returned v => exact ⟨_, Act.put_comm a u v h2, he⟩
        | panicked c => exact hQ _ _ _ he
        | outgrown => exact he
      case row row args => exact ⟨h.1, RowsIn.mono h.2 fun v w'' he => ⟨_, Act.put_comm a u v h2, he⟩⟩
      case round l f tmps assign body =>
        refine ⟨h.1, RoundIn.mono h.2 fun e w'' he => ?_⟩
        cases e with
        | returned v => exact ⟨_, Act.put_comm a u v h2, he⟩
        | panicked c => exact hQ _ _ _ he
        | outgrown => exact he
    | halt x w' =>
      cases x <;> simp only [Oper.uponIn] at h ⊢
      case panic v => exact hQ _ _ _ h
  · rename_i hw
    simp only [hw] at h
    exact ⟨fun _ _ => trivial, _, Act.put_comm a u undef h2, h.2⟩
abbrev Pen := List (Nat × Option Nat × Value)
def zu6 (ops : Array Oper) (y : Nat) : Option Tmp := (ops[y]?).bind (·.dst)
theorem zej {y : Nat} {oy : Oper} (h : ops[y]? = some oy) : zu6 ops y = oy.dst := by simp [zu6, h]
def zcl (ops : Array Oper) : Pen → Act → Act
  | [], a => a
  | p :: Y, a => (zcl ops Y a).put (zu6 ops p.1) p.2.2
def zeE : Pen → Array Bool → Array Bool
  | [], M => M
  | p :: Y, M => (zeE Y M).setIfInBounds p.1 true
def ApY (ops : Array Oper) (Y : Pen) (oj : Oper) : Prop := ∀ p ∈ Y, ∃ oy, ops[p.1]? = some oy ∧ oy.apart ops oj = true
theorem zdZ {oj : Oper} {v : Value} : ∀ (Y : Pen) (a : Act), ApY ops Y oj → (zcl ops Y a).put oj.dst v = zcl ops Y (a.put oj.dst v)
  | [], a, _ => rfl
  | p :: Y, a, h => by
    obtain ⟨oy, h1, h2⟩ := h p (by simp)
    obtain ⟨g1, g2, g3⟩ := Oper.apart_spec h2
    simp only [zcl, zej h1]
    rw [Act.put_comm _ p.2.2 v g2, zdZ Y a fun q hq => h q (by simp [hq])]
theorem zhx {oj : Oper} (hs : ∀ cs b, oj.op ≠ .select cs b) : ∀ (Y : Pen) (a : Act), ApY ops Y oj → execOp (zcl ops Y a).eval oj = execOp a.eval oj
  | [], a, _ => rfl
  | p :: Y, a, h => by
    obtain ⟨oy, h1, h2⟩ := h p (by simp)
    obtain ⟨g1, g2, g3⟩ := Oper.apart_spec h2
    simp only [zcl, zej h1]
    rw [execOp_put oj hs _ oy.dst p.2.2 g1, zhx hs Y a fun q hq => h q (by simp [hq])]
theorem zd0 {oj : Oper} : ∀ (Y : Pen) (a : Act), ApY ops Y oj → Region.wanted oj (yielded ops (zcl ops Y a).tmps) = Region.wanted oj (yielded ops a.tmps)
  | [], a, _ => rfl
  | p :: Y, a, h => by
    obtain ⟨oy, h1, h2⟩ := h p (by simp)
    obtain ⟨g1, g2, g3⟩ := Oper.apart_spec h2
    simp only [zcl, zej h1]
    rw [wanted_put oj _ oy.dst p.2.2 g1, zd0 Y a fun q hq => h q (by simp [hq])]
theorem zhJ {j : Nat} {oj : Oper} (hj : ops[j]? = some oj) (hsj : ∀ cs b, oj.op ≠ .select cs b) (hdj : ∀ c, oj.op ≠ .defer c) (hQ : ∀ (d : Option Tmp) u c a w, Q (.panic c) a w → Q (.panic c) (a.put d u) w) {K : Act → World → Prop} :
    ∀ (Y : Pen) (a : Act), ApY ops Y oj → wpOpIn (FW rb) 0 P ops Q j K a w → wpOpIn (FW rb) 0 P ops Q j (fun a' w' => ∃ a'', a' = zcl ops Y a'' ∧ K a'' w') (zcl ops Y a) w
  | [], a, _, h => wpOpIn_mono (fun a' w' hk => ⟨a', rfl, hk⟩) h
  | p :: Y, a, hap, h => by
    obtain ⟨oy, h1, h2⟩ := hap p (by simp)
    have := zhJ hj hsj hdj hQ Y a (fun q hq => hap q (by simp [hq])) h
    have := zik (u := p.2.2) hj h2 hsj hdj (fun c a w => hQ _ _ c a w) this
    simp only [zcl, zej h1]
    refine wpOpIn_mono ?_ this
    rintro a' w' ⟨a1, rfl, a2, rfl, hk⟩
    exact ⟨a2, by simp only [zcl, zej h1], hk⟩
structure PenOk (P : Program) (ops : Array Oper) (B : Nat) (a : Act) (w w1 : World) (ι : Io) (h : zaj) (M : Array Bool) (p : Nat × Option Nat × Value) : Prop where
  ready : p.1 ∈ Region.ready .any ops M
  al : alI (zcA P ops p.1) = true
  free : ∀ oy, ops[p.1]? = some oy → ∀ j oj, ops[j]? = some oj → j ≠ p.1 → M.getD j true = false → (∀ e ∈ oj.after, Region.binds .any e = true → e.on ≠ p.1) → oy.apart ops oj = true
  made : ∃ oy, ops[p.1]? = some oy ∧ ((Region.wanted oy (yielded ops a.tmps) = true ∧ ∃ b mk arr T, p.2.1 = some b ∧ zef P oy a mk arr T ∧ p.2.2 = mk b ∧ w.heap[b]? = some (.cells arr T (0, 0)) ∧ w1.heap.size ≤ b ∧
      ∀ β o b' s sz, h[β]? = some o → o.live → B ≤ β → ι β = some (b', s, sz) → b' ≠ b) ∨ (Region.wanted oy (yielded ops a.tmps) = false ∧ p.2.1 = none ∧ p.2.2 = undef))
theorem zkH {M : Array Bool} {i j : Nat} (h : j ∈ Region.ready .any ops M) (hne : j ≠ i) : j ∈ Region.ready .any ops (M.setIfInBounds i true) := ready_mono h hne
theorem PenOk.step {M : Array Bool} {p : Nat × Option Nat × Value} {h h' : zaj} {ι' : Io} {w' : World} (hp : PenOk P ops B a w w1 ι h M p) {j : Nat} {oj : Oper} (hj : ops[j]? = some oj) (hjr : j ∈ Region.ready .any ops M) (hne : j ≠ p.1) (hsel : ∀ (j : Nat) (o : Oper) cs b, ops[j]? = some o → o.op ≠ .select cs b)
    {u : Value} {ds : List Deferred} (hb : ∀ b, p.2.1 = some b → b < w.heap.size → (∀ β o b' s sz, h[β]? = some o → o.live → B ≤ β → ι β = some (b', s, sz) → b' ≠ b) → w'.heap[b]? = w.heap[b]?)
    (hfr : ∀ b, p.2.1 = some b → b < w.heap.size → (∀ β o b' s sz, h[β]? = some o → o.live → B ≤ β → ι β = some (b', s, sz) → b' ≠ b) → ∀ β o b' s sz, h'[β]? = some o → o.live → B ≤ β → ι' β = some (b', s, sz) → b' ≠ b) :
    PenOk P ops B (({ a with defers := ds } : Act).put oj.dst u) w' w1 ι' h' (M.setIfInBounds j true) p := by
  obtain ⟨oy, hoy, hm⟩ := hp.made
  obtain ⟨hju, oj', hoj', hall⟩ := mem_ready.1 hjr
  have : oj' = oj := Option.some.inj (hoj'.symm.trans hj)
  subst this
  have hjun : M.getD j true = false := hju
  have hpu := (mem_ready.1 hp.ready).1
  have hno : ∀ e ∈ oj'.after, Region.binds .any e = true → e.on ≠ p.1 := fun e he hb' heq => by
    have h1 := hall e he hb'
    rw [heq] at h1
    rcases Nat.lt_or_ge p.1 M.size with h2 | h2
    · simp [h2] at h1 hpu; rw [h1] at hpu; cases hpu
    · simp [Array.getElem?_eq_none h2] at h1
  have hap := hp.free oy hoy j oj' hj hne hjun hno
  obtain ⟨g1, g2, g3⟩ := Oper.apart_spec hap
  have hex : execOp (({ a with defers := ds } : Act).put oj'.dst u).eval oy = execOp a.eval oy := by
    rw [execOp_put oy (fun cs b => hsel p.1 oy cs b hoy) _ oj'.dst u g3]
    rfl
  have hwa : Region.wanted oy (yielded ops (({ a with defers := ds } : Act).put oj'.dst u).tmps) = Region.wanted oy (yielded ops a.tmps) := by
    rw [wanted_put oy _ oj'.dst u g3]
  refine ⟨zkH hp.ready (Ne.symm hne), hp.al, fun oy' hoy' k ok hk hkp hun hno' => hp.free oy' hoy' k ok hk hkp ?_ hno', oy, hoy, ?_⟩
  · by_cases hjk : j = k
    · subst hjk; exact hjun
    · rw [getD_set_ne true hjk] at hun; exact hun
  · rw [hwa]
    rcases hm with ⟨h1, b, mk, arr, T, h2, h3, h4, h5, h6, h7⟩ | h1
    · have hlt : b < w.heap.size := (Array.getElem?_eq_some_iff.1 h5).1
      refine .inl ⟨h1, b, mk, arr, T, h2, fun w0 => ?_, h4, by rw [hb b h2 hlt h7]; exact h5, h6, hfr b h2 hlt h7⟩
      rw [hex]
      exact h3 w0
    · exact .inr h1
end
end Go.Mx
namespace Go.Mx
open Go Go.RowKit
section
variable {P : Program} {B N : Nat} {w1 w : World} {ι : Io} {S S' : St} {a : Act} {r : Rec} {ops : Array Oper} {rd rb : Option Nat} {Q : Exit → Act → World → Prop} {ex : Ex} {bar e : Bool} {Sx : World → Prop}
theorem ziM {env : List V} {len : Nat} : ∀ (parts : List (Nat × X)) (cs : List V), cs.length = len → (parts.all fun ix => Nat.blt ix.1 len && (match ix.2 with | .c v => zez v | _ => false)) = true → ∃ cs', zgN env 1 cs parts = some cs'
  | [], cs, _, _ => ⟨cs, rfl⟩
  | (i, x) :: r, cs, hl, h => by
    simp only [List.all_cons, Bool.and_eq_true] at h
    obtain ⟨⟨h1, h2⟩, h3⟩ := h
    have h1 := Nat.blt_eq.mp h1
    cases x with
    | c v =>
      simp only [] at h2
      have hle : Nat.ble (i * 1 + 1) cs.length = true := Nat.ble_eq_true_of_le (by omega)
      simp only [zgN, ev, Option.bind_some, V.cells, h2, cond_true, List.length_singleton, BEq.rfl, Bool.true_and, hle]
      exact ziM r _ (by rw [(zd2 cs [.lit v] (i * 1) (by have := Nat.le_of_ble_eq_true hle; simpa using this)).1]; exact hl) h3
    | _ => cases h2
theorem zmw (hE : zbs ι N S.env a) (o : Oper) (hs : zin (zau P o) = true) : ∃ mk arr T, zef P o a mk arr T := by
  have via : ∀ {r : V × zaj}, alI (zau P o) = true → eff 0 [] S.env (zau P o) = some r → ∃ mk arr T, zef P o a mk arr T := fun {r} hal he => by
    obtain ⟨mk, arr, T, cs, h1, _⟩ := zmN hE o hal he
    exact ⟨mk, arr, T, h1⟩
  cases hi : zau P o with
  | alloc z => exact via (r := (.ptr 0 0, [.blk (z.map .lit)])) (by rw [hi]; rfl) (by rw [hi]; rfl)
  | bsl n len z parts =>
    rw [hi] at hs
    simp only [zin, Bool.and_eq_true, beq_iff_eq] at hs
    obtain ⟨⟨rfl, hz⟩, hp⟩ := hs
    obtain ⟨cs', hc⟩ := ziM (env := S.env) parts (zhL len (z.map .lit)) (len := len) (by rw [(zc8 (z.map .lit) len 0).1]; simp [hz]) hp
    exact via (r := (.sl 0 0 1 len (some len), [.blk cs'])) (by rw [hi]; rfl) (by rw [hi]; simp only [eff, hc]; rfl)
  | box x0 =>
    obtain ⟨dst, op, type, pos, after, guard⟩ := o
    cases op with
    | box t x =>
      refine ⟨fun b => .pointer (some ⟨b, 0, none⟩), (a.eval x).cells, t, fun w0 => ?_⟩
      simp only [execOp, Instr.box, Sem.run_bind, Result.andThen_ok, newVar, newRow, run_newObj, Sem.run_pure]
      rfl
    | _ =>
      exfalso
      simp only [zau, zf9, Bool.cond_eq_ite] at hi
      repeat' (split at hi)
      all_goals first | (cases hi; done) | (simp_all; done)
  | _ => rw [hi] at hs; cases hs
theorem zef.same {o : Oper} {mk mk' : Nat → Value} {arr arr' : Array Value} {T T' : TypeId} (w : World) (h1 : zef P o a mk arr T) (h2 : zef P o a mk' arr' T') (b : Nat) : mk b = mk' b ∧ arr = arr' ∧ T = T' := by
  have := (h1 { w with heap := Array.replicate b (.cells #[] 0 (0, 0)) }).symm.trans (h2 { w with heap := Array.replicate b (.cells #[] 0 (0, 0)) })
  simp only [Array.size_replicate, Result.ok.injEq, Next.value.injEq, zaU, World.mk.injEq, Array.push_eq_push] at this
  obtain ⟨h3, h4⟩ := this
  simp at h4
  exact ⟨h3, h4.1, h4.2⟩
theorem zef.put {o oj : Oper} {mk : Nat → Value} {arr : Array Value} {T : TypeId} (hs : ∀ cs b, o.op ≠ .select cs b) (hap : o.apart ops oj = true) {u : Value} (h : zef P o (a.put oj.dst u) mk arr T) : zef P o a mk arr T := fun w0 => by
  obtain ⟨g1, g2, g3⟩ := Oper.apart_spec hap
  rw [← execOp_put o hs a oj.dst u g3]
  exact h w0
theorem zhY (hE : zbs ι N S.env a) (o : Oper) (hal : alI (zau P o) = true) {top : Bool} {k : St → Option (Ex × St)} (h : zbT r B bar top e S (irO P N ops o) k = some (ex, S')) :
    (Region.wanted o (yielded ops a.tmps) = false ∧ k (S.put o.dst zaF) = some (ex, S')) ∨
    (Region.wanted o (yielded ops a.tmps) = true ∧ ∃ v mk arr T cs, k ({ S with heap := S.heap ++ [Ob.blk cs] }.put o.dst v) = some (ex, S') ∧ zef P o a mk arr T ∧ zdP ι cs arr ∧ ∀ (ι' : Io) b, ι' S.heap.length = some (b, 0, arr.size) → VRel ι' v (mk b)) := by
  have hwe := zhF (P := P) (ops := ops) hE o
  unfold zbT at h
  cases hw : wanted S.env (irO P N ops o).g with
  | false => rw [hw] at h hwe; exact .inl ⟨hwe.symm, h⟩
  | true =>
    rw [hw] at h hwe
    have hi : (irO P N ops o).i = zau P o := rfl
    have hdst : (irO P N ops o).dst = o.dst := rfl
    simp only [hi, hdst] at h
    have hh : (match eff B S.heap S.env (zau P o) with | some (v, h) => k ({ S with heap := h }.put o.dst v) | none => none) = some (ex, S') := by
      generalize zau P o = i at h hal
      cases i <;> first | exact h | cases hal
    split at hh
    · rename_i v h' hv
      obtain ⟨mk, arr, T, cs, g1, rfl, g2, g3⟩ := zmN hE o hal hv
      exact .inr ⟨hwe.symm, v, mk, arr, T, cs, hh, g1, g2, g3⟩
    · cases hh
theorem zsA {j : Nat} {oj : Oper} (hj : ops[j]? = some oj) (hst : zme P ops j = true) {top : Bool} {k : St → Option (Ex × St)} (h : zbT r B bar top e S (irO P N ops oj) k = some (ex, S')) : oj.dst = none ∧ ∃ S1, k S1 = some (ex, S') ∧ S1.env = S.env ∧ S1.heap.length = S.heap.length := by
  simp only [zme, zcA, hj, Bool.and_eq_true, Option.isNone_iff_eq_none] at hst
  obtain ⟨h1, h2⟩ := hst
  refine ⟨h2, ?_⟩
  unfold zbT at h
  have hi : (irO P N ops oj).i = zau P oj := rfl
  have hdst : (irO P N ops oj).dst = oj.dst := rfl
  simp only [hi, hdst, h2, St.put] at h
  split at h
  · exact ⟨S, h, rfl, rfl⟩
  · generalize zau P oj = i at h1 h
    cases i <;> first | (cases h1; done) | skip
    simp only [zah, cond_false, eff] at h
    split at h
    · rename_i v h' he
      refine ⟨_, h, rfl, ?_⟩
      split at he
      · split at he
        · rw [Bool.cond_eq_ite] at he
          split at he
          · simp only [Option.some.injEq, Prod.mk.injEq] at he
            obtain ⟨_, rfl⟩ := he
            simp
          · cases he
        · cases he
      · cases he
    · cases h
theorem zlk (hF : FSim P N B w1 ι S a w) {dst : Option Nat} {v : V} {mk : Nat → Value} {arr : Array Value} {T : TypeId} {cs : List V} {b : Nat} (hb : w.heap[b]? = some (.cells arr T (0, 0))) (hlow : w1.heap.size ≤ b)
    (hfree : ∀ β o b' s sz, S.heap[β]? = some o → o.live → B ≤ β → ι β = some (b', s, sz) → b' ≠ b) (hL : zdP ι cs arr) (hv : ∀ (ι' : Io) b, ι' S.heap.length = some (b, 0, arr.size) → VRel ι' v (mk b)) :
    FSim P N B w1 (ι.ext S.heap.length (b, 0, arr.size)) ({ S with heap := S.heap ++ [Ob.blk cs] }.put dst v) (a.put dst (mk b)) w := by
  have hle := hF.sim.zci (b, 0, arr.size)
  have hS := hF.sim.zss (b := b) (s := 0) (sz := arr.size) (o := .blk cs) (w' := w) ⟨rfl, rfl, rfl, Nat.le_refl _, fun _ _ _ => rfl⟩ hlow hfree ⟨b, 0, arr.size, arr, T, (0, 0), Io.zaK _ _ _, hb, rfl, by rw [hL.1]; omega, fun k v hk => by
    obtain ⟨u, h1, h2, h3⟩ := hL.get hk
    exact ⟨u, by rw [Nat.zero_add]; exact h1, h2.mono hle, h3⟩, fun _ => rfl⟩
  exact (hF.heap hle hS).put (hv _ b (Io.zaK _ _ _))
theorem zh6 {i : Nat} {o : Oper} (ho : ops[i]? = some o) (hal : alI (zau P o) = true) (hm : Region.wanted o (yielded ops a.tmps) = true → ∃ mk arr T, zef P o a mk arr T) {K : Act → World → Prop}
    (h1 : ∀ mk arr T, Region.wanted o (yielded ops a.tmps) = true → zef P o a mk arr T → K (a.put o.dst (mk w.heap.size)) (zaU w (.cells arr T (0, 0)))) (h2 : Region.wanted o (yielded ops a.tmps) = false → K (a.put o.dst undef) w) : wpOpIn (FW rb) 0 P ops Q i K a w := by
  have hnd : ∀ c, o.op ≠ .defer c := by
    intro c hop
    unfold zau at hal
    rw [hop] at hal
    simp only [] at hal
    split at hal <;> cases hal
  cases hw : Region.wanted o (yielded ops a.tmps) with
  | false => exact zeS ho hw (h2 hw)
  | true =>
    obtain ⟨mk, arr, T, hmk⟩ := hm hw
    refine zeA (Kc' := fun u ds w' => u = mk w.heap.size ∧ ds = a.defers ∧ w' = zaU w (.cells arr T (0, 0))) (Kp' := fun _ _ => False) ho hw ?_ ?_ (fun _ _ h => h.elim)
    · unfold zfQ
      rw [Oper.semAt_eq rb a.eval o hnd, hmk w]
      exact ⟨rfl, rfl, rfl⟩
    · rintro u ds w' ⟨rfl, rfl, rfl⟩
      exact h1 mk arr T hw hmk
end
end Go.Mx
namespace Go.Mx
open Go Go.RowKit
section
variable {P : Program} {B N : Nat} {w1 w : World} {ι : Io} {S S' : St} {a : Act} {r : Rec} {ops : Array Oper} {rd rb : Option Nat} {Q : Exit → Act → World → Prop} {ex : Ex} {bar e : Bool} {Sx : World → Prop}
theorem zrr {j : Nat} (h : alI (zcA P ops j) = true) : ∃ oj, ops[j]? = some oj ∧ alI (zau P oj) = true := by
  cases hj : ops[j]? with
  | none => simp [zcA, hj, alI] at h
  | some oj => exact ⟨oj, rfl, by simpa [zcA, hj] using h⟩
theorem zoO {i : I} (h : alI i = true) : zeO bar i = true := by cases i <;> first | rfl | cases h
theorem ziX {i : I} (h : alI i = true) : zah i = false := by cases i <;> first | rfl | cases h
theorem ziE {y : Nat} {oy : Oper} (hoy : ops[y]? = some oy) (hsel : ∀ cs b, oy.op ≠ .select cs b) {top : Bool} (haly : alI (zau P oy) = true) : ∀ (l : List Nat) (k : Nat) (S : St) (ι : Io) (a : Act), zbs ι N S.env a → (∀ β x, ι β = some x → β < S.heap.length) → y ∈ l.take k →
    (∀ j ∈ l.take k, (alI (zcA P ops j) || zme P ops j) = true) →
    (∀ j ∈ l.take k, j ≠ y → zlQ ops y j = true) → zaE r B bar top e (l.flatMap (zkx P N ops)) S = some (ex, S') → Region.wanted oy (yielded ops a.tmps) = true → ∃ mk arr T, zef P oy a mk arr T
  | [], k, S, ι, a, _, _, hy, _, _, _, _ => by simp at hy
  | j :: l, 0, S, ι, a, _, _, hy, _, _, _, _ => by simp at hy
  | j :: l, k + 1, S, ι, a, hE, hsc, hy, hal, hap, h, hw => by
    rw [List.take_succ_cons] at hy hal hap
    have halj := hal j (by simp)
    rw [Bool.or_eq_true] at halj
    by_cases hjy : j = y
    · subst hjy
      have h := (zen hoy h).1
      rcases zhY (ops := ops) hE oy haly h with ⟨h1, _⟩ | ⟨_, v, mk, arr, T, cs, _, h2, _⟩
      · rw [h1] at hw; cases hw
      · exact ⟨mk, arr, T, h2⟩
    · have hy' : y ∈ l.take k := by
        rcases List.mem_cons.1 hy with h1 | h1
        · exact absurd h1.symm hjy
        · exact h1
      rcases halj with halj | halj
      · obtain ⟨oj, hoj, halj⟩ := zrr halj
        have h := (zen hoj h).1
        have hapj : oy.apart ops oj = true := by
          have := hap j (by simp) hjy
          simpa [zlQ, hoy, hoj] using this
        obtain ⟨g1, g2, g3⟩ := Oper.apart_spec hapj
        have hw' : ∀ u, Region.wanted oy (yielded ops (a.put oj.dst u).tmps) = true := fun u => by rw [wanted_put oy a oj.dst u g3]; exact hw
        have hput : ∀ {ι' : Io} {S0 : St} {v u}, zbs ι' N S0.env a → VRel ι' v u → zbs ι' N (S0.put oj.dst v).env (a.put oj.dst u) := fun {ι' S0 v u} h1 h2 => by
          cases hd : oj.dst with
          | none => exact h1
          | some d => exact h1.put h2
        have hheap : ∀ (S0 : St) v, (S0.put oj.dst v).heap = S0.heap := fun S0 v => by cases oj.dst <;> rfl
        rcases zhY (ops := ops) hE oj halj h with ⟨h1, h2⟩ | ⟨h1, v, mk, arr, T, cs, h2, h3, h4, h5⟩
        · obtain ⟨mk, arr, T, h3⟩ := ziE hoy hsel haly l k _ ι _ (hput hE (.lit undef)) (by rw [hheap]; exact hsc) hy' (fun i hi => hal i (by simp [hi])) (fun i hi => hap i (by simp [hi])) h2 (hw' _)
          exact ⟨mk, arr, T, h3.put hsel hapj⟩
        · have hle : Io.le ι (ι.ext S.heap.length (0, 0, arr.size)) := fun β x hx => by
            have := hsc β x hx
            simp only [Io.ext]
            rw [if_neg (by omega)]; exact hx
          obtain ⟨mk', arr', T', h6⟩ := ziE hoy hsel haly l k _ (ι.ext S.heap.length (0, 0, arr.size)) _ (hput (S0 := { S with heap := S.heap ++ [Ob.blk cs] }) (hE.mono hle) (h5 _ 0 (Io.zaK _ _ _))) (by
            rw [hheap]
            intro β x hx
            simp only [List.length_append, List.length_cons, List.length_nil]
            simp only [Io.ext] at hx
            split at hx
            · omega
            · have := hsc β x hx; omega) hy' (fun i hi => hal i (by simp [hi])) (fun i hi => hap i (by simp [hi])) h2 (hw' _)
          exact ⟨mk', arr', T', h6.put hsel hapj⟩
      · cases hoj : ops[j]? with
        | none => simp [zme, hoj] at halj
        | some oj =>
          have h := (zen hoj h).1
          obtain ⟨_, S1, h1, h2, h3⟩ := zsA hoj halj h
          exact ziE hoy hsel haly l k S1 ι a (by rw [h2]; exact hE) (by rw [h3]; exact hsc) hy' (fun i hi => hal i (by simp [hi])) (fun i hi => hap i (by simp [hi])) h1 hw
theorem zdX (n : Nat) : ∀ (Y : Pen) (M : Array Bool), (zeE Y M).setIfInBounds n true = zeE Y (M.setIfInBounds n true)
  | [], M => rfl
  | p :: Y, M => by
    simp only [zeE]
    by_cases h : p.1 = n
    · subst h
      rw [zdX p.1 Y M]
    · rw [Array.setIfInBounds_comm _ _ h, zdX n Y M]
theorem zeY {j : Nat} {d : Bool} : ∀ (Y : Pen) (M : Array Bool), j ∉ Y.map (·.1) → (zeE Y M).getD j d = M.getD j d
  | [], M, _ => rfl
  | p :: Y, M, h => by
    simp only [List.map_cons, List.mem_cons, not_or] at h
    simp only [zeE]
    rw [getD_set_ne _ (Ne.symm h.1), zeY Y M h.2]
theorem zgQ {j : Nat} : ∀ (Y : Pen) (M : Array Bool), M.getD j false = true → (zeE Y M).getD j false = true
  | [], M, h => h
  | p :: Y, M, h => getD_set_true (zgQ Y M h)
theorem zgG {j : Nat} : ∀ (Y : Pen) (M : Array Bool), (zeE Y M).getD j true = false → M.getD j true = false
  | [], M, h => h
  | p :: Y, M, h => by
    simp only [zeE] at h
    by_cases hp : p.1 = j
    · subst hp
      rcases Nat.lt_or_ge p.1 (zeE Y M).size with h2 | h2
      · simp [h2] at h
      · simp [Array.getElem?_eq_none h2, h2] at h
    · rw [getD_set_ne true hp] at h; exact zgG Y M h
theorem zk0 {j : Nat} : ∀ (Y : Pen) (M : Array Bool), (zeE Y M).getD j true = false → j ∉ Y.map (·.1)
  | [], M, h => by simp
  | p :: Y, M, h => by
    simp only [zeE] at h
    have hne : p.1 ≠ j := by
      rintro rfl
      rcases Nat.lt_or_ge p.1 (zeE Y M).size with h2 | h2
      · simp [h2] at h
      · simp [Array.getElem?_eq_none h2, h2] at h
    rw [getD_set_ne true hne] at h
    simp only [List.map_cons, List.mem_cons, not_or]
    exact ⟨Ne.symm hne, zk0 Y M h⟩
theorem zhP : ∀ (Y1 Y2 : Pen) (M : Array Bool), zeE (Y1 ++ Y2) M = zeE Y1 (zeE Y2 M)
  | [], _, _ => rfl
  | p :: Y1, Y2, M => by simp only [List.cons_append, zeE]; rw [zhP Y1 Y2 M]
theorem zgc : ∀ (Y1 Y2 : Pen) (a : Act), zcl ops (Y1 ++ Y2) a = zcl ops Y1 (zcl ops Y2 a)
  | [], _, _ => rfl
  | p :: Y1, Y2, a => by simp only [List.cons_append, zcl]; rw [zgc Y1 Y2 a]
theorem zgH : ∀ (Y : Pen) (M : Array Bool), zcZ ops M → (∀ p ∈ Y, p.1 ∈ Region.ready .any ops M) → (Y.map (·.1)).Nodup → zcZ ops (zeE Y M)
  | [], M, h, _, _ => h
  | p :: Y, M, h, hr, hn => by
    simp only [List.map_cons, List.nodup_cons] at hn
    have ih := zgH Y M h (fun q hq => hr q (by simp [hq])) hn.2
    refine zbH ih ?_
    obtain ⟨h1, o, h2, h3⟩ := mem_ready.1 (hr p (by simp))
    exact mem_ready.2 ⟨by rw [zeY Y M hn.1]; exact h1, o, h2, fun e he hb => zgQ Y M (h3 e he hb)⟩
theorem zfq {j : Nat} {Y : Pen} {M : Array Bool} (h : j ∈ Region.ready .any ops M) (hn : j ∉ Y.map (·.1)) : j ∈ Region.ready .any ops (zeE Y M) := by
  obtain ⟨h1, o, h2, h3⟩ := mem_ready.1 h
  exact mem_ready.2 ⟨by rw [zeY Y M hn]; exact h1, o, h2, fun e he hb => zgQ Y M (h3 e he hb)⟩
theorem zkg : ∀ (f : Nat) (M : Array Bool) (pl : List Nat × List Nat) (L : List Nat), zd9 bar P ops f M = some pl → L.Nodup → (∀ y ∈ L, y ∈ Region.ready .any ops M ∧ alI (zcA P ops y) = true) → L.length ≤ f
  | 0, M, pl, L, hp, hn, hL => by
    simp only [zd9] at hp
    split at hp
    · rename_i he
      cases L with
      | nil => simp
      | cons y L =>
        have := (hL y (by simp)).1
        simp at he
        rw [he] at this
        cases this
    · cases hp
  | f + 1, M, pl, L, hp, hn, hL => by
    have zdx : ∀ i pl', zd9 bar P ops f (M.setIfInBounds i true) = some pl' → i ∉ L → L.length ≤ f := fun i pl' hp' hi =>
      zkg f _ pl' L hp' hn fun y hy => ⟨ready_mono (hL y hy).1 (fun h => hi (h ▸ hy)), (hL y hy).2⟩
    have drop : ∀ i pl', zd9 bar P ops f (M.setIfInBounds i true) = some pl' → L.length ≤ f + 1 := fun i pl' hp' => by
      by_cases hi : i ∈ L
      · have h1 := zkg f _ pl' (L.erase i) hp' (hn.erase i) fun y hy => by
          have hy' := List.mem_of_mem_erase hy
          refine ⟨ready_mono (hL y hy').1 (fun h => ?_), (hL y hy').2⟩
          subst h
          exact (List.Nodup.not_mem_erase hn) hy
        rw [List.length_erase_of_mem hi] at h1
        omega
      · have := zdx i pl' hp' hi; omega
    simp only [zd9] at hp
    split at hp
    · rename_i i hfind
      simp only [Option.map_eq_some_iff] at hp
      obtain ⟨pl', hp', rfl⟩ := hp
      exact drop i pl' hp'
    · split at hp
      · rename_i hr0
        cases L with
        | nil => simp
        | cons y L => have := (hL y (by simp)).1; rw [hr0] at this; cases this
      · rename_i i hr0
        have : L.length ≤ 1 := by
          have hsub : L ⊆ [i] := fun y hy => by have := (hL y hy).1; rw [hr0] at this; exact this
          match L, hn, hsub with
          | [], _, _ => simp
          | [_], _, _ => simp
          | y :: z :: L, hn, hsub =>
            have h1 := hsub (show y ∈ y :: z :: L by simp)
            have h2 := hsub (show z ∈ y :: z :: L by simp)
            simp only [List.mem_singleton] at h1 h2
            subst h1
            subst h2
            simp at hn
        omega
      · rename_i i j l hr0
        cases hok : okN bar P ops M (i :: j :: l) (zie bar P ops M (i :: j :: l)) with
        | false => simp only [hok, cond_false] at hp; cases hp
        | true =>
          simp only [hok, cond_true] at hp
          split at hp
          · rename_i pl' hp'
            exact drop _ pl' hp'
          · cases hp
end
end Go.Mx
