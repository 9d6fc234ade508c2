/-
  Regions that draw their order: one operation that makes a block, in the machine and ahead of it. Conditions: none.
-/
import Derived.Test.YtobhjbbinnbdaaaMxB
namespace Go.Mx
open Go Go.RowKit
set_option linter.unusedSimpArgs false
set_option linter.unusedVariables false

section
variable {P : Program} {B N : Nat} {w1 w : World} {ι : Io} {S S' : St} {a : Act} {r : Rec} {ops : Array Oper} {rd rb : Option Nat} {Q : Exit → Act → World → Prop} {ex : Ex} {bar e : Bool} {Sx : World → Prop}

theorem sure_fill {env : List V} {len : Nat} : ∀ (parts : List (Nat × X)) (cs : List V), cs.length = len → (parts.all fun ix => Nat.blt ix.1 len && (match ix.2 with | .c v => oneV v | _ => false)) = true → ∃ cs', fillS env 1 cs parts = some cs'
  | [], cs, _, _ => ⟨cs, rfl⟩
  | (i, x) :: r, cs, hl, h => by
    simp only [List.all_cons, Bool.and_eq_true] at h
    obtain ⟨⟨h1, h2⟩, h3⟩ := h
    have h1 := Nat.blt_eq.mp h1
    cases x with
    | c v =>
      simp only [] at h2
      have hle : Nat.ble (i * 1 + 1) cs.length = true := Nat.ble_eq_true_of_le (by omega)
      simp only [fillS, ev, Option.bind_some, V.cells, h2, cond_true, List.length_singleton, BEq.rfl, Bool.true_and, hle]
      exact sure_fill r _ (by rw [(putAt_get cs [.lit v] (i * 1) (by have := Nat.le_of_ble_eq_true hle; simpa using this)).1]; exact hl) h3
    | _ => cases h2
theorem sure_makes (hE : ERel ι N S.env a) (o : Oper) (hs : sureI (irOp P o) = true) : ∃ mk arr T, Makes P o a mk arr T := by
  have via : ∀ {r : V × Heap}, alI (irOp P o) = true → eff 0 [] S.env (irOp P o) = some r → ∃ mk arr T, Makes P o a mk arr T := fun {r} hal he => by
    obtain ⟨mk, arr, T, cs, h1, _⟩ := a_sound hE o hal he
    exact ⟨mk, arr, T, h1⟩
  cases hi : irOp P o with
  | alloc z => exact via (r := (.ptr 0 0, [.blk (z.map .lit)])) (by rw [hi]; rfl) (by rw [hi]; rfl)
  | bsl n len z parts =>
    rw [hi] at hs
    simp only [sureI, Bool.and_eq_true, beq_iff_eq] at hs
    obtain ⟨⟨rfl, hz⟩, hp⟩ := hs
    obtain ⟨cs', hc⟩ := sure_fill (env := S.env) parts (reps len (z.map .lit)) (len := len) (by rw [(reps_get (z.map .lit) len 0).1]; simp [hz]) hp
    exact via (r := (.sl 0 0 1 len (some len), [.blk cs'])) (by rw [hi]; rfl) (by rw [hi]; simp only [eff, hc]; rfl)
  | box x0 =>
    obtain ⟨dst, op, type, pos, after, guard⟩ := o
    cases op with
    | box t x =>
      refine ⟨fun b => .pointer (some ⟨b, 0, none⟩), (a.eval x).cells, t, fun w0 => ?_⟩
      simp only [execOp, Instr.box, Sem.run_bind, Result.andThen_ok, newVar, newRow, run_newObj, Sem.run_pure]
      rfl
    | _ =>
      exfalso
      simp only [irOp, irCall, Bool.cond_eq_ite] at hi
      repeat' (split at hi)
      all_goals first | (cases hi; done) | (simp_all; done)
  | _ => rw [hi] at hs; cases hs
theorem Makes.same {o : Oper} {mk mk' : Nat → Value} {arr arr' : Array Value} {T T' : TypeId} (w : World) (h1 : Makes P o a mk arr T) (h2 : Makes P o a mk' arr' T') (b : Nat) : mk b = mk' b ∧ arr = arr' ∧ T = T' := by
  have := (h1 { w with heap := Array.replicate b (.cells #[] 0 (0, 0)) }).symm.trans (h2 { w with heap := Array.replicate b (.cells #[] 0 (0, 0)) })
  simp only [Array.size_replicate, Result.ok.injEq, Next.value.injEq, newBlk, World.mk.injEq, Array.push_eq_push] at this
  obtain ⟨h3, h4⟩ := this
  simp at h4
  exact ⟨h3, h4.1, h4.2⟩
theorem Makes.put {o oj : Oper} {mk : Nat → Value} {arr : Array Value} {T : TypeId} (hs : ∀ cs b, o.op ≠ .select cs b) (hap : o.apart ops oj = true) {u : Value} (h : Makes P o (a.put oj.dst u) mk arr T) : Makes P o a mk arr T := fun w0 => by
  obtain ⟨g1, g2, g3⟩ := Oper.apart_spec hap
  rw [← execOp_put o hs a oj.dst u g3]
  exact h w0
/-- The machine makes a block. -/
theorem al_step (hE : ERel ι N S.env a) (o : Oper) (hal : alI (irOp P o) = true) {top : Bool} {k : St → Option (Ex × St)} (h : stepO r B bar top e S (irO P N ops o) k = some (ex, S')) :
    (Region.wanted o (yielded ops a.tmps) = false ∧ k (S.put o.dst undefV) = some (ex, S')) ∨
    (Region.wanted o (yielded ops a.tmps) = true ∧ ∃ v mk arr T cs, k ({ S with heap := S.heap ++ [Ob.blk cs] }.put o.dst v) = some (ex, S') ∧ Makes P o a mk arr T ∧ LRel ι cs arr ∧ ∀ (ι' : Io) b, ι' S.heap.length = some (b, 0, arr.size) → VRel ι' v (mk b)) := by
  have hwe := wanted_eqE (P := P) (ops := ops) hE o
  unfold stepO at h
  cases hw : wanted S.env (irO P N ops o).g with
  | false => rw [hw] at h hwe; exact .inl ⟨hwe.symm, h⟩
  | true =>
    rw [hw] at h hwe
    have hi : (irO P N ops o).i = irOp P o := rfl
    have hdst : (irO P N ops o).dst = o.dst := rfl
    simp only [hi, hdst] at h
    have hh : (match eff B S.heap S.env (irOp P o) with | some (v, h) => k ({ S with heap := h }.put o.dst v) | none => none) = some (ex, S') := by
      generalize irOp P o = i at h hal
      cases i <;> first | exact h | cases hal
    split at hh
    · rename_i v h' hv
      obtain ⟨mk, arr, T, cs, g1, rfl, g2, g3⟩ := a_sound hE o hal hv
      exact .inr ⟨hwe.symm, v, mk, arr, T, cs, hh, g1, g2, g3⟩
    · cases hh
/-- The machine writes, and makes nothing. -/
theorem st_step {j : Nat} {oj : Oper} (hj : ops[j]? = some oj) (hst : stAt P ops j = true) {top : Bool} {k : St → Option (Ex × St)} (h : stepO r B bar top e S (irO P N ops oj) k = some (ex, S')) : oj.dst = none ∧ ∃ S1, k S1 = some (ex, S') ∧ S1.env = S.env ∧ S1.heap.length = S.heap.length := by
  simp only [stAt, irAt, hj, Bool.and_eq_true, Option.isNone_iff_eq_none] at hst
  obtain ⟨h1, h2⟩ := hst
  refine ⟨h2, ?_⟩
  unfold stepO at h
  have hi : (irO P N ops oj).i = irOp P oj := rfl
  have hdst : (irO P N ops oj).dst = oj.dst := rfl
  simp only [hi, hdst, h2, St.put] at h
  split at h
  · exact ⟨S, h, rfl, rfl⟩
  · generalize irOp P oj = i at h1 h
    cases i <;> first | (cases h1; done) | skip
    simp only [quietI, cond_false, eff] at h
    split at h
    · rename_i v h' he
      refine ⟨_, h, rfl, ?_⟩
      split at he
      · split at he
        · rw [Bool.cond_eq_ite] at he
          split at he
          · simp only [Option.some.injEq, Prod.mk.injEq] at he
            obtain ⟨_, rfl⟩ := he
            simp
          · cases he
        · cases he
      · cases he
    · cases h
/-- The machine takes up a block that lies there. -/
theorem al_adopt (hF : FSim P N B w1 ι S a w) {dst : Option Nat} {v : V} {mk : Nat → Value} {arr : Array Value} {T : TypeId} {cs : List V} {b : Nat} (hb : w.heap[b]? = some (.cells arr T (0, 0))) (hlow : w1.heap.size ≤ b)
    (hfree : ∀ β o b' s sz, S.heap[β]? = some o → o.live → B ≤ β → ι β = some (b', s, sz) → b' ≠ b) (hL : LRel ι cs arr) (hv : ∀ (ι' : Io) b, ι' S.heap.length = some (b, 0, arr.size) → VRel ι' v (mk b)) :
    FSim P N B w1 (ι.ext S.heap.length (b, 0, arr.size)) ({ S with heap := S.heap ++ [Ob.blk cs] }.put dst v) (a.put dst (mk b)) w := by
  have hle := hF.sim.le_ext (b, 0, arr.size)
  have hS := hF.sim.adopt (b := b) (s := 0) (sz := arr.size) (o := .blk cs) (w' := w) ⟨rfl, rfl, rfl, Nat.le_refl _, fun _ _ _ => rfl⟩ hlow hfree ⟨b, 0, arr.size, arr, T, (0, 0), Io.ext_self _ _ _, hb, rfl, by rw [hL.1]; omega, fun k v hk => by
    obtain ⟨u, h1, h2, h3⟩ := hL.get hk
    exact ⟨u, by rw [Nat.zero_add]; exact h1, h2.mono hle, h3⟩, fun _ => rfl⟩
  exact (hF.heap hle hS).put (hv _ b (Io.ext_self _ _ _))
/-- The world makes a block. -/
theorem al_world {i : Nat} {o : Oper} (ho : ops[i]? = some o) (hal : alI (irOp P o) = true) (hm : Region.wanted o (yielded ops a.tmps) = true → ∃ mk arr T, Makes P o a mk arr T) {K : Act → World → Prop}
    (h1 : ∀ mk arr T, Region.wanted o (yielded ops a.tmps) = true → Makes P o a mk arr T → K (a.put o.dst (mk w.heap.size)) (newBlk w (.cells arr T (0, 0)))) (h2 : Region.wanted o (yielded ops a.tmps) = false → K (a.put o.dst undef) w) : wpOpIn (FW rb) 0 P ops Q i K a w := by
  have hnd : ∀ c, o.op ≠ .defer c := by
    intro c hop
    unfold irOp at hal
    rw [hop] at hal
    simp only [] at hal
    split at hal <;> cases hal
  cases hw : Region.wanted o (yielded ops a.tmps) with
  | false => exact wpOp_skip ho hw (h2 hw)
  | true =>
    obtain ⟨mk, arr, T, hmk⟩ := hm hw
    refine wpOp_effect (Kc' := fun u ds w' => u = mk w.heap.size ∧ ds = a.defers ∧ w' = newBlk w (.cells arr T (0, 0))) (Kp' := fun _ _ => False) ho hw ?_ ?_ (fun _ _ h => h.elim)
    · unfold ENext
      rw [Oper.semAt_eq rb a.eval o hnd, hmk w]
      exact ⟨rfl, rfl, rfl⟩
    · rintro u ds w' ⟨rfl, rfl, rfl⟩
      exact h1 mk arr T hw hmk
end
end Go.Mx
