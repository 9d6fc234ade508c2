/-
  Operations that make memory or write it: the machine's memory stands for the world's. Conditions: none.
-/
import Derived.Test.YtobhjbbinnbdaaaNnMx5
namespace Go.Mx
open Go Go.RowKit
section
variable {P : Program} {B N : Nat} {w1 w : World} {ι : Io} {h : zaj} {env : List V} {a : Act}
def zqJ (env : List V) (i : I) : Option Nat := ((zmC i).bind (ev env)).bind zmR
def zqS (B : Nat) (h : zaj) (ι : Io) (w w' : World) (t : Option Nat) : Prop := ∃ ob : Option Nat, (∀ γ, γ < w.heap.size → some γ ≠ ob → w'.heap[γ]? = w.heap[γ]?) ∧ ∀ b, ob = some b → ∃ β s sz o, t = some β ∧ ι β = some (b, s, sz) ∧ h[β]? = some o ∧ o.live ∧ B ≤ β
theorem zqS.za7 {w w' : World} {t : Option Nat} (hb : Below w.heap.size w w') : zqS B h ι w w' t := ⟨none, fun γ hγ _ => hb.block γ hγ, fun b hb => by cases hb⟩
theorem zqS.zhr {w w' : World} {t : Option Nat} {b β s sz : Nat} {cs : List V} (hk : ∀ γ, γ ≠ b → w'.heap[γ]? = w.heap[γ]?) (ht : t = some β) (hι : ι β = some (b, s, sz)) (hcs : zaD h β = some cs) (hB : B ≤ β) : zqS B h ι w w' t :=
  ⟨some b, fun γ _ hne => hk γ (fun h => hne (by rw [h])), fun b' hb => by cases hb; exact ⟨β, s, sz, _, ht, hι, zcB hcs, trivial, hB⟩⟩
def EOk (P : Program) (B : Nat) (w1 : World) (ι : Io) (a : Act) (w : World) (o : Oper) (v : V) (h' : zaj) (ext : Bool) (h : zaj) (t : Option Nat) : Prop :=
  ∃ u w' ι', ((execOp a.eval o).run P w = .ok (.value u) w' ∨ ((execOp a.eval o).run P w = .ok .skip w' ∧ u = undef)) ∧ Io.le ι ι' ∧ Sim P B w1 ι' h' w' ∧ VRel ι' v u ∧ (ext = true → Below w.heap.size w w') ∧ zqS B h ι w w' t
theorem zn3 {b : Nat} {o : Obj} (hb : w.heap[b]? = some o) : zgU w b o = w := by
  unfold zgU
  have : w.heap.setIfInBounds b o = w.heap := by
    apply Array.ext_getElem?
    intro i
    by_cases hi : b = i
    · subst hi
      rw [Array.getElem?_setIfInBounds_self_of_lt (zbc hb), hb]
    · rw [Array.getElem?_setIfInBounds_ne hi]
  rw [this]
theorem zmg {b off : Nat} {arr : Array Value} {T : TypeId} (hb : w.heap[b]? = some (.cells arr T (0, 0))) (v : Value) : w.setCell ⟨b, off, none⟩ v = zgU w b (.cells (arr.setIfInBounds off v) T (0, 0)) := by
  unfold World.setCell zgU
  congr 1
  apply Array.ext_getElem?
  intro i
  by_cases hi : b = i
  · subst hi
    rw [Array.getElem?_setIfInBounds_self_of_lt (zbc hb)]
    simp [Array.getElem?_modify, hb]
  · rw [Array.getElem?_setIfInBounds_ne hi, Array.getElem?_modify, if_neg hi]
theorem zn4 (b : Nat) (o o' : Obj) : zgU (zgU w b o) b o' = zgU w b o' := by
  unfold zgU
  congr 1
  apply Array.ext_getElem?
  intro i
  by_cases hi : b = i
  · subst hi; simp
  · simp [Array.getElem?_setIfInBounds_ne hi]
theorem zdg {b off : Nat} {T : TypeId} : ∀ (vs : List Value) (i : Nat) (arr : Array Value) (w : World), w.heap[b]? = some (.cells arr T (0, 0)) → (∀ v ∈ vs, v.oneCell' = true) → off + i + vs.length ≤ arr.size →
    (storeCells ⟨b, off, none⟩ vs i).run P w = .ok () (zgU w b (.cells ((vs.zipIdx i).foldl (fun cs x => cs.setIfInBounds (off + x.2) x.1) arr) T (0, 0)))
  | [], i, arr, w, hb, _, _ => by
    simp only [storeCells, List.zipIdx_nil, List.foldl_nil, zn3 hb]
    rfl
  | v :: vs, i, arr, w, hb, h1, hl => by
    simp only [List.length_cons] at hl
    have hlt : off + i < arr.size := by omega
    have hc : w.cell? ⟨b, off + i, none⟩ = some arr[off + i] := zia hb (Array.getElem?_eq_getElem hlt)
    have hf : w.frozen? ⟨b, off + i, none⟩ = false := by simp [World.frozen?, hb]
    simp only [storeCells, Sem.run_bind, zcr, run_store P w _ v _ (h1 v List.mem_cons_self), hc, hf, Bool.false_eq_true, if_false, Result.andThen_ok, zmg hb]
    have h' : (zgU w b (.cells (arr.setIfInBounds (off + i) v) T (0, 0))).heap[b]? = some (.cells (arr.setIfInBounds (off + i) v) T (0, 0)) := zgs _ (zbc hb)
    rw [zdg vs (i + 1) _ _ h' (fun u hu => h1 u (List.mem_cons_of_mem _ hu)) (by simp; omega), zn4]
    simp [List.zipIdx_cons]
def zjO (arr : Array Value) (off : Nat) (vs : List Value) : Array Value := (vs.zipIdx 0).foldl (fun cs x => cs.setIfInBounds (off + x.2) x.1) arr
theorem zhw (arr : Array Value) (off : Nat) (vs : List Value) (h : off + vs.length ≤ arr.size) : (zjO arr off vs).size = arr.size ∧
    ∀ i, (zjO arr off vs)[i]? = if off ≤ i ∧ i < off + vs.length then vs[i - off]? else arr[i]? := by
  have := zgf off vs 0 arr (by omega)
  simpa [zjO] using this
theorem zdP.zuO {l : List V} {arr : Array Value} (hL : zdP ι l arr) : ∀ v ∈ arr.toList, v.oneCell' = true := by
  intro v hv
  obtain ⟨i, hi, rfl⟩ := List.getElem_of_mem hv
  have hi' : i < l.length := by rw [← hL.1]; simpa using hi
  have hi2 : i < arr.size := by simpa using hi
  exact (hL.2 i l[i] _ (List.getElem?_eq_getElem hi') (Array.getElem?_eq_getElem hi2)).2
theorem Sim.zff (hS : Sim P B w1 ι h w) {β o : Nat} {cs l : List V} {narr : Array Value} (hβ : zaD h β = some cs) (hB : B ≤ β) (hL : zdP ι l narr) (hle : o + l.length ≤ cs.length) {b s sz : Nat} (hι : ι β = some (b, s, sz)) :
    ∃ w', (storeCells ⟨b, s + o, none⟩ narr.toList 0).run P w = .ok () w' ∧ Sim P B w1 ι (h.set β (.blk (za1 cs o l))) w' ∧ ∀ γ, γ ≠ b → w'.heap[γ]? = w.heap[γ]? := by
  obtain ⟨b', s', sz', arr, T, fr, k1, k2, k3, k4, k5, k6⟩ := hS.cells hβ
  rw [hι] at k1; cases k1
  have hfr := k6 hB
  subst hfr
  have hsz : narr.toList.length = l.length := by simpa using hL.1
  have hrun := zdg (P := P) (b := b) (off := s + o) (T := T) narr.toList 0 arr w k2 hL.zuO (by omega)
  refine ⟨_, hrun, ?_, fun γ hγ => by unfold zgU; exact Array.getElem?_setIfInBounds_ne (Ne.symm hγ)⟩
  obtain ⟨p1, p2⟩ := zhw arr (s + o) narr.toList (by omega)
  obtain ⟨q1, q2⟩ := zd2 cs l o hle
  have hb := zcB hβ
  refine hS.change (o' := .blk _) hb trivial hB hι (zcL _ _ _) ⟨b, s, sz, _, T, (0, 0), hι, zgs _ (zbc k2), p1.trans k3, by rw [q1]; exact k4, fun k v hk => ?_, fun _ => rfl⟩
  rw [q2 k] at hk
  have hp := p2 (s + k)
  unfold zjO at hp
  rw [hp, hsz]
  split at hk
  · rename_i hc
    rw [if_pos (by omega)]
    obtain ⟨u, g1, g2, g3⟩ := hL.get hk
    exact ⟨u, by have : s + k - (s + o) = k - o := by omega
                 rw [this]; simpa using g1, g2, g3⟩
  · rename_i hc
    rw [if_neg (by omega)]
    exact k5 k v hk
theorem zsg (hS : Sim P B w1 ι h w) {o : Oper} {t : TypeId} (ho : o.op = .alloc t) {z : List Value} (hz : zeb P t = some z) (hone : z.all zez = true) {v : V} {h' : zaj} {x : Bool} {t0 : Option Nat}
    (he : eff B h env (.alloc z) = some (v, h')) : EOk P B w1 ι a w o v h' x h t0 := by
  simp only [eff, Option.some.injEq, Prod.mk.injEq] at he
  obtain ⟨rfl, rfl⟩ := he
  obtain ⟨zv, hzv, rfl⟩ := zbP hz
  have hL : zdP ι (zv.cells.toList.map .lit) zv.cells := by simpa using zf1 (ι := ι) _ hone
  have hrun : (execOp a.eval o).run P w = .ok (.value (.pointer (some ⟨w.heap.size, 0, none⟩))) (zaU w (.cells zv.cells t (0, 0))) := by
    simp only [execOp, ho, Instr.alloc, Sem.run_bind, zaJ hzv, Result.andThen_ok, newVar, newRow, run_newObj, Sem.run_pure]
    rfl
  exact ⟨_, _, _, .inl hrun, hS.zci _, hS.zf2 hL, .ptr _ _ w.heap.size 0 zv.cells.size (Io.zaK _ _ _), fun _ => zat _ _, .za7 (zat _ _)⟩
theorem zvc (hS : Sim P B w1 ι h w) (hE : zbs ι N env a) {o : Oper} {t : TypeId} {y : Operand} (ho : o.op = .box t y) {v : V} {h' : zaj} {x : Bool} {t0 : Option Nat}
    (he : eff B h env (.box (opX y)) = some (v, h')) : EOk P B w1 ι a w o v h' x h t0 := by
  simp only [eff] at he
  split at he
  · rename_i l hl
    simp only [Option.some.injEq, Prod.mk.injEq] at he
    obtain ⟨rfl, rfl⟩ := he
    obtain ⟨v1, h1, h2⟩ := Option.bind_eq_some_iff.1 hl
    have hL := zdp (zac hE h1) h2
    have hrun : (execOp a.eval o).run P w = .ok (.value (.pointer (some ⟨w.heap.size, 0, none⟩))) (zaU w (.cells (a.eval y).cells t (0, 0))) := by
      simp only [execOp, ho, Instr.box, Sem.run_bind, Result.andThen_ok, newVar, newRow, run_newObj, Sem.run_pure]
      rfl
    exact ⟨_, _, _, .inl hrun, hS.zci _, hS.zf2 hL, .ptr _ _ w.heap.size 0 (a.eval y).cells.size (Io.zaK _ _ _), fun _ => zat _ _, .za7 (zat _ _)⟩
  · cases he
theorem zc8 (z : List V) : ∀ (n i : Nat), (zhL n z).length = n * z.length ∧ (i < n * z.length → (zhL n z)[i]? = z[i % z.length]?)
  | 0, i => by simp [zhL]
  | n + 1, i => by
    obtain ⟨h1, _⟩ := zc8 z n i
    have hr : zhL (n + 1) z = z ++ zhL n z := by simp [zhL, List.replicate_succ]
    rw [hr]
    refine ⟨by simp [h1, Nat.succ_mul]; omega, fun hi => ?_⟩
    rw [List.getElem?_append]
    split
    · rename_i hlt; rw [Nat.mod_eq_of_lt hlt]
    · rename_i hge
      have hz : 0 < z.length := by
        rcases Nat.eq_zero_or_pos z.length with h0 | h0
        · simp [h0] at hi
        · exact h0
      have hlt : i - z.length < n * z.length := by rw [Nat.succ_mul] at hi; omega
      rw [(zc8 z n (i - z.length)).2 hlt]
      have : i = (i - z.length) + z.length := by omega
      conv => rhs; rw [this, Nat.add_mod_right]
theorem zfd {z : List Value} (hone : z.all zez = true) (n : Nat) (zv : Array Value) (hz : zv.toList = z) : zdP ι (zhL n (z.map .lit)) ((Array.range (n * zv.size)).map (zv[· % zv.size]!)) := by
  have hlen : zv.size = z.length := by rw [← hz]; simp
  refine ⟨by simp [(zc8 (z.map .lit) n 0).1, hlen], fun i x v hx hv => ?_⟩
  have hi : i < n * z.length := by
    have := (List.getElem?_eq_some_iff.1 hx).1
    rw [(zc8 (z.map .lit) n 0).1] at this
    simpa using this
  rw [(zc8 (z.map .lit) n i).2 (by simpa using hi)] at hx
  simp only [List.length_map, List.getElem?_map, Option.map_eq_some_iff] at hx
  obtain ⟨u, hu, rfl⟩ := hx
  have hm : i % zv.size < zv.size := by rw [hlen]; exact (List.getElem?_eq_some_iff.1 hu).1
  have hvu : v = u := by
    have h2 : zv[i % zv.size]! = u := by
      rw [getElem!_pos zv _ hm]
      have : zv.toList[i % zv.size]? = some u := by rw [hz, hlen]; exact hu
      simpa [hm] using this
    simp only [Array.getElem?_map, Option.map_eq_some_iff] at hv
    obtain ⟨j, hj, rfl⟩ := hv
    have : j = i := by
      have := Array.getElem?_eq_some_iff.1 hj
      obtain ⟨_, h5⟩ := this
      simpa using h5.symm
    subst this
    exact h2
  subst hvu
  have hone' := List.all_eq_true.1 hone v (List.mem_of_getElem? hu)
  exact ⟨.lit _, by cases v <;> first | rfl | (simp [zez] at hone')⟩
theorem zh5 (n : Nat) : ∀ (parts : List (Nat × X)) (cs : List V), zgN env n cs parts = zdW env cs (parts.map fun ix => (ix.1 * n, n, ix.2))
  | [], cs => rfl
  | (i, x) :: r, cs => by
    simp only [zgN, List.map_cons, zdW]
    split
    · rw [zh5 n r]
    · rfl
theorem zeo (f : Nat → Value) : (Array.range 0).map f = #[] := by
  apply Array.ext
  · simp
  · intro i h1; simp at h1
theorem zvg (hS : Sim P B w1 ι h w) (hE : zbs ι N env a) {o : Oper} {t el : TypeId} {len : Nat} {parts : Array (Nat × Operand)} (ho : o.op = .buildSlice t len parts) (hs : P.underlying t = some (.slice el)) (ht : zb0 P el = true)
    (hn : 0 < P.cellsOf el) (hbig : len * P.cellsOf el ≤ 16777216) {z : List Value} (hz : zeb P el = some z) (hone : z.all zez = true) (hzl : z.length = P.cellsOf el) {v : V} {h' : zaj} {x : Bool} {t0 : Option Nat}
    (he : eff B h env (.bsl (P.cellsOf el) len z (parts.toList.map fun ix => (ix.1, opX ix.2))) = some (v, h')) : EOk P B w1 ι a w o v h' x h t0 := by
  simp only [eff] at he
  split at he
  · rename_i cs hf
    simp only [Option.some.injEq, Prod.mk.injEq] at he
    obtain ⟨rfl, rfl⟩ := he
    obtain ⟨zv, hzv, hzc⟩ := zbP hz
    simp only [zb0, Bool.and_eq_true] at ht
    have hzs : zv.cells.size = P.cellsOf el := by rw [← hzl, ← hzc]; simp
    rw [zh5, List.map_map] at hf
    obtain ⟨arr', h1, h2⟩ := zb5 hE (place := fun i => some (i * P.cellsOf el, P.cellsOf el)) (off := fun i => i * P.cellsOf el) (size := fun _ => P.cellsOf el)
      parts.toList _ cs ((Array.range (len * zv.cells.size)).map (zv.cells[· % zv.cells.size]!)) (fun ix _ => rfl) (zfd hone len zv.cells hzc) hf
    have hsz : arr'.size = len * P.cellsOf el := by
      have : ∀ (ps : List (Nat × Nat × X)) (cs cs' : List V), zdW env cs ps = some cs' → cs'.length = cs.length := by
        intro ps
        induction ps with
        | nil => intro cs cs' hh; simp only [zdW, Option.some.injEq] at hh; rw [hh]
        | cons y ys ih =>
          intro cs cs' hh
          obtain ⟨y1, y2, y3⟩ := y
          simp only [zdW] at hh
          split at hh
          · rename_i l _
            cases hb : (l.length == y2) && Nat.ble (y1 + y2) cs.length with
            | false => simp only [hb, cond_false] at hh; cases hh
            | true =>
              simp only [hb, cond_true] at hh
              simp only [Bool.and_eq_true, beq_iff_eq] at hb
              rw [ih _ _ hh, (zd2 cs l y1 (by have := Nat.le_of_ble_eq_true hb.2; omega)).1]
          · cases hh
      rw [h2.1, this _ _ _ hf, (zc8 _ _ 0).1]
      simp [hzl]
    have hp2 : (parts.map fun ix => (ix.1, a.eval ix.2)).toList = parts.toList.map fun ix => (ix.1, a.eval ix.2) := by simp
    have hrun : (execOp a.eval o).run P w = .ok (.value (.slice (some ⟨w.heap.size, 0, none⟩) len len)) (zaU w (.cells arr' el (0, 0))) := by
      have h1' : Instr.fill (fun i => some (i * P.cellsOf el, P.cellsOf el)) ((Array.range (len * P.cellsOf el)).map (zv.cells[· % zv.cells.size]!)) (parts.map fun ix => (ix.1, a.eval ix.2)).toList = some arr' := by
        rw [hp2, ← hzs]; rw [hzs]; rw [hzs] at h1; exact h1
      have hbig' : ¬ (len * P.cellsOf el > 2 ^ 24) := by omega
      simp only [execOp, ho, Instr.buildSlice, Sem.run_bind, zae hs, zar ht.1, Result.andThen_ok, hbig', if_false]
      by_cases h0 : len * P.cellsOf el = 0
      · have hfill0 : Instr.fill (fun i => some (i * P.cellsOf el, P.cellsOf el)) ((Array.range (len * P.cellsOf el)).map ((#[] : Array Value)[· % (#[] : Array Value).size]!)) (parts.map fun ix => (ix.1, a.eval ix.2)).toList = some arr' := by
          rw [h0, zeo] at h1' ⊢
          exact h1'
        rw [if_pos h0]
        simp only [Sem.run_pure, Result.andThen_ok, hfill0, newRow, Sem.run_bind, run_newObj]
        rfl
      · rw [if_neg h0]
        simp only [Sem.run_bind, zaJ hzv, Sem.run_pure, Result.andThen_ok, h1', newRow, run_newObj]
        rfl
    refine ⟨_, _, _, .inl hrun, hS.zci _, hS.zf2 h2, ?_, fun _ => zat _ _, .za7 (zat _ _)⟩
    have := VRel.sl (ι := ι.ext h.length (w.heap.size, 0, arr'.size)) h.length 0 (P.cellsOf el) len (some len) w.heap.size 0 arr'.size len (Io.zaK _ _ _) (by rw [hsz]; omega) (Nat.le_refl _) (by
      have := Nat.le_mul_of_pos_right len hn
      omega) hn (by simp) (by simp)
    simpa using this
  · cases he
theorem zr7 (hS : Sim P B w1 ι h w) (hE : zbs ι N env a) {o : Oper} {t : TypeId} {x y : Operand} (ho : o.op = .store t x y) (ht : zb0 P t = true) {v : V} {h' : zaj}
    (he : eff B h env (.store (P.cellsOf t) (opX x) (opX y)) = some (v, h')) : EOk P B w1 ι a w o v h' false h (((ev env (opX x))).bind zmR) := by
  simp only [zb0, Bool.and_eq_true] at ht
  simp only [eff] at he
  split at he
  · rename_i β off l hx1 hl
    split at he
    · rename_i cs hcs
      cases hb : Nat.ble B β && (l.length == P.cellsOf t) && Nat.ble (off + P.cellsOf t) cs.length with
      | false => simp only [hb, cond_false] at he; cases he
      | true =>
        simp only [hb, cond_true, Option.some.injEq, Prod.mk.injEq] at he
        obtain ⟨rfl, rfl⟩ := he
        simp only [Bool.and_eq_true, beq_iff_eq] at hb
        obtain ⟨⟨hB, hln⟩, hle⟩ := hb
        have hB := Nat.le_of_ble_eq_true hB
        have hle := Nat.le_of_ble_eq_true hle
        obtain ⟨v1, h1, h2⟩ := Option.bind_eq_some_iff.1 hl
        have hL := zdp (zac hE h1) h2
        have hx := zac hE hx1
        generalize hu0 : a.eval x = u0 at hx
        cases hx with
        | ptr _ _ b s sz hι =>
          obtain ⟨w', r1, r2, r3⟩ := hS.zff hcs hB hL (o := off) (by omega) hι
          refine ⟨undef, w', ι, .inr ⟨?_, rfl⟩, Io.le.refl _, r2, .lit _, by simp, .zhr r3 (by rw [hx1]; rfl) hι hcs hB⟩
          have hsize : (a.eval y).cells.size = P.cellsOf t := by rw [hL.1, hln]
          simp only [execOp, ho, Instr.storeAt, hu0, Instr.sureAddr, Sem.run_bind, Sem.run_pure, Result.andThen_ok, storeVar, zar ht.1, hsize, ne_eq, not_true_eq_false, if_false, r1]
    · cases he
  · cases he
theorem zwt (hS : Sim P B w1 ι h w) (hE : zbs ι N env a) {o : Oper} {t el : TypeId} {x y : Operand} (ho : o.op = .makeSlice t x y) (hs : P.underlying t = some (.slice el)) (ht : zb0 P el = true)
    (hn : 0 < P.cellsOf el) (hby : 0 < P.bytesOf el) {z : List Value} (hz : zeb P el = some z) (hone : z.all zez = true) (hzl : z.length = P.cellsOf el) {v : V} {h' : zaj} {e : Bool} {t0 : Option Nat}
    (he : eff B h env (.mk (P.cellsOf el) (P.bytesOf el) z (opX x) (opX y)) = some (v, h')) : EOk P B w1 ι a w o v h' e h t0 := by
  simp only [eff] at he
  split at he
  · rename_i l c hl hc
    cases hb : decide (0 ≤ l) && decide (l ≤ c) && decide (c * (P.bytesOf el : Int) ≤ zal) with
    | false => simp only [hb, cond_false] at he; cases he
    | true =>
      simp only [hb, cond_true, Option.some.injEq, Prod.mk.injEq] at he
      obtain ⟨rfl, rfl⟩ := he
      simp only [Bool.and_eq_true, decide_eq_true_eq] at hb
      obtain ⟨⟨h0, hlc⟩, hmax⟩ := hb
      obtain ⟨kl, hxl⟩ := zbQ hE hl
      obtain ⟨kc, hyc⟩ := zbQ hE hc
      obtain ⟨zv, hzv, hzc⟩ := zbP hz
      simp only [zb0, Bool.and_eq_true] at ht
      obtain ⟨ti, hti⟩ := Option.isSome_iff_exists.1 ht.1
      have hbt : P.bytesOf el = ti.bytes := by simp [Program.bytesOf, hti]
      have hzs : zv.cells.size = P.cellsOf el := by rw [← hzl, ← hzc]; simp
      rw [hbt] at hmax hby
      have hmb : (zal : Int) = 140737488355328 := rfl
      have hcb : c ≤ 140737488355328 := by
        have : c * 1 ≤ c * (ti.bytes : Int) := Int.mul_le_mul_of_nonneg_left (by omega) (by omega)
        omega
      have hwl : IntKind.i64.wrap l = l := by simp [IntKind.wrap, IntKind.signed, IntKind.bits]; omega
      have hwc : IntKind.i64.wrap c = c := by simp [IntKind.wrap, IntKind.signed, IntKind.bits]; omega
      have hL := zfd (ι := ι) hone c.toNat zv.cells hzc
      have hcom : (ti.bytes : Int) * c = c * ti.bytes := Int.mul_comm _ _
      have e1 : ¬ (c < 0) := by omega
      have e2 : ¬ (281474976710656 < (ti.bytes : Int) * c) := by omega
      have e3 : ¬ (l < 0) := by omega
      have e4 : ¬ (c < l) := by omega
      have hroom : ¬ (roomBytes < c.toNat * ti.bytes) := by
        have : ((c.toNat * ti.bytes : Nat) : Int) = c * ti.bytes := by rw [Int.natCast_mul, Int.toNat_of_nonneg (by omega)]
        have h47 : roomBytes = 140737488355328 := rfl
        omega
      have hrun : (execOp a.eval o).run P w = .ok (.value (.slice (some ⟨w.heap.size, 0, none⟩) l.toNat c.toNat)) (zaU w (.cells ((Array.range (c.toNat * zv.cells.size)).map (zv.cells[· % zv.cells.size]!)) el (0, 0))) := by
        simp only [execOp, ho, Instr.makeSlice, Sem.run_bind, zae hs, Result.andThen_ok, asInt, asIntOf, hxl, hyc, Sem.run_pure, zdN hti, hwl, hwc]
        simp only [Bool.or_eq_true, decide_eq_true_eq, gt_iff_lt, show (2 : Int) ^ 48 = 281474976710656 from rfl, e1, e2, e3, e4, or_self, if_false, askRoom, hroom, Sem.run_bind, Sem.run_pure, Result.andThen_ok, zar ht.1]
        by_cases hz0 : c.toNat * P.cellsOf el = 0
        · rw [if_pos hz0]
          have hc0 : c.toNat = 0 := by
            rcases Nat.mul_eq_zero.1 hz0 with h1 | h1
            · exact h1
            · omega
          simp only [Sem.run_pure, Result.andThen_ok, newRow, Sem.run_bind, run_newObj, hc0, Nat.zero_mul, zeo]
          rfl
        · rw [if_neg hz0]
          simp only [Sem.run_bind, zaJ hzv, Sem.run_pure, Result.andThen_ok, newRow, run_newObj, hzs]
          rfl
      refine ⟨_, _, _, .inl hrun, hS.zci _, hS.zf2 hL, ?_, fun _ => zat _ _, .za7 (zat _ _)⟩
      have hsz : ((Array.range (c.toNat * zv.cells.size)).map (zv.cells[· % zv.cells.size]!)).size = c.toNat * P.cellsOf el := by simp [hzs]
      have := VRel.sl (ι := ι.ext h.length (w.heap.size, 0, ((Array.range (c.toNat * zv.cells.size)).map (zv.cells[· % zv.cells.size]!)).size)) h.length 0 (P.cellsOf el) l.toNat (some c.toNat) w.heap.size 0 _ c.toNat (Io.zaK _ _ _) (by rw [hsz]; omega) (by omega) (by omega) hn (by simp) (by simp)
      simpa using this
  · cases he
end
end Go.Mx
