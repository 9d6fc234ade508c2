/-
  Operations that leave the world alone: the machine's value stands for the world's. Conditions: none.
-/
import Derived.Test.YtobhjbbinnbdaaaNnMx3
namespace Go.Mx
open Go Go.RowKit
section
variable {P : Program} {B N : Nat} {w1 w : World} {ι : Io} {h : zaj} {env : List V} {a : Act}
theorem VRel.zbL {v u : Value} (hr : VRel ι (.lit v) u) : u = v := by cases hr; rfl
theorem zac (hE : zbs ι N env a) {x : Operand} {v : V} (hx : ev env (opX x) = some v) : VRel ι v (a.eval x) := by
  cases x with
  | tmp k => exact hE.2.2 k v hx
  | const c => simp only [opX, ev, Option.some.injEq] at hx; subst hx; exact .lit _
  | global g => simp only [opX, ev, Option.some.injEq] at hx; subst hx; exact .lit _
  | func f => simp only [opX, ev, Option.some.injEq] at hx; subst hx; exact .clo f [] [] #[] #[] rfl rfl (by simp) (by simp)
theorem zbQ (hE : zbs ι N env a) {x : Operand} {m : Int} (hx : evI env (opX x) = some m) : ∃ k, a.eval x = .int k m := by
  unfold evI at hx
  split at hx
  · rename_i k n h1
    cases hx
    exact ⟨k, (zac hE h1).zbL⟩
  · cases hx
theorem zcz (hE : zbs ι N env a) {x : Operand} {m : Bool} (hx : evB env (opX x) = some m) : a.eval x = .bool m := by
  unfold evB at hx
  split at hx
  · rename_i n h1
    cases hx
    exact (zac hE h1).zbL
  · cases hx
theorem zbA (hE : zbs ι N env a) : ∀ (xs : List Operand) {vs : List V}, evs env (xs.map opX) = some vs → vs.length = xs.length ∧ ∀ (i : Nat) x v, xs[i]? = some x → vs[i]? = some v → VRel ι v (a.eval x)
  | [], vs, hx => by simp [evs] at hx; subst hx; simp
  | x :: xs, vs, hx => by
    simp only [List.map_cons, evs] at hx
    split at hx
    · rename_i v1 vs1 h1 h2
      cases hx
      obtain ⟨h3, h4⟩ := zbA hE xs h2
      refine ⟨by simp [h3], fun i y v hy hv => ?_⟩
      cases i with
      | zero => simp at hy hv; subst hy; subst hv; exact zac hE h1
      | succ i => exact h4 i y v (by simpa using hy) (by simpa using hv)
    · cases hx
theorem zfh (hE : zbs ι N env a) {xs : Array Operand} {vs : List V} (hx : evs env (xs.toList.map opX) = some vs) : zhG ι vs (xs.map a.eval) := by
  obtain ⟨h1, h2⟩ := zbA hE _ hx
  refine ⟨by simpa using h1.symm, fun i x v hx hv => ?_⟩
  simp only [Array.getElem?_map, Option.map_eq_some_iff] at hv
  obtain ⟨y, hy, rfl⟩ := hv
  exact h2 i y x (by simpa using hy) hx
theorem zlX (hE : zbs ι N env a) {x : Option Operand} {m : Option Int} (hx : zmi env (x.map opX) = some m) :
    (x = none ∧ m = none) ∨ ∃ y n k, x = some y ∧ m = some n ∧ a.eval y = .int k n := by
  cases x with
  | none => simp [zmi] at hx; exact .inl ⟨rfl, hx.symm⟩
  | some y =>
    simp only [Option.map_some, zmi, Option.map_eq_some_iff] at hx
    obtain ⟨n, h1, rfl⟩ := hx
    obtain ⟨k, hk⟩ := zbQ hE h1
    exact .inr ⟨y, n, k, rfl, rfl, hk⟩
def ztI : Value → Option Nat
  | .pointer (some ad) => some ad.block
  | _ => none
def ldB (a : Act) (o : Oper) : Option Nat := match o.op with | .load _ x => ztI (a.eval x) | _ => none
def QOk (P : Program) (ι : Io) (a : Act) (w : World) (o : Oper) (v : V) : Prop :=
  ∃ u, (∀ w', (∀ b, ldB a o = some b → w'.heap[b]? = w.heap[b]?) → (execOp a.eval o).run P w' = .ok (.value u) w') ∧ VRel ι v u
theorem zae {t : TypeId} {d : TypeDesc} (h : P.underlying t = some d) (w : World) : (underlying t).run P w = .ok d w := by
  simp [underlying, h]
theorem zdN {t : TypeId} {d : TypeInfo} (h : P.info? t = some d) (w : World) : (typeInfo t).run P w = .ok d w := by
  simp [typeInfo, h]
theorem zar {t : TypeId} (h : (P.info? t).isSome = true) (w : World) : (sizeOf t).run P w = .ok (P.cellsOf t) w := by
  obtain ⟨i, hi⟩ := Option.isSome_iff_exists.1 h
  simp [sizeOf, typeInfo, hi, Program.cellsOf]
theorem zft {t : TypeId} (h : zb0 P t = true) (w : World) : (isAgg t).run P w = .ok (zdQ P t) w := by
  simp only [zb0, Bool.and_eq_true] at h
  obtain ⟨d, hd⟩ := Option.isSome_iff_exists.1 h.2
  unfold isAgg zdQ
  simp only [Sem.run_bind, zae hd, Result.andThen_ok, hd]
  cases d <;> rfl
theorem zaJ {t : TypeId} {v : Value} (h : (P.info? t).bind (·.zero) = some v) (w : World) : (zeroValue t).run P w = .ok v w := by
  cases hi : P.info? t with
  | none => simp [hi] at h
  | some i =>
    simp only [hi, Option.bind_some] at h
    simp [zeroValue, typeInfo, hi, h]
theorem zia {b off : Nat} {arr : Array Value} {T : TypeId} {fr : Nat × Nat} {v : Value} {w' : World} (h : w'.heap[b]? = some (.cells arr T fr)) (hv : arr[off]? = some v) : w'.cell? ⟨b, off, none⟩ = some v := by
  simp [World.cell?, h, hv]
theorem zcr (b off n : Nat) : (Addr.mk b off none).add n = ⟨b, off + n, none⟩ := by
  unfold Addr.add; split
  · subst_vars; rfl
  · rfl
theorem zht {t : TypeId} (ht : zb0 P t = true) {b off : Nat} {w' : World} (cs : List Value)
    (hn : zdQ P t = true → cs.length = P.cellsOf t) (h1 : zdQ P t = false → cs.length = 1)
    (hc : ∀ (j : Nat) v, cs[j]? = some v → w'.cell? ⟨b, off + j, none⟩ = some v) :
    (loadVar t ⟨b, off, none⟩).run P w' = .ok (bif zdQ P t then .agg cs.toArray else cs.headD undef) w' := by
  unfold loadVar
  simp only [Sem.run_bind, zft ht, Result.andThen_ok]
  have ht' := ht
  simp only [zb0, Bool.and_eq_true] at ht'
  cases hb : zdQ P t with
  | true =>
    simp only [if_true, Sem.run_bind, zar ht'.1, Result.andThen_ok, cond_true]
    rw [← hn hb, run_loadCells_list]
    · simp
    · intro j v hj; rw [zcr]; exact hc j v hj
  | false =>
    simp only [Bool.false_eq_true, if_false, cond_false]
    match cs, h1 hb with
    | [v], _ =>
      have := hc 0 v rfl
      simp only [Nat.add_zero] at this
      simp [this]
theorem zif {o n : Nat} {cs l : List V} (hs : slot o n cs = some l) : o + n ≤ cs.length ∧ l.length = n ∧ ∀ k, k < n → l[k]? = cs[o + k]? := by
  unfold slot at hs
  cases hb : Nat.ble (o + n) cs.length with
  | false => simp only [hb, cond_false] at hs; cases hs
  | true =>
    simp only [hb, cond_true, Option.some.injEq] at hs
    have hle := Nat.le_of_ble_eq_true hb
    subst hs
    refine ⟨hle, by simp; omega, fun k hk => ?_⟩
    rw [List.getElem?_take, if_pos hk, List.getElem?_drop]
theorem zb4 {t : TypeId} (ht : zb0 P t = true) {cs : List V} {o : Nat} {v : V} (hv : takeN cs o (zj4 P t) = some v) {b s : Nat}
    (hc : ∀ (k : Nat) x, cs[k]? = some x → ∃ u, VRel ι x u ∧ u.oneCell' = true ∧ ∀ w' : World, (w'.heap[b]? = w.heap[b]?) → w'.cell? ⟨b, s + k, none⟩ = some u) :
    ∃ u, VRel ι v u ∧ ∀ w' : World, (w'.heap[b]? = w.heap[b]?) → (loadVar t ⟨b, s + o, none⟩).run P w' = .ok u w' := by
  cases hb : zdQ P t with
  | true =>
    simp only [zj4, hb, cond_true, takeN, Option.map_eq_some_iff] at hv
    obtain ⟨l, hl, rfl⟩ := hv
    obtain ⟨h1, h2, h3⟩ := zif hl
    have hex : ∀ k, k < P.cellsOf t → ∃ u, ∃ x, l[k]? = some x ∧ VRel ι x u ∧ u.oneCell' = true ∧ ∀ w' : World, (w'.heap[b]? = w.heap[b]?) → w'.cell? ⟨b, s + (o + k), none⟩ = some u := by
      intro k hk
      have hk' : k < l.length := by omega
      obtain ⟨u, g⟩ := hc (o + k) l[k] (by rw [← h3 k hk]; exact List.getElem?_eq_getElem hk')
      exact ⟨u, l[k], List.getElem?_eq_getElem hk', g⟩
    let us : List Value := (List.range (P.cellsOf t)).map fun k => if hk : k < P.cellsOf t then (hex k hk).choose else undef
    have hus : ∀ (k : Nat) u, us[k]? = some u → ∃ x, l[k]? = some x ∧ VRel ι x u ∧ u.oneCell' = true ∧ ∀ w' : World, (w'.heap[b]? = w.heap[b]?) → w'.cell? ⟨b, s + (o + k), none⟩ = some u := by
      intro k u hu
      simp only [us, List.getElem?_map, Option.map_eq_some_iff] at hu
      obtain ⟨k', hk', rfl⟩ := hu
      have hlt : k < P.cellsOf t := by have := (List.getElem?_eq_some_iff.1 hk').1; simpa using this
      rw [List.getElem?_range hlt] at hk'
      cases hk'
      rw [dif_pos hlt]
      exact (hex k hlt).choose_spec
    have hlen : us.length = P.cellsOf t := by simp [us]
    refine ⟨.agg us.toArray, .agg _ _ (by simp [hlen, h2]) (fun i x u hx hu => ?_) (fun i u hu => ?_), fun w' hw' => ?_⟩
    · obtain ⟨x', g1, g2, _⟩ := hus i u (by simpa using hu)
      rw [hx] at g1; cases g1; exact g2
    · obtain ⟨x', _, _, g3, _⟩ := hus i u (by simpa using hu)
      exact g3
    · have := zht (P := P) ht (b := b) (off := s + o) (w' := w') us (fun _ => hlen) (fun h0 => by rw [hb] at h0; cases h0) (fun j u hu => by
        obtain ⟨_, _, _, _, g4⟩ := hus j u hu
        rw [Nat.add_assoc]; exact g4 w' hw')
      rw [this, hb]; rfl
  | false =>
    simp only [zj4, hb, cond_false, takeN] at hv
    obtain ⟨u, g1, g2, g3⟩ := hc o v hv
    refine ⟨u, g1, fun w' hw' => ?_⟩
    have := zht (P := P) ht (b := b) (off := s + o) (w' := w') [u] (fun h0 => by rw [hb] at h0; cases h0) (fun _ => rfl) (fun j u' hu => by
      cases j with
      | zero => simp at hu; subst hu; exact g3 w' hw'
      | succ j => simp at hu)
    rw [this, hb]; rfl
theorem Sim.cells (hS : Sim P B w1 ι h w) {β : Nat} {cs : List V} (hβ : zaD h β = some cs) : ∃ b s sz arr T fr, ι β = some (b, s, sz) ∧ w.heap[b]? = some (.cells arr T fr) ∧ arr.size = sz ∧ s + cs.length ≤ sz ∧
    (∀ (k : Nat) v, cs[k]? = some v → ∃ u, arr[s + k]? = some u ∧ VRel ι v u ∧ u.oneCell' = true) ∧ (B ≤ β → fr = (0, 0)) := hS.obj β _ (zcB hβ)
theorem Sim.cellAt (hS : Sim P B w1 ι h w) {β b s sz : Nat} {cs : List V} (hβ : zaD h β = some cs) (hι : ι β = some (b, s, sz)) (k : Nat) (x : V) (hk : cs[k]? = some x) :
    ∃ u, VRel ι x u ∧ u.oneCell' = true ∧ ∀ w' : World, (w'.heap[b]? = w.heap[b]?) → w'.cell? ⟨b, s + k, none⟩ = some u := by
  obtain ⟨b', s', sz', arr, T, fr, h1, h2, h3, h4, h5, h6⟩ := hS.cells hβ
  rw [hι] at h1; cases h1
  obtain ⟨u, g1, g2, g3⟩ := h5 k x hk
  exact ⟨u, g2, g3, fun w' hw' => zia (hw'.trans h2) g1⟩
theorem ztQ (hS : Sim P B w1 ι h w) (hE : zbs ι N env a) {o : Oper} {t : TypeId} {x : Operand} (ho : o.op = .load t x) (ht : zb0 P t = true) {v : V}
    (hq : q h env (.load (zj4 P t) (opX x)) = some v) : QOk P ι a w o v := by
  simp only [q] at hq
  split at hq
  · rename_i β off h1
    obtain ⟨cs, h2, h3⟩ := Option.bind_eq_some_iff.1 hq
    have hx := zac hE h1
    generalize hu0 : a.eval x = u0 at hx
    cases hx with
    | ptr _ _ b s sz hι =>
      obtain ⟨u, g1, g2⟩ := zb4 (P := P) (w := w) ht h3 (fun k x hk => hS.cellAt h2 hι k x hk)
      refine ⟨u, fun w' hw' => ?_, g1⟩
      simp [execOp, ho, Instr.loadAt, Instr.sureAddr, hu0, g2 w' (hw' b (by simp [ldB, ho, ztI, hu0]))]
  · cases hq
theorem zu4 (hE : zbs ι N env a) {o : Oper} {s : TypeId} {x : Operand} {f : Nat} (ho : o.op = .fieldAddr s x f) {fs : Array Field} (hs : P.underlying s = some (.struct fs)) {fd : Field} (hf : fs[f]? = some fd)
    (ht : zb0 P fd.type = true) (hn : (P.cellsOf fd.type == 0) = false) {v : V} (hq : q h env (.fld fd.offset (opX x)) = some v) : QOk P ι a w o v := by
  simp only [zb0, Bool.and_eq_true] at ht
  have hne : ¬ P.cellsOf fd.type = 0 := by simpa using hn
  simp only [q] at hq
  split at hq
  · rename_i β off h1
    cases hq
    have hx := zac hE h1
    generalize hu0 : a.eval x = u0 at hx
    cases hx with
    | ptr _ _ b s' sz hι =>
      refine ⟨_, fun w' _ => ?_, .ptr β (off + fd.offset) b s' sz hι⟩
      simp [execOp, ho, Instr.fieldAt, zae hs, hf, Instr.sureAddr, hu0, fieldPlace, zar ht.1, hne, zcr, Nat.add_assoc]
  · cases hq
theorem zuh (hE : zbs ι N env a) {o : Oper} {t el : TypeId} {x y : Operand} (ho : o.op = .indexAddr t x y) (hs : P.underlying t = some (.slice el)) (ht : zb0 P el = true) {v : V}
    (hq : q h env (.idxS (P.cellsOf el) (opX x) (opX y)) = some v) : QOk P ι a w o v := by
  simp only [zb0, Bool.and_eq_true] at ht
  simp only [q] at hq
  split at hq
  · rename_i β off n' len cap m h1 h2
    cases hb : (P.cellsOf el == n') && decide (0 ≤ m) && decide (m < len) with
    | false => simp only [hb, cond_false] at hq; cases hq
    | true =>
      simp only [hb, cond_true, Option.some.injEq] at hq
      subst hq
      simp only [Bool.and_eq_true, beq_iff_eq, decide_eq_true_eq] at hb
      obtain ⟨⟨hn, h0⟩, hm⟩ := hb
      have hx := zac hE h1
      obtain ⟨k, hy⟩ := zbQ hE h2
      generalize hu0 : a.eval x = u0 at hx
      cases hx with
      | sl _ _ _ _ _ b s sz cap' hι _ _ _ _ _ _ =>
        refine ⟨_, fun w' _ => ?_, .ptr β _ b s sz hι⟩
        simp [execOp, ho, Instr.indexAt, hy, asIntOf, zae hs, hu0, h0, hm, zar ht.1, zcr, Nat.add_assoc]
      | sl0 => simp at hm; omega
  · cases hq
theorem zur (hE : zbs ι N env a) {o : Oper} {t el : TypeId} {x y : Operand} {cnt : Nat} (ho : o.op = .indexAddr t x y) (hs : P.underlying t = some (.array cnt el)) (ht : zb0 P el = true) {v : V}
    (hq : q h env (.idxA (P.cellsOf el) cnt (opX x) (opX y)) = some v) : QOk P ι a w o v := by
  simp only [zb0, Bool.and_eq_true] at ht
  simp only [q] at hq
  split at hq
  · rename_i β off m h1 h2
    cases hb : decide (0 ≤ m) && decide (m < cnt) with
    | false => simp only [hb, cond_false] at hq; cases hq
    | true =>
      simp only [hb, cond_true, Option.some.injEq] at hq
      subst hq
      simp only [Bool.and_eq_true, decide_eq_true_eq] at hb
      obtain ⟨h0, hm⟩ := hb
      have hx := zac hE h1
      obtain ⟨k, hy⟩ := zbQ hE h2
      generalize hu0 : a.eval x = u0 at hx
      cases hx with
      | ptr _ _ b s sz hι =>
        refine ⟨_, fun w' _ => ?_, .ptr β _ b s sz hι⟩
        simp [execOp, ho, Instr.indexAt, hy, asIntOf, zae hs, hu0, Instr.sureAddr, h0, hm, zar ht.1, zcr, Nat.add_assoc]
  · cases hq
theorem zhj {t : TypeId} (ht : zb0 P t = true) {vs : List V} {o : Nat} {v : V} (hv : takeN vs o (zj4 P t) = some v) {arr : Array Value} (hr : VRel ι (.agg vs) (.agg arr)) :
    ∃ u, VRel ι v u ∧ ∀ w', (part t arr o).run P w' = .ok u w' := by
  have ht' := ht
  simp only [zb0, Bool.and_eq_true] at ht'
  cases hr with
  | agg _ _ hsz hc hone =>
  cases hb : zdQ P t with
  | true =>
    simp only [zj4, hb, cond_true, takeN, Option.map_eq_some_iff] at hv
    obtain ⟨l, hl, rfl⟩ := hv
    obtain ⟨h1, h2, h3⟩ := zif hl
    refine ⟨.agg (arr.extract o (o + P.cellsOf t)), .agg _ _ (by simp [h2, hsz]; omega) (fun i x u hx hu => ?_) (fun i u hu => ?_), fun w' => ?_⟩
    · rw [Array.getElem?_extract] at hu
      have hi : i < P.cellsOf t := by rw [← h2]; exact (List.getElem?_eq_some_iff.1 hx).1
      rw [h3 i hi] at hx
      split at hu
      · exact hc _ x u hx hu
      · cases hu
    · rw [Array.getElem?_extract] at hu
      split at hu
      · exact hone _ u hu
      · cases hu
    · simp [part, zft ht, hb, zar ht'.1]
  | false =>
    simp only [zj4, hb, cond_false, takeN] at hv
    have hlt : o < arr.size := by rw [hsz]; exact (List.getElem?_eq_some_iff.1 hv).1
    refine ⟨arr[o], hc o v _ hv (Array.getElem?_eq_getElem hlt), fun w' => ?_⟩
    simp [part, zft ht, hb, Array.getElem?_eq_getElem hlt]
theorem ztt (hE : zbs ι N env a) {o : Oper} {t el : TypeId} {x y : Operand} {cnt : Nat} (ho : o.op = .index t x y) (hs : P.underlying t = some (.array cnt el)) (ht : zb0 P el = true) (h1 : zdQ P el = false → P.cellsOf el = 1) {v : V}
    (hq : q h env (.idxV (zj4 P el) cnt (opX x) (opX y)) = some v) : QOk P ι a w o v := by
  have ht' := ht
  simp only [zb0, Bool.and_eq_true] at ht'
  simp only [q] at hq
  split at hq
  · rename_i vs m hx1 hy1
    cases hb : decide (0 ≤ m) && decide (m < cnt) with
    | false => simp only [hb, cond_false] at hq; cases hq
    | true =>
      simp only [hb, cond_true] at hq
      simp only [Bool.and_eq_true, decide_eq_true_eq] at hb
      obtain ⟨h0, hm⟩ := hb
      have hx := zac hE hx1
      obtain ⟨k, hy⟩ := zbQ hE hy1
      generalize hu0 : a.eval x = u0 at hx
      have hn : (zj4 P el).getD 1 = P.cellsOf el := by
        unfold zj4
        cases hg : zdQ P el with
        | true => rfl
        | false => simp [h1 hg]
      rw [hn] at hq
      cases u0 with
      | agg arr =>
        obtain ⟨u, g1, g2⟩ := zhj ht hq hx
        refine ⟨u, fun w' _ => ?_, g1⟩
        simp [execOp, ho, Instr.index, hy, asIntOf, zae hs, hu0, h0, hm, zar ht'.1, g2]
      | _ => cases hx
  · cases hq
theorem zuR (hE : zbs ι N env a) {o : Oper} {t : TypeId} {s : ByteArray} {y : Operand} (ho : o.op = .index t (.const (.string s)) y) (hs : P.underlying t = some .string) {v : V}
    (hq : q h env (.chr (s.data.toList.map (·.toNat)) (opX y)) = some v) : QOk P ι a w o v := by
  simp only [q] at hq
  split at hq
  · rename_i m hy1
    obtain ⟨k, hy⟩ := zbQ hE hy1
    cases h0 : decide (0 ≤ m) with
    | false => simp only [h0, cond_false] at hq; cases hq
    | true =>
      simp only [h0, cond_true, Option.map_eq_some_iff, List.getElem?_map] at hq
      obtain ⟨b, ⟨c, hc, rfl⟩, rfl⟩ := hq
      have hm := of_decide_eq_true h0
      have hg : s[m.toNat]? = some c := by
        have h1 := (List.getElem?_eq_some_iff.1 hc)
        obtain ⟨h2, h3⟩ := h1
        have hsz : m.toNat < s.size := by simpa using h2
        rw [getElem?_pos s m.toNat hsz]
        rw [← h3]
        rfl
      refine ⟨.int .u8 c.toNat, fun w' _ => ?_, .lit _⟩
      have hx0 : a.eval (.const (.string s)) = .string s := rfl
      simp [execOp, ho, hx0, Instr.index, hy, asIntOf, zae hs, hm, hg]
  · cases hq
theorem zsK (hE : zbs ι N env a) {o : Oper} {s : TypeId} {x : Operand} {f : Nat} (ho : o.op = .field s x f) {fs : Array Field} (hs : P.underlying s = some (.struct fs)) {fd : Field} (hf : fs[f]? = some fd)
    (ht : zb0 P fd.type = true) {v : V} (hq : q h env (.part (zj4 P fd.type) fd.offset (opX x)) = some v) : QOk P ι a w o v := by
  simp only [q] at hq
  split at hq
  · rename_i vs hx1
    have hx := zac hE hx1
    generalize hu0 : a.eval x = u0 at hx
    cases u0 with
    | agg arr =>
      obtain ⟨u, g1, g2⟩ := zhj ht hq hx
      refine ⟨u, fun w' _ => ?_, g1⟩
      simp [execOp, ho, Instr.field, zae hs, hf, hu0, asAgg, g2]
    | _ => cases hx
  · cases hq
theorem zic {op : BinOp} {t : TypeId} {k k' : IntKind} {m n : Int} {v : V} (hb : ziJ op (.lit (.int k m)) (.lit (.int k' n)) = some v) :
    ∃ u, v = .lit u ∧ ∀ w : World, (binOp op t (.int k m) (.int k' n)).run P w = .ok u w := by
  unfold ziJ at hb
  cases op <;> simp only [] at hb
  case shl =>
    cases hn : decide (0 ≤ n) with
    | false => simp only [hn, cond_false] at hb; cases hb
    | true =>
      simp only [hn, cond_true, Option.some.injEq] at hb
      subst hb
      simp only [decide_eq_true_eq] at hn
      refine ⟨_, rfl, fun w => ?_⟩
      have : ¬ n < 0 := by omega
      simp [binOp, Op.shift, this]
  case shr =>
    cases hn : decide (0 ≤ n) with
    | false => simp only [hn, cond_false] at hb; cases hb
    | true =>
      simp only [hn, cond_true, Option.some.injEq] at hb
      subst hb
      simp only [decide_eq_true_eq] at hn
      refine ⟨_, rfl, fun w => ?_⟩
      have : ¬ n < 0 := by omega
      simp [binOp, Op.shift, this]
  all_goals
    cases hk : (k == k') with
    | false => simp only [hk, cond_false] at hb; cases hb
    | true =>
      simp only [hk, cond_true] at hb
      have hk' : k = k' := by simpa using hk
      subst hk'
      simp only [zaI] at hb
      first
        | (simp only [Option.map_some, Option.some.injEq] at hb
           subst hb
           refine ⟨_, rfl, fun w => ?_⟩
           simp [binOp, Op.intArith, Op.intDiv, Op.intBits, Op.intCmp]; done)
        | (cases hn : (n == 0) with
           | true => simp only [hn, cond_true, Option.map_none] at hb; cases hb
           | false =>
             simp only [hn, cond_false, Option.map_some, Option.some.injEq] at hb
             subst hb
             refine ⟨_, rfl, fun w => ?_⟩
             have : ¬ n = 0 := by simpa using hn
             simp [binOp, Op.intArith, Op.intDiv, Op.intBits, Op.intCmp, this])
theorem zf6 {op : BinOp} {t : TypeId} {x y : Operand} {k k' : IntKind} {m n : Int} (w : World) : (eqGuard op t x y (.int k m) (.int k' n)).run P w = .ok () w := by
  unfold eqGuard
  split <;> rfl
theorem zqf {op : BinOp} {x y r : V} (hb : ziJ op x y = some r) : ∃ k m k' n, x = .lit (.int k m) ∧ y = .lit (.int k' n) := by
  unfold ziJ at hb
  split at hb
  · exact ⟨_, _, _, _, rfl, rfl⟩
  · cases hb
theorem zvf (hE : zbs ι N env a) {o : Oper} {op : BinOp} {t ty : TypeId} {x y : Operand} (ho : o.op = .binOp op t x y ty) {v : V} (hq : q h env (.bin op (opX x) (opX y)) = some v) : QOk P ι a w o v := by
  simp only [q] at hq
  split at hq
  · rename_i v1 v2 h1 h1'
    obtain ⟨k, m, k', n, rfl, rfl⟩ := zqf hq
    have e1 := (zac hE h1).zbL
    have e2 := (zac hE h1').zbL
    obtain ⟨u, rfl, hu⟩ := zic (P := P) (t := t) hq
    refine ⟨u, fun w' _ => ?_, .lit _⟩
    simp [execOp, ho, e1, e2, zf6, hu]
  · cases hq
theorem ztw (hE : zbs ι N env a) {o : Oper} {neg : Bool} {t ty : TypeId} {x y : Operand} (ho : o.op = .binOp (bif neg then .neq else .eql) t x y ty) (ht : P.underlying t = some .bool) {v : V}
    (hq : q h env (.eqb neg (opX x) (opX y)) = some v) : QOk P ι a w o v := by
  simp only [q] at hq
  split at hq
  · rename_i v1 v2 h1 h1'
    cases hq
    have e1 := zcz hE h1
    have e2 := zcz hE h1'
    refine ⟨_, fun w' _ => ?_, .lit _⟩
    cases neg
    · simp [execOp, ho, e1, e2, eqGuard, run_eql_bool w' t v1 v2 ht]
    · simp [execOp, ho, e1, e2, eqGuard, run_neq_bool w' t v1 v2 ht]
  · cases hq
theorem zeR {t el : TypeId} (ht : P.underlying t = some (.slice el)) (ad : Option Addr) (len cap : Nat) (w' : World) : (Op.equal t (.slice ad len cap) (.slice none 0 0)).run P w' = .ok ad.isNone w' := by
  show (Op.equalIn (9999 + 1) t (.slice ad len cap) (.slice none 0 0)).run P w' = .ok ad.isNone w'
  unfold Op.equalIn
  simp only [Sem.run_bind, zae ht, Result.andThen_ok]
  cases ad <;> rfl
theorem zgZ {t : TypeId} {ms : Array (String × TypeId)} (ht : P.underlying t = some (.interface ms)) (x : Value) (b : Bool) (hx : (x = .nilIface ∧ b = true) ∨ (∃ t v, x = .iface t v) ∧ b = false) (w' : World) : (Op.equal t x .nilIface).run P w' = .ok b w' := by
  show (Op.equalIn (9999 + 1) t x .nilIface).run P w' = .ok b w'
  unfold Op.equalIn
  simp only [Sem.run_bind, zae ht, Result.andThen_ok]
  rcases hx with ⟨rfl, rfl⟩ | ⟨⟨t, v, rfl⟩, rfl⟩ <;> rfl
theorem zeu {t el : TypeId} (ht : P.underlying t = some (.pointer el)) (ad : Option Addr) (w' : World) : (Op.equal t (.pointer ad) (.pointer none)).run P w' = .ok ad.isNone w' := by
  show (Op.equalIn (9999 + 1) t (.pointer ad) (.pointer none)).run P w' = .ok ad.isNone w'
  unfold Op.equalIn
  simp only [Sem.run_bind, zae ht, Result.andThen_ok]
  cases ad <;> rfl
theorem zt3 (hE : zbs ι N env a) {o : Oper} {t el ty : TypeId} {x : Operand} {neg : Bool} (ho : o.op = .binOp (bif neg then .neq else .eql) t x (.const (.slice none 0 0)) ty) (ht : P.underlying t = some (.slice el)) {v : V}
    (hq : q h env (.eqn neg (opX x)) = some v) : QOk P ι a w o v := by
  simp only [q] at hq
  have key : ∀ (ad : Option Addr) (len cap : Nat), a.eval x = .slice ad len cap → ∀ w' : World, (execOp a.eval o).run P w' = .ok (.value (.bool (bif neg then !ad.isNone else ad.isNone))) w' := by
    intro ad len cap hx w'
    have hy : a.eval (.const (.slice none 0 0)) = .slice none 0 0 := rfl
    cases neg
    · simp only [cond_false] at ho ⊢
      simp [execOp, ho, hx, hy, eqGuard, binOp, zeR ht]
    · simp only [cond_true] at ho ⊢
      simp [execOp, ho, hx, hy, eqGuard, binOp, zeR ht]
  split at hq
  · rename_i h1
    cases hq
    have hx := (zac hE h1).zbL
    exact ⟨_, fun w' _ => key _ _ _ hx w', by cases neg <;> exact .lit _⟩
  · rename_i h1
    cases hq
    have hx := zac hE h1
    generalize hu0 : a.eval x = u0 at hx key
    cases hx with
    | sl => exact ⟨_, fun w' _ => key _ _ _ rfl w', by cases neg <;> exact .lit _⟩
    | sl0 => exact ⟨_, fun w' _ => key _ _ _ rfl w', by cases neg <;> exact .lit _⟩
  · cases hq
theorem zt1 (hE : zbs ι N env a) {o : Oper} {t ty : TypeId} {ms : Array (String × TypeId)} {x : Operand} {neg : Bool} (ho : o.op = .binOp (bif neg then .neq else .eql) t x (.const .nilIface) ty) (ht : P.underlying t = some (.interface ms)) {v : V}
    (hq : q h env (.eqi neg (opX x)) = some v) : QOk P ι a w o v := by
  simp only [q] at hq
  have key : ∀ (b : Bool), (a.eval x = .nilIface ∧ b = true) ∨ (∃ t v, a.eval x = .iface t v) ∧ b = false → ∀ w' : World, (execOp a.eval o).run P w' = .ok (.value (.bool (bif neg then !b else b))) w' := by
    intro b hx w'
    have hy : a.eval (.const .nilIface) = .nilIface := rfl
    have he := zgZ ht (a.eval x) b hx w'
    have hg : ∀ op, (eqGuard op t x (.const .nilIface) (a.eval x) .nilIface).run P w' = .ok () w' := by
      intro op
      rcases hx with ⟨hx, _⟩ | ⟨⟨t', v', hx⟩, _⟩ <;> rw [hx] <;> unfold eqGuard <;> cases op <;> first | rfl | (cases x <;> rfl)
    have hbin : ∀ op, op = .eql ∨ op = .neq → binOp op t (a.eval x) .nilIface = (match op with | .eql => (do pure (.bool (← Op.equal t (a.eval x) .nilIface)) : Sem Value) | _ => do pure (.bool (!(← Op.equal t (a.eval x) .nilIface)))) := by
      intro op hop
      rcases hx with ⟨hx, _⟩ | ⟨⟨t', v', hx⟩, _⟩ <;> rw [hx] <;> rcases hop with rfl | rfl <;> rfl
    cases neg
    · simp only [cond_false] at ho ⊢
      simp [execOp, ho, hy, hg, hbin, he]
    · simp only [cond_true] at ho ⊢
      simp [execOp, ho, hy, hg, hbin, he]
  split at hq
  · rename_i h1
    cases hq
    have hx := (zac hE h1).zbL
    exact ⟨_, fun w' _ => key true (.inl ⟨hx, rfl⟩) w', by cases neg <;> exact .lit _⟩
  · rename_i h1
    cases hq
    have hx := zac hE h1
    generalize hu0 : a.eval x = u0 at hx key
    cases hx with
    | ifc t' v' u' _ => exact ⟨_, fun w' _ => key false (.inr ⟨⟨_, _, rfl⟩, rfl⟩) w', by cases neg <;> exact .lit _⟩
  · cases hq
theorem ztv (hE : zbs ι N env a) {o : Oper} {t el ty : TypeId} {x : Operand} {neg : Bool} (ho : o.op = .binOp (bif neg then .neq else .eql) t x (.const (.pointer none)) ty) (ht : P.underlying t = some (.pointer el)) {v : V}
    (hq : q h env (.eqp neg (opX x)) = some v) : QOk P ι a w o v := by
  simp only [q] at hq
  have key : ∀ (ad : Option Addr), a.eval x = .pointer ad → ∀ w' : World, (execOp a.eval o).run P w' = .ok (.value (.bool (bif neg then !ad.isNone else ad.isNone))) w' := by
    intro ad hx w'
    have hy : a.eval (.const (.pointer none)) = .pointer none := rfl
    cases neg
    · simp only [cond_false] at ho ⊢
      simp [execOp, ho, hx, hy, eqGuard, binOp, zeu ht]
    · simp only [cond_true] at ho ⊢
      simp [execOp, ho, hx, hy, eqGuard, binOp, zeu ht]
  split at hq
  · rename_i h1
    cases hq
    have hx := (zac hE h1).zbL
    exact ⟨_, fun w' _ => key _ hx w', by cases neg <;> exact .lit _⟩
  · rename_i h1
    cases hq
    have hx := zac hE h1
    generalize hu0 : a.eval x = u0 at hx key
    cases hx with
    | ptr => exact ⟨_, fun w' _ => key _ rfl w', by cases neg <;> exact .lit _⟩
  · cases hq
theorem zv9 (hE : zbs ι N env a) {o : Oper} {op : UnOp} {t : TypeId} {x : Operand} (ho : o.op = .unOp op t x) {v : V} (hq : q h env (.un op (opX x)) = some v) : QOk P ι a w o v := by
  simp only [q] at hq
  obtain ⟨v1, h1, h2⟩ := Option.bind_eq_some_iff.1 hq
  have e1 := zac hE h1
  unfold unV at h2
  split at h2
  · have e2 := e1.zbL
    split at h2
    · cases h2
      exact ⟨_, fun w' _ => by simp [execOp, ho, e2, Op.unary, Op.intArith], .lit _⟩
    · simp only [zaI, Option.map_some, Option.some.injEq] at h2
      subst h2
      exact ⟨_, fun w' _ => by simp [execOp, ho, e2, Op.unary, Op.intBits], .lit _⟩
    · cases h2
  · have e2 := e1.zbL
    split at h2
    · cases h2
      exact ⟨_, fun w' _ => by simp [execOp, ho, e2, Op.unary], .lit _⟩
    · cases h2
  · cases h2
theorem zs9 (hE : zbs ι N env a) {o : Oper} {t t' : TypeId} {k k' : IntKind} {x : Operand} (ho : o.op = .convert t t' x) (h1 : P.underlying t = some (.int k)) (h2 : P.underlying t' = some (.int k')) {v : V}
    (hq : q h env (.conv k' (opX x)) = some v) : QOk P ι a w o v := by
  simp only [q] at hq
  split at hq
  · rename_i m h3
    cases hq
    obtain ⟨kk, hx⟩ := zbQ hE h3
    exact ⟨_, fun w' _ => by simp [execOp, ho, hx, convert, zae h1, zae h2, Conv.intToInt], .lit _⟩
  · cases hq
theorem zu0 (hE : zbs ι N env a) {o : Oper} {x : Operand} {i : Nat} (ho : o.op = .extract x i) {v : V} (hq : q h env (.ext (opX x) i) = some v) : QOk P ι a w o v := by
  simp only [q] at hq
  split at hq
  · rename_i vs h3
    have hx := zac hE h3
    generalize hu0 : a.eval x = u0 at hx
    cases hx with
    | tup _ arr hsz hc =>
      have hlt : i < arr.size := by rw [hsz]; exact (List.getElem?_eq_some_iff.1 hq).1
      refine ⟨arr[i], fun w' _ => ?_, hc i v _ hq (Array.getElem?_eq_getElem hlt)⟩
      simp [execOp, ho, hu0, Instr.extract, Array.getElem?_eq_getElem hlt]
  · cases hq
theorem zr5 (hE : zbs ι N env a) {o : Oper} {x : Operand} (ho : o.op = .nilCheck x) {v : V} (hq : q h env (.nilck (opX x)) = some v) : QOk P ι a w o v := by
  simp only [q] at hq
  split at hq
  · rename_i h3
    cases hq
    have hx := zac hE h3
    refine ⟨_, fun w' _ => ?_, hx⟩
    generalize hu0 : a.eval x = u0 at hx
    cases hx
    simp [execOp, ho, hu0]
  · rename_i h3
    cases hq
    have hx := zac hE h3
    refine ⟨_, fun w' _ => ?_, hx⟩
    generalize hu0 : a.eval x = u0 at hx
    cases hx
    simp [execOp, ho, hu0]
  · cases hq
theorem zaT {o : Oper} {c : Call} {b : Builtin} (ho : o.op = .call c) (hc : c.callee = .builtin b) :
    execOp a.eval o = builtin b c.argTypes o.type (c.args.map fun | .const _ => true | _ => false) (c.args.map a.eval) := by
  simp [execOp, ho, resolve, hc, invoke]
  rfl
theorem zvh (hE : zbs ι N env a) {o : Oper} {c : Call} {t el : TypeId} {x : Operand} (ho : o.op = .call c) (hc : c.callee = .builtin .len) (h1 : c.argTypes.toList = [t]) (h2 : c.args.toList = [x])
    (ht : P.underlying t = some (.slice el)) {v : V} (hq : q h env (.len (opX x)) = some v) : QOk P ι a w o v := by
  have h1' : c.argTypes = #[t] := by rw [← Array.toArray_toList (xs := c.argTypes), h1]
  have h2' : c.args = #[x] := by rw [← Array.toArray_toList (xs := c.args), h2]
  simp only [q] at hq
  obtain ⟨v1, h3, h4⟩ := Option.bind_eq_some_iff.1 hq
  have hx := zac hE h3
  generalize hu0 : a.eval x = u0 at hx
  have hrun : ∀ (ad : Option Addr) (len cap : Nat), u0 = .slice ad len cap → ∀ w' : World, (execOp a.eval o).run P w' = .ok (.value (.int .i64 len)) w' := by
    intro ad len cap hb w'
    rw [zaT ho hc]
    simp [builtin, Builtin.len_, h1', h2', hu0, hb, zae ht, goInt]
  unfold ztY at h4
  split at h4
  · cases h4
    cases hx <;> exact ⟨_, fun w' _ => hrun _ _ _ rfl w', .lit _⟩
  · cases h4
    exact ⟨_, fun w' _ => hrun _ _ _ hx.zbL w', .lit _⟩
  · cases h4
theorem zm5 {isMax : Bool} {x y z : V} (hm : mm2 isMax x y = some z) : ∃ k m n, x = .lit (.int k m) ∧ y = .lit (.int k n) ∧
    z = .lit (.int k (bif isMax then (if n > m then n else m) else (if n < m then n else m))) := by
  unfold mm2 at hm
  split at hm
  · rename_i k m k' n
    cases hk : (k == k') with
    | false => simp only [hk, cond_false] at hm; cases hm
    | true =>
      simp only [hk, cond_true, Option.some.injEq] at hm
      have : k = k' := by simpa using hk
      subst this
      exact ⟨k, m, n, rfl, rfl, hm.symm⟩
  · cases hm
theorem ziW {isMax : Bool} : ∀ (ys : List V) (x z : V) (u : Value) (us : List Value), mms isMax x ys = some z → ys.length = us.length →
    VRel ι x u → (∀ (i : Nat) y v, ys[i]? = some y → us[i]? = some v → VRel ι y v) →
    ∃ r, VRel ι z r ∧ ∀ w' : World, (us.foldlM (bif isMax then Builtin.max2 else Builtin.min2) u).run P w' = .ok r w'
  | [], x, z, u, us, hm, hl, hx, _ => by
    simp [mms] at hm
    subst hm
    cases us with
    | nil => exact ⟨u, hx, fun w' => by simp⟩
    | cons _ _ => simp at hl
  | y :: ys, x, z, u, us, hm, hl, hx, hy => by
    cases us with
    | nil => simp at hl
    | cons u1 us =>
      simp only [mms] at hm
      split at hm
      · rename_i z1 hz1
        obtain ⟨k, m, n, rfl, rfl, rfl⟩ := zm5 hz1
        have e1 := hx.zbL
        have e2 := (hy 0 _ u1 rfl rfl).zbL
        obtain ⟨r, h1, h2⟩ := ziW ys _ z _ us hm (by simpa using hl) (.lit _) (fun i y v h3 h4 => hy (i + 1) y v (by simpa using h3) (by simpa using h4))
        refine ⟨r, h1, fun w' => ?_⟩
        rw [e1, e2, List.foldlM_cons]
        cases isMax <;> simp only [cond_true, cond_false, Builtin.min2, Builtin.max2, Sem.run_bind, Sem.run_pure, Result.andThen_ok] at h2 ⊢
        · exact h2 w'
        · exact h2 w'
      · cases hm
theorem zvO (hE : zbs ι N env a) {o : Oper} {c : Call} {isMax : Bool} (ho : o.op = .call c) (hc : c.callee = .builtin (bif isMax then .max else .min)) {v : V} (hq : q h env (.mm isMax (c.args.toList.map opX)) = some v) : QOk P ι a w o v := by
  simp only [q] at hq
  split at hq
  · rename_i v1 vs h1
    obtain ⟨h2, h3⟩ := zbA hE _ h1
    have hargs : (c.args.map a.eval).toList = c.args.toList.map a.eval := by simp
    cases hcl : c.args.toList with
    | nil => rw [hcl] at h2; simp at h2
    | cons x xs =>
      rw [hcl] at h2 h3
      obtain ⟨r, h4, h5⟩ := ziW (P := P) vs v1 v (a.eval x) (xs.map a.eval) hq (by simpa using h2) (h3 0 x v1 rfl rfl) (fun i y u hy hu => by
        simp only [List.getElem?_map, Option.map_eq_some_iff] at hu
        obtain ⟨x', hx', rfl⟩ := hu
        exact h3 (i + 1) x' y (by simpa using hx') (by simpa using hy))
      refine ⟨r, fun w' _ => ?_, h4⟩
      rw [zaT ho hc]
      cases isMax
      · simp only [cond_false, builtin, Builtin.min_, hargs, hcl, List.map_cons, Sem.run_bind]
        have := h5 w'
        simp only [cond_false] at this
        rw [this]; rfl
      · simp only [cond_true, builtin, Builtin.max_, hargs, hcl, List.map_cons, Sem.run_bind]
        have := h5 w'
        simp only [cond_true] at this
        rw [this]; rfl
  · cases hq
theorem zvi (hE : zbs ι N env a) {o : Oper} {f : Nat} {first cap : Array Operand} (ho : o.op = .makeFunc (.func f) first cap) {v : V}
    (hq : q h env (.clo f (first.toList.map opX) (cap.toList.map opX)) = some v) : QOk P ι a w o v := by
  simp only [q] at hq
  split at hq
  · rename_i vs vs' h1 h2
    cases hq
    have g1 := zfh hE h1
    have g2 := zfh hE h2
    exact ⟨.func (.func f) (first.map a.eval) (cap.map a.eval), fun w' _ => by simp [execOp, ho, Instr.makeFunc], .clo _ _ _ _ _ g1.1 g2.1 g1.2 g2.2⟩
  · cases hq
theorem zuS (hE : zbs ι N env a) {o : Oper} {t : TypeId} {x : Operand} (ho : o.op = .makeInterface t x) {fs : Array Field} (hs : P.underlying t = some (.struct fs)) {v : V}
    (hq : q h env (.mkI t (opX x)) = some v) : QOk P ι a w o v := by
  simp only [q, Option.map_eq_some_iff] at hq
  obtain ⟨v1, h1, rfl⟩ := hq
  exact ⟨.iface t (a.eval x), fun w' _ => by simp [execOp, ho, Instr.makeInterface, zae hs], .ifc _ _ _ (zac hE h1)⟩
end
end Go.Mx
