/-
  Append and copy; all operations that make memory or write it and call nothing. Conditions: none.
-/
import Derived.Test.YtobhjbbinnbdaaaNnMx6
namespace Go.Mx
open Go Go.RowKit
section
variable {P : Program} {B N : Nat} {w1 w : World} {ι : Io} {h : zaj} {env : List V} {a : Act}
theorem zbx {o : Oper} {c : Call} {t t' el el' : TypeId} {x y : Operand} (ho : o.op = .call c) (hc : c.callee = .builtin .append) (h1 : c.argTypes.toList = [t, t']) (h2 : c.args.toList = [x, y])
    (ht : P.underlying t = some (.slice el)) (ht' : P.underlying t' = some (.slice el')) (hty : zb0 P el = true) {zv : Value} (hz : (P.info? el).bind (·.zero) = some zv) (hzc : P.cellsOf el = zv.cells.size) (hbytes : 0 < P.bytesOf el)
    {base ad : Option Addr} {zfB sCap n xc : Nat} {os us : List Value} (hx : a.eval x = .slice base zfB sCap) (hy : a.eval y = .slice ad n xc) (hg : sCap < zfB + n) (hfit : (zfB + n) * P.bytesOf el ≤ 140737488355328)
    (hos : ∀ w', Below w.heap.size w w' → (Builtin.firstCells (P.cellsOf el) zfB (.slice base zfB sCap)).run P w' = .ok os.toArray w') (hus : ∀ w', Below w.heap.size w w' → (Builtin.firstCells (P.cellsOf el) n (.slice ad n xc)).run P w' = .ok us.toArray w') :
    ∃ newCap zs, (execOp a.eval o).run P w = .ok (.value (.slice (some ⟨w.heap.size, 0, none⟩) (zfB + n) newCap)) (zaU { w with drawn := w.drawn + 1 } (.cells (os.toArray ++ us.toArray ++ zs) el (0, 0))) ∧
      zfB + n ≤ newCap ∧ newCap < 2 ^ 63 ∧ zs.size = (newCap - (zfB + n)) * P.cellsOf el := by
  have h1' : c.argTypes = #[t, t'] := by rw [← Array.toArray_toList (xs := c.argTypes), h1]
  have h2' : c.args = #[x, y] := by rw [← Array.toArray_toList (xs := c.args), h2]
  simp only [zb0, Bool.and_eq_true] at hty
  obtain ⟨ti, hti⟩ := Option.isSome_iff_exists.1 hty.1
  have hbt : P.bytesOf el = ti.bytes := by simp [Program.bytesOf, hti]
  rw [hbt] at hbytes hfit
  have hn : ¬ (zfB + n ≤ sCap) := by omega
  have hfits := growslice_fits hg hfit
  have h48 : ¬ (281474976710656 < Builtin.nextslicecap (zfB + n) sCap * ti.bytes) := by omega
  have hneed : zfB + n ≤ 140737488355328 := Nat.le_trans (Nat.le_mul_of_pos_right _ hbytes) hfit
  have hb0 : ¬ (ti.bytes = 0) := by omega
  have hbel : Below w.heap.size w { w with drawn := w.drawn + 1 } := ⟨rfl, rfl, rfl, Nat.le_refl _, fun _ _ => rfl⟩
  have e1 : (Builtin.firstCells (P.cellsOf el) zfB (.slice base zfB sCap)).run P w.drew = .ok os.toArray w.drew := hos _ hbel
  have e2 : (Builtin.firstCells (P.cellsOf el) n (.slice ad n xc)).run P w.drew = .ok us.toArray w.drew := hus _ hbel
  refine ⟨(Question.appendCap (zfB + n) sCap el).cut (w.tape w.drawn (.appendCap (zfB + n) sCap el)), Builtin.zeroCells zv.cells ((Question.appendCap (zfB + n) sCap el).cut (w.tape w.drawn (.appendCap (zfB + n) sCap el)) - (zfB + n)), ?_, ?_, ?_, ?_⟩
  · rw [zaT ho hc]
    simp [builtin, Builtin.append_, h1', h2', hx, hy, zae ht, zae ht', zar hty.1, Builtin.lenOf, hn, zdN hti, hb0, h48, Question.forced, e1, e2, zaJ hz, newRow]
    rw [← List.append_toArray, Array.append_assoc]
    rfl
  · simp [Question.cut]
  · simp only [Question.cut]
    have : w.tape w.drawn (.appendCap (zfB + n) sCap el) % (2 ^ 63 - (zfB + n)) < 2 ^ 63 - (zfB + n) := Nat.mod_lt _ (by omega)
    omega
  · simp [Builtin.zeroCells, hzc]
theorem run_append_room {o : Oper} {c : Call} {t t' el el' : TypeId} {x y : Operand} (ho : o.op = .call c) (hc : c.callee = .builtin .append) (h1 : c.argTypes.toList = [t, t']) (h2 : c.args.toList = [x, y])
    (ht : P.underlying t = some (.slice el)) (ht' : P.underlying t' = some (.slice el')) (hty : zb0 P el = true)
    {base ad : Option Addr} {zfB sCap n xc : Nat} {us : List Value} (hx : a.eval x = .slice base zfB sCap) (hy : a.eval y = .slice ad n xc) (hg : zfB + n ≤ sCap)
    (hus : (Builtin.firstCells (P.cellsOf el) n (.slice ad n xc)).run P w = .ok us.toArray w) {w' : World} (hst : ∀ b, base = some b → (storeCells (b.add (zfB * P.cellsOf el)) us 0).run P w = .ok () w') (hno : base = none → w' = w) :
    (execOp a.eval o).run P w = .ok (.value (.slice base (zfB + n) sCap)) w' := by
  have h1' : c.argTypes = #[t, t'] := by rw [← Array.toArray_toList (xs := c.argTypes), h1]
  have h2' : c.args = #[x, y] := by rw [← Array.toArray_toList (xs := c.args), h2]
  simp only [zb0, Bool.and_eq_true] at hty
  rw [zaT ho hc]
  cases base with
  | none =>
    rw [hno rfl]
    simp [builtin, Builtin.append_, h1', h2', hx, hy, zae ht, zae ht', zar hty.1, Builtin.lenOf, hg, hus]
  | some b =>
    simp [builtin, Builtin.append_, h1', h2', hx, hy, zae ht, zae ht', zar hty.1, Builtin.lenOf, hg, hus, hst b rfl]
theorem za4 (size : Nat) (ad : Option Addr) (len cap : Nat) (w' : World) : (Builtin.firstCells size 0 (.slice ad len cap)).run P w' = .ok #[] w' := by
  cases ad with
  | none => simp [Builtin.firstCells]
  | some b => simp [Builtin.firstCells, loadCells, loadCellsFrom]
theorem Sim.zhV (hS : Sim P B w1 ι h w) {β o m : Nat} {cs l : List V} (hβ : zaD h β = some cs) (hl : slot o m cs = some l) {b s sz : Nat} (hι : ι β = some (b, s, sz)) :
    ∃ us : List Value, us.length = m ∧ zdP ι l us.toArray ∧ ∀ j, j ≤ m → ∀ w', Below w.heap.size w w' → (loadCells ⟨b, s + o, none⟩ j).run P w' = .ok (us.take j).toArray w' := by
  obtain ⟨h1, h2, h3⟩ := zif hl
  obtain ⟨b', s', sz', arr, T, fr, k1, k2, k3, k4, k5, k6⟩ := hS.cells hβ
  rw [hι] at k1; cases k1
  have hget : ∀ (k : Nat) x, l[k]? = some x → ∃ u, (arr.toList.drop (s + o) |>.take m)[k]? = some u ∧ VRel ι x u ∧ u.oneCell' = true := by
    intro k x hk
    have hkm : k < m := by rw [← h2]; exact (List.getElem?_eq_some_iff.1 hk).1
    rw [h3 k hkm] at hk
    obtain ⟨u, g1, g2, g3⟩ := k5 (o + k) x hk
    refine ⟨u, ?_, g2, g3⟩
    rw [List.getElem?_take, if_pos hkm, List.getElem?_drop]
    rw [show s + o + k = s + (o + k) by omega]
    simpa using g1
  have hlen : (arr.toList.drop (s + o) |>.take m).length = m := by simp; omega
  refine ⟨(arr.toList.drop (s + o) |>.take m), hlen, ⟨by simpa [h2] using hlen, fun k x u hx hu => ?_⟩, fun j hj w' hw' => ?_⟩
  · obtain ⟨u', g1, g2⟩ := hget k x hx
    have : u = u' := by
      have hu' : (arr.toList.drop (s + o) |>.take m)[k]? = some u := by simpa using hu
      rw [g1] at hu'; cases hu'; rfl
    subst this
    exact g2
  · have := run_loadCells_list (P := P) (w := w') ⟨b, s + o, none⟩ ((arr.toList.drop (s + o) |>.take m).take j) (fun k v hk => by
      have hkj : k < j := by
        have := (List.getElem?_eq_some_iff.1 hk).1
        simp at this; omega
      rw [List.getElem?_take, if_pos hkj, List.getElem?_take, if_pos (by omega), List.getElem?_drop] at hk
      rw [zcr]
      exact zia ((hw'.block _ (zbc k2)).trans k2) (by simpa using hk))
    have hl' : ((arr.toList.drop (s + o) |>.take m).take j).length = j := by rw [List.length_take, hlen]; omega
    rw [hl'] at this
    exact this
theorem zdy (hS : Sim P B w1 ι h w) {n k : Nat} {v : V} {l : List V} {u : Value} (hs : zdT h n v = some (k, l)) (hv : VRel ι v u) :
    ∃ (ad : Option Addr) (xc : Nat) (us : List Value), u = .slice ad k xc ∧ us.length = k * n ∧ zdP ι l us.toArray ∧ ∀ j, j ≤ k → ∀ w', Below w.heap.size w w' → (Builtin.firstCells n j u).run P w' = .ok (us.take (j * n)).toArray w' := by
  have hnil : zdP ι [] #[] := ⟨rfl, by simp⟩
  unfold zdT at hs
  split at hs
  · simp only [Option.some.injEq, Prod.mk.injEq] at hs
    obtain ⟨rfl, rfl⟩ := hs
    have := hv.zbL
    subst this
    exact ⟨none, 0, [], rfl, by simp, hnil, fun j hj w' _ => by
      have : j = 0 := by omega
      subst this
      simpa using za4 n none 0 0 w'⟩
  · rename_i β o n' len cap
    cases hb : (n == n') with
    | false => simp only [hb, cond_false] at hs; cases hs
    | true =>
      simp only [hb, cond_true] at hs
      have hn : n = n' := by simpa using hb
      subst hn
      cases hl0 : (len == 0) with
      | true =>
        simp only [hl0, cond_true, Option.some.injEq, Prod.mk.injEq] at hs
        obtain ⟨rfl, rfl⟩ := hs
        have hl0 : len = 0 := by simpa using hl0
        subst hl0
        have key : ∀ ad xc, u = .slice ad 0 xc → ∃ (ad : Option Addr) (xc : Nat) (us : List Value), u = .slice ad 0 xc ∧ us.length = 0 * n ∧ zdP ι [] us.toArray ∧ ∀ j, j ≤ 0 → ∀ w', Below w.heap.size w w' → (Builtin.firstCells n j u).run P w' = .ok (us.take (j * n)).toArray w' := by
          intro ad xc hu
          exact ⟨ad, xc, [], hu, by simp, hnil, fun j hj w' _ => by
            have : j = 0 := by omega
            subst this
            rw [hu]
            simpa using za4 n ad 0 xc w'⟩
        cases hv with
        | sl => exact key _ _ rfl
        | sl0 => exact key _ _ rfl
      | false =>
        simp only [hl0, cond_false, Option.map_eq_some_iff, Prod.mk.injEq] at hs
        obtain ⟨l', hsl, rfl, rfl⟩ := hs
        obtain ⟨cs, hcs, hsl⟩ := Option.bind_eq_some_iff.1 hsl
        cases hv with
        | sl0 => simp at hl0
        | sl _ _ _ _ _ b s sz cap' hι k1 k2 k3 k4 k5 k6 =>
          obtain ⟨us, g1, g2, g3⟩ := hS.zhV hcs hsl hι
          refine ⟨_, cap', us, rfl, g1, g2, fun j hj w' hw' => ?_⟩
          simp only [Builtin.firstCells]
          exact g3 (j * n) (Nat.mul_le_mul_right n hj) w' hw'
  · cases hs
theorem zdP.append {l l' : List V} {arr arr' : Array Value} (h1 : zdP ι l arr) (h2 : zdP ι l' arr') : zdP ι (l ++ l') (arr ++ arr') := by
  refine ⟨by simp [h1.1, h2.1], fun i x v hx hv => ?_⟩
  rw [List.getElem?_append] at hx
  rw [Array.getElem?_append] at hv
  rw [h1.1] at hv
  split at hx
  · rename_i hc
    rw [if_pos hc] at hv
    exact h1.2 i x v hx hv
  · rename_i hc
    rw [if_neg hc] at hv
    exact h2.2 _ x v hx hv
theorem zhp (w : World) (b : Option Nat) : w.grownBy { w with drawn := w.drawn + 1 } b := ⟨rfl, rfl, rfl, Nat.le_refl _, fun _ _ _ => rfl⟩
theorem zdu (w : World) : Below w.heap.size w { w with drawn := w.drawn + 1 } := ⟨rfl, rfl, rfl, Nat.le_refl _, fun _ _ => rfl⟩
theorem Sim.zgb (hS : Sim P B w1 ι h w) {n len k newCap : Nat} {os us : List V} {vs ws : List Value} {zs : Array Value} {T : TypeId} (h1 : zdP ι os vs.toArray) (h2 : zdP ι us ws.toArray) (hl1 : vs.length = len * n) (hl2 : ws.length = k * n)
    (hn : 0 < n) (hc : len + k ≤ newCap) (hc2 : newCap < 2 ^ 63) (hz : zs.size = (newCap - (len + k)) * n) :
    ∃ ι', Io.le ι ι' ∧ Sim P B w1 ι' (h ++ [.blk (os ++ us)]) (zaU { w with drawn := w.drawn + 1 } (.cells (vs.toArray ++ ws.toArray ++ zs) T (0, 0))) ∧ VRel ι' (.sl h.length 0 n (len + k) none) (.slice (some ⟨w.heap.size, 0, none⟩) (len + k) newCap) := by
  have hS1 := hS.grown (zhp w none)
  have hL := h1.append h2
  generalize harr : vs.toArray ++ ws.toArray ++ zs = arr
  have hsz : arr.size = newCap * n := by
    rw [← harr]
    simp only [Array.size_append, List.size_toArray, hl1, hl2, hz]
    rw [← Nat.add_mul, ← Nat.add_mul]
    congr 1; omega
  have hS2 := hS1.alloc (o := .blk (os ++ us)) (s := 0) (sz := arr.size) (.cells arr T (0, 0)) ⟨w.heap.size, 0, arr.size, arr, T, (0, 0), Io.zaK _ _ _, zdq { w with drawn := w.drawn + 1 } _, rfl, by
    have := hL.1
    rw [← harr]
    simp only [Array.size_append] at this ⊢
    omega, fun i v hi => by
    obtain ⟨u, g1, g2, g3⟩ := hL.get hi
    refine ⟨u, ?_, g2.mono (hS1.zci _), g3⟩
    rw [Nat.zero_add, ← harr, Array.getElem?_append_left (Array.getElem?_eq_some_iff.1 g1).1]
    exact g1, fun _ => rfl⟩
  refine ⟨_, hS1.zci _, hS2, ?_⟩
  have := VRel.sl (ι := ι.ext h.length (w.heap.size, 0, arr.size)) h.length 0 n (len + k) none w.heap.size 0 arr.size newCap (Io.zaK _ _ _) (by rw [hsz]; omega) hc hc2 hn (by simp) (by rw [hsz]; omega)
  simpa using this
theorem zha {o n : Nat} {cs : List V} (hle : o + n ≤ cs.length) : slot o n cs = some ((cs.drop o).take n) := by
  unfold slot
  rw [Nat.ble_eq_true_of_le hle]; rfl
theorem zmQ (cs : List V) (o : Nat) : za1 cs o [] = cs := by simp [za1]
theorem Sim.extend (hS : Sim P B w1 ι h w) {β o : Nat} {cs l : List V} {us : List Value} (hβ : zaD h β = some cs) (hB : B ≤ β) (hL : zdP ι l us.toArray) {b s sz : Nat} (hι : ι β = some (b, s, sz)) (ho : o ≤ cs.length) (hroom : s + cs.length + l.length ≤ sz) :
    ∃ w', (storeCells ⟨b, s + cs.length, none⟩ us 0).run P w = .ok () w' ∧ Sim P B w1 (ι.ext h.length (b, s + o, sz)) (h.set β .dead ++ [.blk (cs.drop o ++ l)]) w' ∧ ∀ γ, γ ≠ b → w'.heap[γ]? = w.heap[γ]? := by
  obtain ⟨b', s', sz', arr, T, fr, k1, k2, k3, k4, k5, k6⟩ := hS.cells hβ
  rw [hι] at k1; cases k1
  have hfr := k6 hB
  subst hfr
  have hll : us.length = l.length := by simpa using hL.1
  have hones : ∀ v ∈ us, v.oneCell' = true := by simpa using hL.zuO
  have hrun := zdg (P := P) (b := b) (off := s + cs.length) (T := T) us 0 arr w k2 hones (by omega)
  refine ⟨_, hrun, ?_, fun γ hγ => by unfold zgU; exact Array.getElem?_setIfInBounds_ne (Ne.symm hγ)⟩
  obtain ⟨p1, p2⟩ := zhw arr (s + cs.length) us (by omega)
  have hb := zcB hβ
  have hK := hS.kill β
  have hlen : (h.set β .dead).length = h.length := by simp
  have hown := hS.own β _ b s sz hb trivial hB hι
  rw [← hlen]
  refine hK.zss (zcL _ _ _) hown (fun γ p b' s' sz' h1 h2 h3 h4 he => ?_) ?_
  · subst he
    by_cases hγ : β = γ
    · subst hγ
      have hlt : β < h.length := (List.getElem?_eq_some_iff.1 hb).1
      rw [List.getElem?_set_self hlt] at h1; cases h1; exact h2.elim
    · rw [List.getElem?_set_ne hγ] at h1
      exact hγ (hS.inj β γ _ p b' s sz s' sz' hb h1 trivial h2 hB h3 hι h4)
  · refine ⟨b, s + o, sz, _, T, (0, 0), Io.zaK _ _ _, zgs _ (zbc k2), p1.trans k3, by simp; omega, fun k v hk => ?_, fun _ => rfl⟩
    have hp := p2 (s + o + k)
    unfold zjO at hp
    rw [hp, hll]
    rw [List.getElem?_append] at hk
    simp only [List.length_drop] at hk
    have hle : Io.le ι (ι.ext (h.set β .dead).length (b, s + o, sz)) := hK.zci _
    split at hk
    · rename_i hc
      rw [if_neg (by omega)]
      rw [List.getElem?_drop] at hk
      obtain ⟨u, g1, g2, g3⟩ := k5 (o + k) v hk
      exact ⟨u, by rw [Nat.add_assoc]; exact g1, g2.mono hle, g3⟩
    · rename_i hc
      have hkl : k - (cs.length - o) < l.length := (List.getElem?_eq_some_iff.1 hk).1
      rw [if_pos (by omega)]
      obtain ⟨u, g1, g2, g3⟩ := hL.get hk
      exact ⟨u, by have : s + o + k - (s + cs.length) = k - (cs.length - o) := by omega
                   rw [this]; simpa using g1, g2.mono hle, g3⟩
theorem zvb (hS : Sim P B w1 ι h w) (hE : zbs ι N env a) {o : Oper} {c : Call} {t t' el el' : TypeId} {x y : Operand} (ho : o.op = .call c) (hc : c.callee = .builtin .append) (h1 : c.argTypes.toList = [t, t']) (h2 : c.args.toList = [x, y])
    (ht : P.underlying t = some (.slice el)) (ht' : P.underlying t' = some (.slice el')) (hty : zb0 P el = true) (hn : 0 < P.cellsOf el) (hby : 0 < P.bytesOf el) {z : List Value} (hz : zeb P el = some z) (hzl : z.length = P.cellsOf el) {v : V} {h' : zaj}
    (he : eff B h env (.app (P.cellsOf el) (P.bytesOf el) (opX x) (opX y)) = some (v, h')) : EOk P B w1 ι a w o v h' false h ((ev env (opX x)).bind zmR) := by
  obtain ⟨zv, hzv, hzc⟩ := zbP hz
  have hzs : P.cellsOf el = zv.cells.size := by rw [← hzl, ← hzc]; simp
  have hmb : zal = 140737488355328 := rfl
  simp only [eff] at he
  split at he
  · rename_i k l hx1 hs1
    obtain ⟨vy, hy1, hsrc⟩ := Option.bind_eq_some_iff.1 hs1
    have hx := (zac hE hx1).zbL
    obtain ⟨ad, xc, us, hu, hul, hUL, hfirst⟩ := zdy hS hsrc (zac hE hy1)
    rw [hu] at hfirst
    have hf := hfirst k (Nat.le_refl _)
    have htk : us.take (k * P.cellsOf el) = us := List.take_of_length_le (by omega)
    rw [htk] at hf
    cases hk : (k == 0) with
    | true =>
      simp only [hk, cond_true, Option.some.injEq, Prod.mk.injEq] at he
      obtain ⟨rfl, rfl⟩ := he
      have hk0 : k = 0 := by simpa using hk
      subst hk0
      have hrun := run_append_room (w := w) (w' := w) ho hc h1 h2 ht ht' hty hx hu (by omega) (hf w (Below.refl _ _)) (by simp) (fun _ => rfl)
      exact ⟨_, _, ι, .inl hrun, Io.le.refl _, hS, .lit _, by simp, .za7 (Below.refl _ _)⟩
    | false =>
      simp only [hk, cond_false] at he
      have hk0 : k ≠ 0 := by simpa using hk
      cases hb : Nat.ble (k * P.bytesOf el) zal with
      | false => simp only [hb, cond_false] at he; cases he
      | true =>
        simp only [hb, cond_true, Option.some.injEq, Prod.mk.injEq] at he
        obtain ⟨rfl, rfl⟩ := he
        have hfit := Nat.le_of_ble_eq_true hb
        obtain ⟨newCap, zs, r1, r2, r3, r4⟩ := zbx (os := []) ho hc h1 h2 ht ht' hty hzv hzs hby hx hu (by omega) (by rw [Nat.zero_add]; omega) (fun w' _ => by simpa using za4 _ none 0 0 w') hf
        obtain ⟨ι', g1, g2, g3⟩ := hS.zgb (n := P.cellsOf el) (len := 0) (k := k) (newCap := newCap) (os := []) (vs := []) (us := l) (ws := us) (zs := zs) (T := el) ⟨rfl, by simp⟩ hUL (by simp) hul hn (by omega) r3 (by simpa using r4)
        refine ⟨_, _, ι', .inl r1, g1, ?_, ?_, by simp, .za7 ((zdu w).trans (zat { w with drawn := w.drawn + 1 } _))⟩
        · simpa using g2
        · simpa using g3
  · rename_i β off n' len cap k l hx1 hs1
    obtain ⟨vy, hy1, hsrc⟩ := Option.bind_eq_some_iff.1 hs1
    cases hnn : (P.cellsOf el == n') with
    | false => simp only [hnn, Bool.not_false, cond_true] at he; cases he
    | true =>
      simp only [hnn, Bool.not_true, cond_false] at he
      have hn' : P.cellsOf el = n' := by simpa using hnn
      subst hn'
      have hx := zac hE hx1
      obtain ⟨ad, xc, us, hu, hul, hUL, hfirst⟩ := zdy hS hsrc (zac hE hy1)
      rw [hu] at hfirst
      have hf := hfirst k (Nat.le_refl _)
      have htk : us.take (k * P.cellsOf el) = us := List.take_of_length_le (by omega)
      rw [htk] at hf
      have hll : l.length = us.length := by simpa using hUL.1.symm
      cases hk : (k == 0) with
      | true =>
        simp only [hk, cond_true, Option.some.injEq, Prod.mk.injEq] at he
        obtain ⟨rfl, rfl⟩ := he
        have hk0 : k = 0 := by simpa using hk
        subst hk0
        have hus : us = [] := List.eq_nil_of_length_eq_zero (by omega)
        subst hus
        generalize hu0 : a.eval x = u0 at hx
        cases hx with
        | sl _ _ _ _ _ b s sz cap' hι k1 k2 k3 k4 k5 k6 =>
          have hrun := run_append_room (w := w) (w' := w) ho hc h1 h2 ht ht' hty hu0 hu (by omega) (hf w (Below.refl _ _)) (fun b _ => by simp [storeCells]) (by simp)
          exact ⟨_, _, ι, .inl hrun, Io.le.refl _, hS, .sl _ _ _ _ _ b s sz cap' hι k1 (by omega) k3 k4 k5 k6, by simp, .za7 (Below.refl _ _)⟩
        | sl0 _ _ _ _ ad' k4 k5 k6 =>
          have hrun := run_append_room (w := w) (w' := w) ho hc h1 h2 ht ht' hty hu0 hu (by omega) (hf w (Below.refl _ _)) (fun b _ => by simp [storeCells]) (by simp)
          exact ⟨_, _, ι, .inl hrun, Io.le.refl _, hS, .sl0 _ _ _ _ ad' k4 k5 k6, by simp, .za7 (Below.refl _ _)⟩
      | false =>
        simp only [hk, cond_false] at he
        have hk0 : k ≠ 0 := by simpa using hk
        split at he
        · rename_i cs c0 hcs
          cases hroom : Nat.ble (len + k) c0 with
          | true =>
            simp only [hroom, cond_true] at he
            have hroom := Nat.le_of_ble_eq_true hroom
            cases hb : Nat.ble B β && Nat.ble (off + (len + k) * P.cellsOf el) cs.length with
            | false => simp only [hb, cond_false] at he; cases he
            | true =>
              simp only [hb, cond_true, Option.some.injEq, Prod.mk.injEq] at he
              obtain ⟨rfl, rfl⟩ := he
              simp only [Bool.and_eq_true] at hb
              have hB := Nat.le_of_ble_eq_true hb.1
              have hle := Nat.le_of_ble_eq_true hb.2
              rw [Nat.add_mul] at hle
              generalize hu0 : a.eval x = u0 at hx
              cases hx with
              | sl0 _ _ _ _ ad' k4 k5 k6 => have := k5 c0 rfl; omega
              | sl _ _ _ _ _ b s sz cap' hι k1 k2 k3 k4 k5 k6 =>
                have hcc := k5 c0 rfl
                subst hcc
                obtain ⟨w', r1, r2, r3⟩ := hS.zff hcs hB hUL (o := off + len * P.cellsOf el) (by omega) hι
                have hrun := run_append_room (w := w) (w' := w') ho hc h1 h2 ht ht' hty hu0 hu hroom (hf w (Below.refl _ _)) (fun b' hb' => by
                  cases hb'
                  rw [zcr, Nat.add_assoc]
                  simpa using r1) (by simp)
                exact ⟨_, _, ι, .inl hrun, Io.le.refl _, r2, .sl _ _ _ _ _ b s sz c0 hι k1 hroom k3 k4 k5 k6, by simp, .zhr r3 (by rw [hx1]; rfl) hι hcs hB⟩
          | false =>
            simp only [hroom, cond_false] at he
            have hroom : c0 < len + k := by
              rcases Nat.lt_or_ge c0 (len + k) with h0 | h0
              · exact h0
              · rw [Nat.ble_eq_true_of_le h0] at hroom; cases hroom
            cases hb : Nat.ble (off + len * P.cellsOf el) cs.length && Nat.ble ((len + k) * P.bytesOf el) zal with
            | false => simp only [hb, cond_false] at he; cases he
            | true =>
              simp only [hb, cond_true, Option.some.injEq, Prod.mk.injEq] at he
              obtain ⟨rfl, rfl⟩ := he
              simp only [Bool.and_eq_true] at hb
              have hle := Nat.le_of_ble_eq_true hb.1
              have hfit := Nat.le_of_ble_eq_true hb.2
              generalize hu0 : a.eval x = u0 at hx
              cases hx with
              | sl0 _ _ _ _ ad' k4 k5 k6 =>
                obtain ⟨newCap, zs, r1, r2, r3, r4⟩ := zbx (w := w) (os := []) ho hc h1 h2 ht ht' hty hzv hzs hby hu0 hu (by omega) (by omega) (fun w' _ => by simpa using za4 _ (some ad') 0 0 w') hf
                obtain ⟨ι', g1, g2, g3⟩ := hS.zgb (n := P.cellsOf el) (len := 0) (k := k) (newCap := newCap) (os := []) (vs := []) (us := l) (ws := us) (zs := zs) (T := el) ⟨rfl, by simp⟩ hUL (by simp) hul hn (by omega) r3 (by simpa using r4)
                refine ⟨_, _, ι', .inl r1, g1, ?_, ?_, by simp, .za7 ((zdu w).trans (zat { w with drawn := w.drawn + 1 } _))⟩
                · simpa using g2
                · simpa using g3
              | sl _ _ _ _ _ b s sz cap' hι k1 k2 k3 k4 k5 k6 =>
                have hcc := k5 c0 rfl
                subst hcc
                obtain ⟨vs, v1, v2, v3⟩ := hS.zhV hcs (zha hle) hι
                have hfo : ∀ w', Below w.heap.size w w' → (Builtin.firstCells (P.cellsOf el) len (.slice (some ⟨b, s + off, none⟩) len c0)).run P w' = .ok vs.toArray w' := fun w' hw' => by
                  simp only [Builtin.firstCells]
                  have := v3 (len * P.cellsOf el) (Nat.le_refl _) w' hw'
                  rw [List.take_of_length_le (by omega)] at this
                  exact this
                obtain ⟨newCap, zs, r1, r2, r3, r4⟩ := zbx (w := w) (os := vs) ho hc h1 h2 ht ht' hty hzv hzs hby hu0 hu hroom (by omega) hfo hf
                obtain ⟨ι', g1, g2, g3⟩ := hS.zgb (n := P.cellsOf el) (len := len) (k := k) (newCap := newCap) (os := (cs.drop off).take (len * P.cellsOf el)) (vs := vs) (us := l) (ws := us) (zs := zs) (T := el) v2 hUL v1 hul hn r2 r3 r4
                exact ⟨_, _, ι', .inl r1, g1, g2, g3, by simp, .za7 ((zdu w).trans (zat { w with drawn := w.drawn + 1 } _))⟩
        · rename_i cs hcs
          cases hin : Nat.ble (off + (len + k) * P.cellsOf el) cs.length with
          | true =>
            simp only [hin, cond_true] at he
            cases hBb : Nat.ble B β with
            | false => simp only [hBb, cond_false] at he; cases he
            | true =>
              simp only [hBb, cond_true, Option.some.injEq, Prod.mk.injEq] at he
              obtain ⟨rfl, rfl⟩ := he
              have hB := Nat.le_of_ble_eq_true hBb
              have hle := Nat.le_of_ble_eq_true hin
              have hkp : 0 < k * P.cellsOf el := Nat.mul_pos (by omega) hn
              have hle2 := hle
              rw [Nat.add_mul] at hle
              obtain ⟨b0, s0, sz0, arr0, T0, fr0, q1, q2, q3, q4, q5, q6⟩ := hS.cells hcs
              generalize hu0 : a.eval x = u0 at hx
              cases hx with
              | sl0 _ _ _ _ ad' k4 k5 k6 =>
                obtain ⟨b, s, sz, g1, g2⟩ := k6 rfl
                have q1' : some (b, s, sz) = some (b0, s0, sz0) := g1.symm.trans q1
                simp only [Option.some.injEq, Prod.mk.injEq] at q1'
                obtain ⟨rfl, rfl, rfl⟩ := q1'
                omega
              | sl _ _ _ _ _ b s sz cap' hι k1 k2 k3 k4 k5 k6 =>
                have g2 := k6 rfl
                have q1' : some (b, s, sz) = some (b0, s0, sz0) := hι.symm.trans q1
                simp only [Option.some.injEq, Prod.mk.injEq] at q1'
                obtain ⟨rfl, rfl, rfl⟩ := q1'
                have hroom : len + k ≤ cap' := by
                  refine Nat.le_of_mul_le_mul_right ?_ hn
                  omega
                obtain ⟨w', r1, r2, r3⟩ := hS.zff hcs hB hUL (o := off + len * P.cellsOf el) (by omega) hι
                have hrun := run_append_room (w := w) (w' := w') ho hc h1 h2 ht ht' hty hu0 hu hroom (hf w (Below.refl _ _)) (fun b' hb' => by
                  cases hb'
                  rw [zcr, Nat.add_assoc]
                  simpa using r1) (by simp)
                exact ⟨_, _, ι, .inl hrun, Io.le.refl _, r2, .sl _ _ _ _ _ b s sz cap' hι k1 hroom k3 k4 k5 k6, by simp, .zhr r3 (by rw [hx1]; rfl) hι hcs hB⟩
          | false =>
            simp only [hin, cond_false] at he
            cases hb : Nat.ble B β && (off + len * P.cellsOf el == cs.length) && Nat.ble ((len + k) * P.bytesOf el) zal with
            | false => simp only [hb, cond_false] at he; cases he
            | true =>
              simp only [hb, cond_true, Option.some.injEq, Prod.mk.injEq] at he
              obtain ⟨rfl, rfl⟩ := he
              simp only [Bool.and_eq_true, beq_iff_eq] at hb
              have hB := Nat.le_of_ble_eq_true hb.1.1
              have htail := hb.1.2
              have hfit := Nat.le_of_ble_eq_true hb.2
              have hlenk : (h.set β .dead).length = h.length := by simp
              have hdrop : (cs.drop off).take (len * P.cellsOf el) = cs.drop off := List.take_of_length_le (by simp; omega)
              generalize hu0 : a.eval x = u0 at hx
              cases hx with
              | sl0 _ _ _ _ ad' k4 k5 k6 =>
                have hd0 : cs.drop off = [] := by
                  rw [List.drop_eq_nil_iff]; omega
                obtain ⟨newCap, zs, r1, r2, r3, r4⟩ := zbx (w := w) (os := []) ho hc h1 h2 ht ht' hty hzv hzs hby hu0 hu (by omega) (by omega) (fun w' _ => by simpa using za4 _ (some ad') 0 0 w') hf
                obtain ⟨ι', g1, g2, g3⟩ := (hS.kill β).zgb (n := P.cellsOf el) (len := 0) (k := k) (newCap := newCap) (os := []) (vs := []) (us := l) (ws := us) (zs := zs) (T := el) ⟨rfl, by simp⟩ hUL (by simp) hul hn (by omega) r3 (by simpa using r4)
                refine ⟨_, _, ι', .inl r1, g1, ?_, ?_, by simp, .za7 ((zdu w).trans (zat { w with drawn := w.drawn + 1 } _))⟩
                · rw [hd0]; simpa using g2
                · rw [hlenk] at g3; simpa using g3
              | sl _ _ _ _ _ b s sz cap' hι k1 k2 k3 k4 k5 k6 =>
                rcases Nat.lt_or_ge cap' (len + k) with hroom | hroom
                · obtain ⟨vs, v1, v2, v3⟩ := hS.zhV hcs (zha (o := off) (n := len * P.cellsOf el) (by omega)) hι
                  have hfo : ∀ w', Below w.heap.size w w' → (Builtin.firstCells (P.cellsOf el) len (.slice (some ⟨b, s + off, none⟩) len cap')).run P w' = .ok vs.toArray w' := fun w' hw' => by
                    simp only [Builtin.firstCells]
                    have := v3 (len * P.cellsOf el) (Nat.le_refl _) w' hw'
                    rw [List.take_of_length_le (by omega)] at this
                    exact this
                  obtain ⟨newCap, zs, r1, r2, r3, r4⟩ := zbx (w := w) (os := vs) ho hc h1 h2 ht ht' hty hzv hzs hby hu0 hu hroom (by omega) hfo hf
                  rw [hdrop] at v2
                  obtain ⟨ι', g1, g2, g3⟩ := (hS.kill β).zgb (n := P.cellsOf el) (len := len) (k := k) (newCap := newCap) (os := cs.drop off) (vs := vs) (us := l) (ws := us) (zs := zs) (T := el) v2 hUL v1 hul hn r2 r3 r4
                  rw [hlenk] at g3
                  exact ⟨_, _, ι', .inl r1, g1, g2, g3, by simp, .za7 ((zdu w).trans (zat { w with drawn := w.drawn + 1 } _))⟩
                · have hcap : (len + k) * P.cellsOf el ≤ cap' * P.cellsOf el := Nat.mul_le_mul_right _ hroom
                  rw [Nat.add_mul] at hcap
                  obtain ⟨w', r1, r2, r3⟩ := hS.extend hcs hB hUL (o := off) hι (by omega) (by omega)
                  have hrun := run_append_room (w := w) (w' := w') ho hc h1 h2 ht ht' hty hu0 hu hroom (hf w (Below.refl _ _)) (fun b' hb' => by
                    cases hb'
                    rw [zcr]
                    have : s + off + len * P.cellsOf el = s + cs.length := by omega
                    rw [this]; exact r1) (by simp)
                  refine ⟨_, _, _, .inl hrun, hS.zci _, r2, ?_, by simp, .zhr r3 (by rw [hx1]; rfl) hι hcs hB⟩
                  have := VRel.sl (ι := ι.ext h.length (b, s + off, sz)) h.length 0 (P.cellsOf el) (len + k) none b (s + off) sz cap' (Io.zaK _ _ _) (by omega) hroom k3 k4 (by simp) (fun _ => by have := k6 rfl; omega)
                  simpa using this
        · cases he
  · cases he
theorem zsR (hS : Sim P B w1 ι h w) (hE : zbs ι N env a) {o : Oper} {c : Call} {t t' el : TypeId} {x y : Operand} (ho : o.op = .call c) (hc : c.callee = .builtin .copy) (h1 : c.argTypes.toList = [t, t']) (h2 : c.args.toList = [x, y])
    (ht : P.underlying t = some (.slice el)) (hty : zb0 P el = true) (hn : 0 < P.cellsOf el) {v : V} {h' : zaj}
    (he : eff B h env (.copy (P.cellsOf el) (opX x) (opX y)) = some (v, h')) : EOk P B w1 ι a w o v h' false h ((ev env (opX x)).bind zmR) := by
  have h1' : c.argTypes = #[t, t'] := by rw [← Array.toArray_toList (xs := c.argTypes), h1]
  have h2' : c.args = #[x, y] := by rw [← Array.toArray_toList (xs := c.args), h2]
  simp only [zb0, Bool.and_eq_true] at hty
  simp only [eff] at he
  split at he
  · rename_i β off n' len cap vy hx1 hy1
    split at he
    · rename_i k l hsrc
      split at he
      · rename_i cs hcs
        cases hb : (P.cellsOf el == n') && Nat.ble B β && Nat.ble (off + min k len * P.cellsOf el) cs.length with
        | false => simp only [hb, cond_false] at he; cases he
        | true =>
          simp only [hb, cond_true, Option.some.injEq, Prod.mk.injEq] at he
          obtain ⟨rfl, rfl⟩ := he
          simp only [Bool.and_eq_true, beq_iff_eq] at hb
          obtain ⟨⟨hn', hB⟩, hle⟩ := hb
          subst hn'
          have hB := Nat.le_of_ble_eq_true hB
          have hle := Nat.le_of_ble_eq_true hle
          have hx := zac hE hx1
          obtain ⟨ad, xc, us, hu, hul, hUL, hfirst⟩ := zdy hS hsrc (zac hE hy1)
          rw [hu] at hfirst
          have hf := hfirst (min k len) (Nat.min_le_left _ _) w (Below.refl _ _)
          have hrun : ∀ (base : Option Addr) (cap' : Nat) (w' : World), a.eval x = .slice base len cap' → (∀ b, base = some b → (storeCells b (us.take (min k len * P.cellsOf el)) 0).run P w = .ok () w') → base.isSome = true →
              (execOp a.eval o).run P w = .ok (.value (.int .i64 (min k len : Nat))) w' := by
            intro base cap' w' hx hst hsome
            obtain ⟨b, rfl⟩ := Option.isSome_iff_exists.1 hsome
            rw [zaT ho hc]
            have hmin : Nat.min k len = min k len := rfl
            simp [builtin, Builtin.copy_, h1', h2', hx, hu, zae ht, zar hty.1, Builtin.lenOf, hmin, hf, hst b rfl, goInt]
          have hL' : zdP ι (l.take (min k len * P.cellsOf el)) (us.take (min k len * P.cellsOf el)).toArray := by
            have hlu := hUL.1
            refine ⟨by simp at hlu ⊢; omega, fun i x v hx hv => ?_⟩
            rw [List.getElem?_take] at hx
            simp only [List.getElem?_toArray, List.getElem?_take] at hv
            split at hx
            · rename_i hi
              rw [if_pos hi] at hv
              exact hUL.2 i x v hx (by simpa using hv)
            · cases hx
          generalize hu0 : a.eval x = u0 at hx
          cases hx with
          | sl _ _ _ _ _ b s sz cap' hι k1 k2 k3 k4 k5 k6 =>
            obtain ⟨w', r1, r2, r3⟩ := hS.zff hcs hB hL' (o := off) (by simp; omega) hι
            exact ⟨_, w', ι, .inl (hrun _ _ w' hu0 (fun b' hb' => by cases hb'; simpa using r1) rfl), Io.le.refl _, r2, .lit _, by simp, .zhr r3 (by rw [hx1]; rfl) hι hcs hB⟩
          | sl0 _ _ _ _ ad' k4 k5 k6 =>
            have hm : min k 0 = 0 := by omega
            have hset : h.set β (.blk (za1 cs off (l.take (min k 0 * P.cellsOf el)))) = h := by
              rw [hm, Nat.zero_mul, List.take_zero, zmQ]
              have hb := zcB hcs
              have hlt := (List.getElem?_eq_some_iff.1 hb).1
              apply List.ext_getElem?
              intro i
              by_cases hi : β = i
              · subst hi; rw [List.getElem?_set_self hlt, hb]
              · rw [List.getElem?_set_ne hi]
            rw [hset]
            exact ⟨_, w, ι, .inl (hrun _ _ w hu0 (fun b' hb' => by rw [hm]; simp [storeCells]) rfl), Io.le.refl _, hS, .lit _, by simp, .za7 (Below.refl _ _)⟩
      · cases he
    · cases he
  · cases he
theorem zu3 (hS : Sim P B w1 ι h w) (hE : zbs ι N env a) {o : Oper} {c : Call} {t el : TypeId} {x : Operand} (ho : o.op = .call c) (hc : c.callee = .builtin .clear) (h1 : c.argTypes.toList = [t]) (h2 : c.args.toList = [x])
    (ht : P.underlying t = some (.slice el)) (hty : zb0 P el = true) (hn : 0 < P.cellsOf el) {z : List Value} (hz : zeb P el = some z) (hone : z.all zez = true) (hzl : z.length = P.cellsOf el) {v : V} {h' : zaj}
    (he : eff B h env (.clr (P.cellsOf el) z (opX x)) = some (v, h')) : EOk P B w1 ι a w o v h' false h ((ev env (opX x)).bind zmR) := by
  have h1' : c.argTypes = #[t] := by rw [← Array.toArray_toList (xs := c.argTypes), h1]
  have h2' : c.args = #[x] := by rw [← Array.toArray_toList (xs := c.args), h2]
  obtain ⟨zv, hzv, hzc⟩ := zbP hz
  simp only [eff] at he
  split at he
  · rename_i hx1
    simp only [Option.some.injEq, Prod.mk.injEq] at he
    obtain ⟨rfl, rfl⟩ := he
    have hx := (zac hE hx1).zbL
    refine ⟨_, w, ι, .inl ?_, Io.le.refl _, hS, .lit _, by simp, .za7 (Below.refl _ _)⟩
    rw [zaT ho hc]
    simp [builtin, Builtin.clear_, h1', h2', hx, zae ht]
  · rename_i β off n' len cap hx1
    cases hnn : (P.cellsOf el == n') with
    | false => simp only [hnn, Bool.not_false, cond_true] at he; cases he
    | true =>
      simp only [hnn, Bool.not_true, cond_false] at he
      have hn' : P.cellsOf el = n' := by simpa using hnn
      subst hn'
      have hx := zac hE hx1
      cases hl0 : (len == 0) with
      | true =>
        simp only [hl0, cond_true, Option.some.injEq, Prod.mk.injEq] at he
        obtain ⟨rfl, rfl⟩ := he
        have hl : len = 0 := by simpa using hl0
        subst hl
        have hrun : ∀ (base : Option Addr) (cap' : Nat), a.eval x = .slice base 0 cap' → (execOp a.eval o).run P w = .ok (.value (.tuple #[])) w := by
          intro base cap' hu
          rw [zaT ho hc]
          cases base <;> simp [builtin, Builtin.clear_, h1', h2', hu, zae ht]
        generalize hu0 : a.eval x = u0 at hx
        cases hx with
        | sl _ _ _ _ _ b s sz cap' hι k1 k2 k3 k4 k5 k6 => exact ⟨_, w, ι, .inl (hrun _ _ hu0), Io.le.refl _, hS, .lit _, by simp, .za7 (Below.refl _ _)⟩
        | sl0 _ _ _ _ ad' k4 k5 k6 => exact ⟨_, w, ι, .inl (hrun _ _ hu0), Io.le.refl _, hS, .lit _, by simp, .za7 (Below.refl _ _)⟩
      | false =>
        simp only [hl0, cond_false] at he
        have hl : len ≠ 0 := by simpa using hl0
        split at he
        · rename_i cs hcs
          cases hb : Nat.ble B β && Nat.ble (off + len * P.cellsOf el) cs.length with
          | false => simp only [hb, cond_false] at he; cases he
          | true =>
            simp only [hb, cond_true, Option.some.injEq, Prod.mk.injEq] at he
            obtain ⟨rfl, rfl⟩ := he
            simp only [Bool.and_eq_true] at hb
            have hB := Nat.le_of_ble_eq_true hb.1
            have hle := Nat.le_of_ble_eq_true hb.2
            have hL := zfd (ι := ι) hone len zv.cells hzc
            have hll : (zhL len (z.map V.lit)).length = len * P.cellsOf el := by simp [zhL, hzl]
            generalize hu0 : a.eval x = u0 at hx
            cases hx with
            | sl0 _ _ _ _ ad' k4 k5 k6 => exact absurd rfl hl
            | sl _ _ _ _ _ b s sz cap' hι k1 k2 k3 k4 k5 k6 =>
              obtain ⟨w', r1, r2, r3⟩ := hS.zff hcs hB hL (o := off) (by omega) hι
              refine ⟨_, w', ι, .inl ?_, Io.le.refl _, r2, .lit _, by simp, .zhr r3 (by rw [hx1]; rfl) hι hcs hB⟩
              rw [zaT ho hc]
              simp only [Array.toList_map, Array.toList_range] at r1
              cases len with
              | zero => exact absurd rfl hl
              | succ len => simp [builtin, Builtin.clear_, Builtin.zeroCells, h1', h2', hu0, zae ht, zaJ hzv, r1, Result.andThen]
        · cases he
  · cases he
theorem zcd {b : Bool} {i : I} {r : V × zaj} (he : eff B h env (bif b then i else .bad) = some r) : b = true ∧ eff B h env i = some r := by
  cases b with
  | true => exact ⟨rfl, he⟩
  | false => simp [eff] at he
theorem zns (hS : Sim P B w1 ι h w) (hE : zbs ι N env a) (o : Oper) {v : V} {h' : zaj} (he : eff B h env (zau P o) = some (v, h')) : EOk P B w1 ι a w o v h' (zeO false (zau P o)) h (zqJ env (zau P o)) := by
  obtain ⟨dst, op, type, pos, after, guard⟩ := o
  cases op with
  | alloc t =>
    simp only [zau] at he
    split at he
    · rename_i z hz
      obtain ⟨hone, he⟩ := zcd he
      exact zsg hS rfl hz hone he
    · simp [eff] at he
  | box t x => exact zvc hS hE rfl he
  | build t parts =>
    simp only [zau] at he
    split at he
    · obtain ⟨_, he⟩ := zcd he
      split at he
      · obtain ⟨_, he⟩ := zcd he; simp [eff] at he
      · obtain ⟨_, he⟩ := zcd he; simp [eff] at he
      · simp [eff] at he
    · simp [eff] at he
  | buildSlice t len parts =>
    simp only [zau] at he
    split at he
    · rename_i el hs
      obtain ⟨hb, he⟩ := zcd he
      simp only [Bool.and_eq_true] at hb
      split at he
      · rename_i z hz
        obtain ⟨hone, he⟩ := zcd he
        simp only [Bool.and_eq_true, beq_iff_eq] at hone
        exact zvg hS hE rfl hs hb.1.1 (Nat.blt_eq.mp hb.1.2) (Nat.le_of_ble_eq_true hb.2) hz hone.1 hone.2 he
      · simp [eff] at he
    · simp [eff] at he
  | load t x =>
    simp only [zau] at he
    obtain ⟨_, he⟩ := zcd he
    simp [eff] at he
  | store t x y =>
    simp only [zau] at he
    obtain ⟨ht, he⟩ := zcd he
    have := zr7 (o := ⟨dst, .store t x y, type, pos, after, guard⟩) hS hE rfl ht he
    simp only [zau, ht, cond_true, zeO, zah]
    exact this
  | fieldAddr s x f =>
    simp only [zau] at he
    split at he
    · split at he
      · obtain ⟨_, he⟩ := zcd he; simp [eff] at he
      · simp [eff] at he
    · simp [eff] at he
  | field s x f =>
    simp only [zau] at he
    split at he
    · split at he
      · obtain ⟨_, he⟩ := zcd he; simp [eff] at he
      · simp [eff] at he
    · simp [eff] at he
  | indexAddr t x i =>
    simp only [zau] at he
    split at he
    · obtain ⟨_, he⟩ := zcd he; simp [eff] at he
    · obtain ⟨_, he⟩ := zcd he; simp [eff] at he
    · simp [eff] at he
  | index t x i =>
    simp only [zau] at he
    split at he
    · obtain ⟨_, he⟩ := zcd he; simp [eff] at he
    · split at he <;> simp [eff] at he
    · simp [eff] at he
  | makeFunc fn first cap => cases fn <;> simp [zau, eff] at he
  | makeInterface t x =>
    simp only [zau] at he
    split at he <;> simp [eff] at he
  | binOp op t x y ty =>
    simp only [zau] at he
    split at he
    · simp [eff] at he
    all_goals first
      | (split at he <;> simp [eff] at he; done)
      | simp [eff] at he
  | convert s d x =>
    simp only [zau] at he
    split at he <;> simp [eff] at he
  | makeSlice t l c =>
    simp only [zau] at he
    split at he
    · rename_i el hs
      obtain ⟨hb, he⟩ := zcd he
      simp only [Bool.and_eq_true] at hb
      split at he
      · rename_i z hz
        obtain ⟨hone, he⟩ := zcd he
        simp only [Bool.and_eq_true, beq_iff_eq] at hone
        exact zwt hS hE rfl hs hb.1.1 (Nat.blt_eq.mp hb.1.2) (Nat.blt_eq.mp hb.2) hz hone.1 hone.2 he
      · simp [eff] at he
    · simp [eff] at he
  | slice t x lo hi mx =>
    simp only [zau] at he
    split at he
    · obtain ⟨_, he⟩ := zcd he; simp [eff] at he
    · obtain ⟨_, he⟩ := zcd he; simp [eff] at he
    · simp [eff] at he
  | call c =>
    have hfalse : ∀ {b : Bool} {t0 : Option Nat}, b = false → (∀ {v : V} {h' : zaj}, EOk P B w1 ι a w ⟨dst, .call c, type, pos, after, guard⟩ v h' false h t0 → EOk P B w1 ι a w ⟨dst, .call c, type, pos, after, guard⟩ v h' b h t0) := by
      intro b t0 hb v h' hh; rw [hb]; exact hh
    simp only [zau, zf9] at he ⊢
    split at he
    · obtain ⟨_, he⟩ := zcd he; simp [eff] at he
    · simp [eff] at he
    · rename_i b hc
      split at he
      · split at he <;> simp [eff] at he
      · simp [eff] at he
      · simp [eff] at he
      · rename_i t t' x y h1 h2
        split at he
        · rename_i el el' hs hs'
          obtain ⟨hb, he⟩ := zcd he
          split at he
          · rename_i z hz
            obtain ⟨hzl, he⟩ := zcd he
            have hb' := hb
            simp only [Bool.and_eq_true] at hb
            simp only [hb', hzl, cond_true, zeO, zah, zqJ, zmC, Option.bind_some]
            refine hfalse ?_ (zvb (o := ⟨dst, .call c, type, pos, after, guard⟩) hS hE rfl hc h1 h2 hs hs' hb.1.1 (Nat.blt_eq.mp hb.1.2) (Nat.blt_eq.mp hb.2) hz (by simpa using hzl) he)
            rfl
          · simp [eff] at he
        · simp [eff] at he
      · rename_i t t' x y h1 h2
        split at he
        · rename_i el el' hs hs'
          obtain ⟨hb, he⟩ := zcd he
          have hb' := hb
          simp only [Bool.and_eq_true] at hb
          simp only [hb', cond_true, zeO, zah, zqJ, zmC, Option.bind_some]
          refine hfalse ?_ (zsR (o := ⟨dst, .call c, type, pos, after, guard⟩) hS hE rfl hc h1 h2 hs hb.1 (Nat.blt_eq.mp hb.2) he)
          rfl
        · simp [eff] at he
      · rename_i t x h1 h2
        split at he
        · rename_i el hs
          obtain ⟨hb, he⟩ := zcd he
          split at he
          · rename_i z hz
            obtain ⟨hzl, he⟩ := zcd he
            have hb' := hb
            have hzl' := hzl
            simp only [Bool.and_eq_true, beq_iff_eq] at hb hzl
            simp only [hb', hzl', cond_true, zeO, zah, zqJ, zmC, Option.bind_some]
            refine hfalse ?_ (zu3 (o := ⟨dst, .call c, type, pos, after, guard⟩) hS hE rfl hc h1 h2 hs hb.1 (Nat.blt_eq.mp hb.2) hz hzl.1 hzl.2 he)
            rfl
          · simp [eff] at he
        · simp [eff] at he
      · simp [eff] at he
      · simp [eff] at he
    · simp [eff] at he
  | defer c =>
    simp only [zau] at he
    split at he <;> simp [eff] at he
  | _ => simp [zau, eff] at he
end
end Go.Mx
