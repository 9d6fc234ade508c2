/-
  Code: sequences, branches, blocks, loops, ranges over functions. Conditions: none.
-/
import Derived.Test.YtobhjbbinnbdaaaNnMxE
import Derived.RangeFuncNested
namespace Go.Mx
open Go Go.RowKit
section
variable {F : Fence} {n : Nat} {P : Program} {Q : Exit → Act → World → Prop} {a : Act} {w : World}
theorem zcY {b : Frame} {k : List Item} {cs : List Frame} {c : Code} : step P (lone (b.atR a (.code (.scope c) :: k)) cs w) = .next (lone (b.atR a (.code c :: .inScope c :: k)) cs w) :=
  step_lone_go (by simp [stepG, stepG.exec, Frame.atR])
theorem zh7 {b : Frame} {k : List Item} {cs : List Frame} {c : Code} : step P (lone (b.atR a (.inScope c :: k)) cs w) = .next (lone (b.atR a k) cs w) :=
  step_lone_go (by simp [stepG, stepG.exec, Frame.atR])
theorem zmf {c : Code} (hg : ∀ l a w, ¬ Q (.goto l) a w) (h : c.wpIn F n P Q a w) : (Code.scope c).wpIn F n P Q a w := by
  intro b k cs hro hb hr
  have h0 : (lone (b.atR a (.code (.scope c) :: k)) cs w).fenced P F := fenced_calm hb hr rfl
  obtain ⟨e, a₁, w₁, hq, harr⟩ := h b (.inScope c :: k) cs hro hb hr
  cases e with
  | normal => exact ⟨.normal, a₁, w₁, hq, .head h0 zcY (StepsIn.trans harr (.one (fenced_calm hb hr rfl) zh7))⟩
  | exit id =>
    have hx : exitTo id (.inScope c :: k) = exitTo id k := by simp [exitTo]
    refine ⟨.exit id, a₁, w₁, hq, .of_steps (.one h0 zcY) ⟨fun k' hk => harr.1 k' (hx.trans hk), fun hs hk => harr.2 hs (hx.trans hk)⟩⟩
  | ret => exact ⟨.ret, a₁, w₁, hq, .of_steps (.one h0 zcY) harr⟩
  | panic ch => exact ⟨.panic ch, a₁, w₁, hq, .of_steps (.one h0 zcY) harr⟩
  | goto l => exact (hg l a₁ w₁ hq).elim
  | outgrown => exact ⟨.outgrown, a₁, w₁, hq, .of_steps (.one h0 zcY) harr⟩
theorem ze0 {id : Nat} : ∀ (k k' : List Item), exitTo id k = some k' → k'.length < k.length
  | [], k', h => by simp [exitTo] at h
  | x :: k, k', h => by
    have hcons : exitTo id k = some k' → k'.length < (x :: k).length := fun h1 => by have := ze0 k k' h1; simp; omega
    cases x with
    | inBlock id' =>
      simp only [exitTo] at h
      split at h
      · cases h; simp
      · exact hcons h
    | _ => exact hcons (by simpa [exitTo] using h)
theorem zcK {I : Machine → Prop} {b : Frame} {k : List Item} {cs : List Frame} {c : Code} {m' : Machine} (hI : I (lone (b.atR a (.inLoop c :: k)) cs w)) (h : StepsIn I P (lone (b.atR a (.code (.loop c) :: k)) cs w) m') (hne : m' ≠ lone (b.atR a (.code (.loop c) :: k)) cs w) :
    StepsIn I P (lone (b.atR a (.inLoop c :: k)) cs w) m' := by
  cases h with
  | refl => exact absurd rfl hne
  | head hI' hs h' =>
    rw [stepR_loop] at hs
    cases hs
    exact .head hI stepR_inLoop h'
theorem zp6 {fr fr' : Frame} {cs cs' : List Frame} {w w' : World} (h : lone fr cs w = lone fr' cs' w') : fr = fr' ∧ cs = cs' ∧ w = w' := by
  simp only [lone, Machine.mk.injEq] at h
  obtain ⟨h1, h2, _⟩ := h
  simp at h2
  exact ⟨h2.1, h2.2, h1⟩
theorem zkK {c : Code} (hg : ∀ l a w, ¬ Q (.goto l) a w) (ho : ∀ a w, ¬ Q .outgrown a w) (h : c.wpIn F n P (Exit.then (fun a' w' => (Code.loop c).wpIn F n P Q a' w') Q) a w) : (Code.loop c).wpIn F n P Q a w := by
  intro b k cs hro hb hr
  have h0 : (lone (b.atR a (.code (.loop c) :: k)) cs w).fenced P F := fenced_calm hb hr rfl
  obtain ⟨e, a₁, w₁, hq, harr⟩ := h b (.inLoop c :: k) cs hro hb hr
  cases e with
  | normal =>
    obtain ⟨e₂, a₂, w₂, hq₂, harr₂⟩ := hq b k cs hro hb hr
    have hI : (lone (b.atR a₁ (.inLoop c :: k)) cs w₁).fenced P F := fenced_calm hb hr rfl
    have hne : ∀ (fr : Frame) (cs' : List Frame) (w' : World), fr.todo ≠ .code (.loop c) :: k ∨ fr.mode ≠ .run → lone fr cs' w' ≠ lone (b.atR a₁ (.code (.loop c) :: k)) cs w₁ := by
      intro fr cs' w' hd he
      obtain ⟨h1, _, _⟩ := zp6 he
      subst h1
      rcases hd with hd | hd <;> exact hd rfl
    have key : ArrivesIn (Machine.fenced P F) P (lone (b.atR a₁ (.inLoop c :: k)) cs w₁) b k cs e₂ a₂ w₂ := by
      cases e₂ with
      | normal => exact zcK hI harr₂ (hne _ _ _ (.inl fun hc => by have := congrArg List.length hc; simp [Frame.atR] at this))
      | exit id =>
        refine ⟨fun k' hk => zcK hI (harr₂.1 k' hk) (hne _ _ _ (.inl fun hc => ?_)), fun hs hk => ?_⟩
        · have h1 := congrArg List.length hc
          have h2 := ze0 k k' hk
          simp [Frame.atR] at h1
          omega
        · obtain ⟨k₁, h1, h2⟩ := harr₂.2 hs hk
          exact ⟨k₁, h1, zcK hI h2 (hne _ _ _ (.inl fun hc => by simp [Frame.atR] at hc))⟩
      | ret =>
        refine ⟨fun hn => ?_, fun hs => ?_⟩
        · obtain ⟨todo, h1⟩ := harr₂.1 hn
          exact ⟨todo, zcK hI h1 (hne _ _ _ (.inr (by simp)))⟩
        · obtain ⟨k₁, h1⟩ := harr₂.2 hs
          exact ⟨k₁, zcK hI h1 (hne _ _ _ (.inl fun hc => by simp [Frame.atR] at hc))⟩
      | panic ch =>
        obtain ⟨todo, h1⟩ := harr₂
        exact ⟨todo, zcK hI h1 (hne _ _ _ (.inr (by simp)))⟩
      | goto l => exact (hg l a₂ w₂ hq₂).elim
      | outgrown => exact (ho a₂ w₂ hq₂).elim
    exact ⟨e₂, a₂, w₂, hq₂, .of_steps (.head h0 stepR_loop harr) key⟩
  | exit id => exact ⟨_, a₁, w₁, hq, .of_steps (.one h0 stepR_loop) (.pass (x := .inLoop c) rfl (fun _ _ => .inl (by simp)) harr)⟩
  | goto l => exact ⟨_, a₁, w₁, hq, .of_steps (.one h0 stepR_loop) (.pass (x := .inLoop c) rfl (fun _ _ => .inl (by simp)) harr)⟩
  | ret => exact ⟨_, a₁, w₁, hq, .of_steps (.one h0 stepR_loop) (.pass (x := .inLoop c) rfl (fun _ _ => .inl (by simp)) harr)⟩
  | panic ch => exact ⟨_, a₁, w₁, hq, .of_steps (.one h0 stepR_loop) (.pass (x := .inLoop c) rfl (fun _ _ => .inl (by simp)) harr)⟩
  | outgrown => exact ⟨_, a₁, w₁, hq, .of_steps (.one h0 stepR_loop) (.pass (x := .inLoop c) rfl (fun _ _ => .inl (by simp)) harr)⟩
end
section
variable {P : Program} {B N : Nat} {w1 w : World} {ι : Io} {S S' : St} {a : Act} {r : Rec} {rd rb : Option Nat} {ex : Ex}
theorem zgl (l : Nat) (a : Act) (w : World) : ¬ zfy P N B w1 ι ex S' (.goto l) a w := by
  rintro ⟨ι', _, h⟩
  cases ex with
  | panic v e => obtain ⟨u, h, _⟩ := h; cases h
  | normal => cases h.1
  | exit id => cases h.1
  | ret => cases h.1
theorem zl9 (a : Act) (w : World) : ¬ zfy P N B w1 ι ex S' .outgrown a w := by
  rintro ⟨ι', _, h⟩
  cases ex with
  | panic v e => obtain ⟨u, h, _⟩ := h; cases h
  | normal => cases h.1
  | exit id => cases h.1
  | ret => cases h.1
theorem zdO {α β : Type} (f : α → β) : ∀ (l : List α) (k : Nat) (arr : Array α), (∀ j, l[j]? = arr[k + j]?) → (List.range' k l.length).filterMap (fun i => (arr[i]?).map f) = l.map f
  | [], k, arr, _ => by simp
  | x :: l, k, arr, h => by
    have h0 : arr[k]? = some x := by have := h 0; simpa using this.symm
    simp only [List.length_cons, List.range'_succ, List.filterMap_cons, h0, Option.map_some, List.map_cons]
    rw [zdO f l (k + 1) arr (fun j => by have := h (j + 1); rw [List.getElem?_cons_succ] at this; rw [this]; congr 1; omega)]
theorem zd8 {α β : Type} (arr : Array α) (f : α → β) : (List.range arr.size).filterMap (fun i => (arr[i]?).map f) = arr.toList.map f := by
  have := zdO f arr.toList 0 arr (fun j => by simp)
  rw [List.range_eq_range']
  simpa using this
theorem zjz (hm : P.follows .mixedOrders = true) (hr : RecOk P r) {id : Nat} {ops : Array Oper} {draw dr bar : Bool} {os : List O} (hc : comp P N (.region id ops draw) = .reg dr bar os) (h : zaE r B bar rd.isNone (!dr) os S = some (ex, S')) (hF : FSim P N B w1 ι S a w) (hrd : zeU ι rd rb) :
    (Code.region id ops draw).wpIn (FW rb) 0 P (zfy P N B w1 ι ex S') a w := by
  cases draw with
  | false =>
    simp only [comp] at hc
    cases hb : ops.all (fun o => zfL N o.dst) with
    | false => simp only [hb, cond_false] at hc; cases hc
    | true =>
      simp only [hb, cond_true] at hc
      cases hc
      refine wpIn_region (zdl (bar := false) (e := !false) hr _ S ι a w hF hrd ?_)
      rw [zd8]; exact h
  | true =>
    simp only [comp] at hc
    cases hb : ops.all (fun o => zfL N o.dst) with
    | false => simp only [hb, cond_false] at hc; cases hc
    | true =>
      simp only [hb, cond_true] at hc
      split at hc
      · rename_i l l' hp
        cases hc
        exact zf5 hm hr hF hrd hp h
      · split at hc
        · rename_i l l' hp
          cases hc
          exact zf5 hm hr hF hrd hp h
        · cases hc
theorem zbr (hm : P.follows .mixedOrders = true) (hr : RecOk P r) : ∀ (code : Code) (S S' : St) (ex : Ex) (w1 : World) (ι : Io) (a : Act) (w : World) (rb : Option Nat), exec r B rd (comp P N code) S = some (ex, S') → FSim P N B w1 ι S a w → zeU ι rd rb →
    code.wpIn (FW rb) 0 P (zfy P N B w1 ι ex S') a w
  | .skip, S, S', ex, w1, ι, a, w, rb, h, hF, hrd => by
    simp only [comp, exec, Option.some.injEq, Prod.mk.injEq] at h
    obtain ⟨rfl, rfl⟩ := h
    exact wpIn_skip ⟨ι, Io.le.refl _, rfl, hF⟩
  | .label l, S, S', ex, w1, ι, a, w, rb, h, hF, hrd => by
    simp only [comp, exec, Option.some.injEq, Prod.mk.injEq] at h
    obtain ⟨rfl, rfl⟩ := h
    exact wpIn_label ⟨ι, Io.le.refl _, rfl, hF⟩
  | .exit id, S, S', ex, w1, ι, a, w, rb, h, hF, hrd => by
    simp only [comp, exec, Option.some.injEq, Prod.mk.injEq] at h
    obtain ⟨rfl, rfl⟩ := h
    exact wpIn_exit ⟨ι, Io.le.refl _, rfl, hF⟩
  | .ret, S, S', ex, w1, ι, a, w, rb, h, hF, hrd => by
    simp only [comp, exec, Option.some.injEq, Prod.mk.injEq] at h
    obtain ⟨rfl, rfl⟩ := h
    exact wpIn_ret ⟨ι, Io.le.refl _, rfl, hF⟩
  | .region id ops draw, S, S', ex, w1, ι, a, w, rb, h, hF, hrd => by
    cases hc : comp P N (.region id ops draw) with
    | reg dr bar os =>
      rw [hc] at h
      exact zjz hm hr hc h hF hrd
    | bad => rw [hc] at h; cases h
    | _ =>
      exfalso
      cases draw with
      | false =>
        simp only [comp] at hc
        cases hb : ops.all (fun o => zfL N o.dst) <;> simp only [hb, cond_false, cond_true] at hc <;> cases hc
      | true =>
        simp only [comp] at hc
        cases hb : ops.all (fun o => zfL N o.dst) <;> simp only [hb, cond_false, cond_true] at hc
        · cases hc
        · split at hc
          · cases hc
          · split at hc <;> cases hc
  | .seq x y, S, S', ex, w1, ι, a, w, rb, h, hF, hrd => by
    simp only [comp, exec] at h
    refine wpIn_seq ?_
    cases hx : exec r B rd (comp P N x) S with
    | none => rw [hx] at h; cases h
    | some res =>
      obtain ⟨ex1, S1⟩ := res
      rw [hx] at h
      refine wpIn_mono (zbr hm hr x S S1 ex1 w1 ι a w rb hx hF hrd) fun en a1 wx hp => ?_
      obtain ⟨ι1, hle, hp⟩ := hp
      cases ex1 with
      | normal =>
        obtain ⟨rfl, hF1⟩ := hp
        exact wpIn_mono (zbr hm hr y S1 S' ex w1 ι1 a1 wx rb h hF1 (hrd.mono hle)) fun en a2 w2 hp2 => hp2.mono hle
      | exit id =>
        simp only [Option.some.injEq, Prod.mk.injEq] at h
        obtain ⟨rfl, rfl⟩ := h
        obtain ⟨rfl, hF1⟩ := hp
        exact ⟨ι1, hle, rfl, hF1⟩
      | ret =>
        simp only [Option.some.injEq, Prod.mk.injEq] at h
        obtain ⟨rfl, rfl⟩ := h
        obtain ⟨rfl, hF1⟩ := hp
        exact ⟨ι1, hle, rfl, hF1⟩
      | panic v e =>
        simp only [Option.some.injEq, Prod.mk.injEq] at h
        obtain ⟨rfl, rfl⟩ := h
        obtain ⟨u, rfl, hp⟩ := hp
        exact ⟨ι1, hle, u, rfl, hp⟩
  | .cond c x y, S, S', ex, w1, ι, a, w, rb, h, hF, hrd => by
    simp only [comp, exec] at h
    split at h
    · rename_i hb
      exact wpIn_cond_true (zcz hF.env hb) (zbr hm hr x S S' ex w1 ι a w rb h hF hrd)
    · rename_i hb
      exact wpIn_cond_false (zcz hF.env hb) (zbr hm hr y S S' ex w1 ι a w rb h hF hrd)
    · cases h
  | .block id c, S, S', ex, w1, ι, a, w, rb, h, hF, hrd => by
    simp only [comp, exec] at h
    refine wpIn_block ?_
    cases hx : exec r B rd (comp P N c) S with
    | none => rw [hx] at h; cases h
    | some res =>
      obtain ⟨ex1, S1⟩ := res
      rw [hx] at h
      refine wpIn_mono (zbr hm hr c S S1 ex1 w1 ι a w rb hx hF hrd) fun en a1 wx hp => ?_
      obtain ⟨ι1, hle, hp⟩ := hp
      cases ex1 with
      | normal =>
        simp only [Option.some.injEq, Prod.mk.injEq] at h
        obtain ⟨rfl, rfl⟩ := h
        obtain ⟨rfl, hF1⟩ := hp
        exact ⟨ι1, hle, rfl, hF1⟩
      | exit id' =>
        obtain ⟨rfl, hF1⟩ := hp
        simp only [] at h
        by_cases hid : id' = id
        · subst hid
          simp only [beq_self_eq_true, cond_true, Option.some.injEq, Prod.mk.injEq] at h
          obtain ⟨rfl, rfl⟩ := h
          simp only [Exit.inBlock, if_true]
          exact ⟨ι1, hle, rfl, hF1⟩
        · have hf : (id' == id) = false := by simpa using hid
          simp only [hf, cond_false, Option.some.injEq, Prod.mk.injEq] at h
          obtain ⟨rfl, rfl⟩ := h
          simp only [Exit.inBlock, hid, if_false]
          exact ⟨ι1, hle, rfl, hF1⟩
      | ret =>
        simp only [Option.some.injEq, Prod.mk.injEq] at h
        obtain ⟨rfl, rfl⟩ := h
        obtain ⟨rfl, hF1⟩ := hp
        exact ⟨ι1, hle, rfl, hF1⟩
      | panic v e =>
        simp only [Option.some.injEq, Prod.mk.injEq] at h
        obtain ⟨rfl, rfl⟩ := h
        obtain ⟨u, rfl, hp⟩ := hp
        exact ⟨ι1, hle, u, rfl, hp⟩
  | .loop c, S, S', ex, w1, ι, a, w, rb, h, hF, hrd => by
    simp only [comp, exec] at h
    refine zkK (fun l a w => zgl l a w) (fun a w => zl9 a w) ?_
    cases hx : exec r B rd (comp P N c) S with
    | none => rw [hx] at h; cases h
    | some res =>
      obtain ⟨ex1, S1⟩ := res
      rw [hx] at h
      refine wpIn_mono (zbr hm hr c S S1 ex1 w1 ι a w rb hx hF hrd) fun en a1 wx hp => ?_
      obtain ⟨ι1, hle, hp⟩ := hp
      cases ex1 with
      | normal =>
        obtain ⟨rfl, hF1⟩ := hp
        exact wpIn_mono ((hr.code _ _ _ _ _ _ h).1 N (.loop c) w1 ι1 a1 wx rb rfl hF1 (hrd.mono hle)) fun en a2 w2 hp2 => hp2.mono hle
      | exit id =>
        simp only [Option.some.injEq, Prod.mk.injEq] at h
        obtain ⟨rfl, rfl⟩ := h
        obtain ⟨rfl, hF1⟩ := hp
        exact ⟨ι1, hle, rfl, hF1⟩
      | ret =>
        simp only [Option.some.injEq, Prod.mk.injEq] at h
        obtain ⟨rfl, rfl⟩ := h
        obtain ⟨rfl, hF1⟩ := hp
        exact ⟨ι1, hle, rfl, hF1⟩
      | panic v e =>
        simp only [Option.some.injEq, Prod.mk.injEq] at h
        obtain ⟨rfl, rfl⟩ := h
        obtain ⟨u, rfl, hp⟩ := hp
        exact ⟨ι1, hle, u, rfl, hp⟩
  | .scope c, S, S', ex, w1, ι, a, w, rb, h, hF, hrd => by
    simp only [comp, exec] at h
    exact zmf (fun l a w => zgl l a w) (zbr hm hr c S S' ex w1 ι a w rb h hF hrd)
  | .rangeFunc x ps asg body, S, S', ex, w1, ι, a, w, rb, h, hF, hrd => by
    simp only [comp, exec] at h
    split at h
    · rename_i gf first cap hx
      cases hok : zm2 rd S.heap with
      | false => simp only [hok, Bool.not_false, cond_true] at h; cases h
      | true =>
        simp only [hok, Bool.not_true, cond_false] at h
        have hg := zac hF.env hx
        generalize hu0 : a.eval x = u0 at hg
        cases hg with
        | clo _ _ _ xs ys g1 g2 g3 g4 =>
        cases hcall : r.call B gf (first ++ [.yld (zbi rd S).length] ++ cap) (zbi rd S ++ [.loop true none S.env ps.toList (comp P N asg) (comp P N body)]) with
        | none => rw [hcall] at h; cases h
        | some res =>
          obtain ⟨cr, h2⟩ := res
          rw [hcall] at h
          refine wpIn_rangeFunc fun fn _ => ?_
          have henter : ∃ (l : Nat) (mark : List Deferred) (wa : World) (ιa : Io) (R : Loop), (Instr.enterLoop fn a.tmps ps asg body rb).run P w = .ok (l, mark) (zaU wa (.loop R)) ∧ wa.heap.size = l ∧ Io.le ι ιa ∧ Sim P B w1 ιa (zbi rd S) wa ∧ DfsRel ιa (zfz rd S) (mark ++ a.defers) ∧
              R.state = .ready ∧ R.pending = none ∧ R.tmps = a.tmps ∧ R.params = ps ∧ R.assign = asg ∧ R.body = body := by
            rcases hrd with ⟨rfl, rfl⟩ | ⟨l0, b0, s0, sz0, rfl, rfl, hι0⟩
            · have hS0 := hF.sim.alloc (o := .dfr) (s := 0) (sz := 0) (.deferred (some [])) ⟨w.heap.size, 0, 0, Io.zaK _ _ _, zdq _ _⟩
              refine ⟨w.heap.size + 1, _, zaU w (.deferred (some [])), _, _, run_enterLoop_outer fn a.tmps ps asg body, by simp [zaU], hF.sim.zci _, hS0, ?_, rfl, rfl, rfl, rfl, rfl, rfl⟩
              exact .cons (.coll _ w.heap.size 0 0 (Io.zaK _ _ _)) (hF.dfs.mono (hF.sim.zci _))
            · simp only [zm2] at hok
              split at hok
              · rename_i st pend env ps' asg' body' hl
                obtain ⟨b, s, sz, R0, k1, k2, _⟩ := hF.sim.obj l0 _ hl
                rw [hι0] at k1; cases k1
                exact ⟨w.heap.size, [], w, ι, _, run_enterLoop_inner k2 fn a.tmps ps asg body, rfl, Io.le.refl _, hF.sim, hF.dfs, rfl, rfl, rfl, rfl, rfl, rfl⟩
              · cases hok
          obtain ⟨l, mark, wa, ιa, R, he, hsz, hlea, hSa, hdfs, e1, e2, e3, e4, e5, e6⟩ := henter
          have hSb : Sim P B w1 (ιa.ext (zbi rd S).length (wa.heap.size, 0, 0)) (zbi rd S ++ [.loop true none S.env ps.toList (comp P N asg) (comp P N body)]) (zaU wa (.loop R)) := by
            refine hSa.alloc (.loop R) ⟨wa.heap.size, 0, 0, R, Io.zaK _ _ _, zdq _ _, e1, e2, ?_, fun k v hk => ?_, ?_, ?_, ?_⟩
            · rw [e3, hF.env.1, hF.env.2.1]
            · rw [e3]; exact ((hF.env.2.2 k v hk).mono hlea).mono (hSa.zci _)
            · rw [e4]
            · rw [e5, hF.env.2.1]
            · rw [e6, hF.env.2.1]
          generalize hιb : ιa.ext (zbi rd S).length (wa.heap.size, 0, 0) = ιb at hSb
          have hleb : Io.le ι ιb := by rw [← hιb]; exact hlea.trans (hSa.zci _)
          have hleab : Io.le ιa ιb := by rw [← hιb]; exact hSa.zci _
          have hιl : ιb (zbi rd S).length = some (l, 0, 0) := by rw [← hιb, Io.zaK, hsz]
          have hargs : zhG ιb (first ++ [.yld (zbi rd S).length] ++ cap) (xs ++ #[.func (.yield l) #[] #[]] ++ ys) := by
            refine zhG.append (zhG.append (l := first) (arr := xs) ⟨g1, fun i x v h1 h2 => (g3 i x v h1 h2).mono hleb⟩ ⟨rfl, fun i x v h1 h2 => ?_⟩) ⟨g2, fun i x v h1 h2 => (g4 i x v h1 h2).mono hleb⟩
            cases i with
            | zero => simp at h1 h2; subst h1; subst h2; exact .yld _ _ 0 0 hιl
            | succ i => simp at h1
          obtain ⟨hco, hkeep⟩ := hr.call _ _ _ _ _ _ hcall
          obtain ⟨hbody, hcalls⟩ := hco w1 ιb (zaU wa (.loop R)) _ hSb hargs
          have hBl : B ≤ (zbi rd S).length := hSa.base
          have hinv : ∀ w', (invoke (.fn (.func gf) ys) (xs ++ #[.func (.yield l) #[] #[]])).run P w' = .ok (.enter gf (xs ++ #[.func (.yield l) #[] #[]] ++ ys)) w' := by
            intro w'
            unfold zex at hbody
            cases hfn : P.funcs[gf]? with
            | none => rw [hfn] at hbody; cases hbody
            | some fn' =>
              rw [hfn] at hbody
              simp only [Bool.and_eq_true, Bool.not_eq_true', beq_eq_false_iff_ne] at hbody
              have q1 : ¬ (fn'.name = "runtime.NumGoroutine") := hbody.1
              obtain ⟨bd, hbd⟩ := Option.isSome_iff_exists.1 hbody.2
              simp [invoke, callFunc, hfn, q1, hbd]
          refine ⟨l, mark, zaU wa (.loop R), { target := .fn (.func gf) ys, args := xs ++ #[.func (.yield l) #[] #[]] }, zaU wa (.loop R), gf, xs ++ #[.func (.yield l) #[] #[]] ++ ys, zaU wa (.loop R), he, ?_, fun _ _ => trivial, hinv _, zfV rb 0, ?_⟩
          · simp only [resolve, hu0, Deferred.ofValue]
            simp [Act.eval]
          · refine CallsIn.mono (F := FW rb) (n := 0) hcalls fun en wx hp => ?_
            obtain ⟨ι2, hle2, hS2, hp⟩ := hp
            cases cr with
            | pan v =>
              obtain ⟨u, rfl, hv⟩ := hp
              simp only [Option.some.injEq, Prod.mk.injEq] at h
              obtain ⟨rfl, rfl⟩ := h
              exact ⟨ι2, hleb.trans hle2, u, rfl, hv, hS2, hdfs.mono (hleab.trans hle2), fun _ => hF.env.mono (hleb.trans hle2)⟩
            | ret v =>
              obtain ⟨u, rfl, hv⟩ := hp
              simp only [] at h
              have fin : ∀ (st : Bool) (pend : Option Jump) env' ps' asg' body', h2[(zbi rd S).length]? = some (.loop st pend env' ps' asg' body') → ¬ (st = false ∧ pend = none) →
                  ∃ w4, (Instr.endLoop l).run P wx = .ok (pend.map zem) w4 ∧ FSim P N B w1 ι2 ⟨S.env, zfz rd S, h2.set (zbi rd S).length .dead⟩ { a with defers := mark ++ a.defers } w4 := by
                intro st pend env' ps' asg' body' hl hst
                obtain ⟨b, s, sz, R2, k1, k2, k3, k4, _⟩ := hS2.obj _ _ hl
                rw [hle2 _ _ hιl] at k1; cases k1
                have hnb : R2.state ≠ .busy := by
                  rw [k3]
                  cases st with
                  | true => simp
                  | false =>
                    cases pend with
                    | none => exact absurd ⟨rfl, rfl⟩ hst
                    | some j => simp
                have hend := run_endLoop (P := P) k2 hnb
                rw [k4] at hend
                exact ⟨_, hend, hS2.change (o' := .dead) hl trivial hBl (hle2 _ _ hιl) (zcL _ _ _) trivial, hF.env.mono (hleb.trans hle2), hdfs.mono (hleab.trans hle2)⟩
              split at h
              · rename_i env' ps' asg' body' hl
                simp only [Option.some.injEq, Prod.mk.injEq] at h
                obtain ⟨rfl, rfl⟩ := h
                obtain ⟨w4, q1, q2⟩ := fin true none env' ps' asg' body' hl (by simp)
                exact ⟨none, w4, q1, ι2, hleb.trans hle2, rfl, q2⟩
              · rename_i j env' ps' asg' body' hl
                simp only [Option.some.injEq, Prod.mk.injEq] at h
                obtain ⟨rfl, rfl⟩ := h
                obtain ⟨w4, q1, q2⟩ := fin false (some j) env' ps' asg' body' hl (by simp)
                refine ⟨some (zem j), w4, q1, ?_⟩
                cases j with
                | ret => exact wpIn_ret ⟨ι2, hleb.trans hle2, rfl, q2⟩
                | exit id => exact wpIn_exit ⟨ι2, hleb.trans hle2, rfl, q2⟩
              · cases h
    · cases h
  | .goto l, S, S', ex, w1, ι, a, w, rb, h, hF, hrd => by cases h
  | .refuse s, S, S', ex, w1, ι, a, w, rb, h, hF, hrd => by cases h
theorem zaS (hr : RecOk P r) : ∀ (c : C) (S S' : St) (ex : Ex), exec r B rd c S = some (ex, S') → B ≤ S.heap.length → zas B S.heap S'.heap
  | .skip, S, S', ex, h, _ => by simp only [exec, Option.some.injEq, Prod.mk.injEq] at h; obtain ⟨_, rfl⟩ := h; exact zas.refl _ _
  | .label l, S, S', ex, h, _ => by simp only [exec, Option.some.injEq, Prod.mk.injEq] at h; obtain ⟨_, rfl⟩ := h; exact zas.refl _ _
  | .exit id, S, S', ex, h, _ => by simp only [exec, Option.some.injEq, Prod.mk.injEq] at h; obtain ⟨_, rfl⟩ := h; exact zas.refl _ _
  | .ret, S, S', ex, h, _ => by simp only [exec, Option.some.injEq, Prod.mk.injEq] at h; obtain ⟨_, rfl⟩ := h; exact zas.refl _ _
  | .reg dr bar os, S, S', ex, h, _ => zek hr os S S' ex h
  | .seq x y, S, S', ex, h, hB => by
    simp only [exec] at h
    split at h
    · rename_i S1 hx
      have k1 := zaS hr x S S1 _ hx hB
      exact k1.trans (zaS hr y S1 S' ex h (Nat.le_trans hB (k1 hB).1))
    · exact zaS hr x S S' ex h hB
  | .cond x c d, S, S', ex, h, hB => by
    simp only [exec] at h
    split at h
    · exact zaS hr c S S' ex h hB
    · exact zaS hr d S S' ex h hB
    · cases h
  | .block id c, S, S', ex, h, hB => by
    simp only [exec] at h
    split at h
    · rename_i id' S1 hx
      have k1 := zaS hr c S S1 _ hx hB
      cases hc : (id' == id) <;> simp only [hc, cond_true, cond_false, Option.some.injEq, Prod.mk.injEq] at h <;> (obtain ⟨_, rfl⟩ := h; exact k1)
    · exact zaS hr c S S' ex h hB
  | .loop c, S, S', ex, h, hB => by
    simp only [exec] at h
    split at h
    · rename_i S1 hx
      exact (zaS hr c S S1 _ hx hB).trans (hr.code _ _ _ _ _ _ h).2
    · exact zaS hr c S S' ex h hB
  | .scope c, S, S', ex, h, hB => by
    simp only [exec] at h
    exact zaS hr c S S' ex h hB
  | .zdf x ps asg body, S, S', ex, h, hB => by
    simp only [exec] at h
    split at h
    · cases hok : zm2 rd S.heap with
      | false => simp only [hok, Bool.not_false, cond_true] at h; cases h
      | true =>
        simp only [hok, Bool.not_true, cond_false] at h
        have k0 : zas B S.heap (zbi rd S) := by
          cases rd with
          | none => exact zas.snoc _ _ _
          | some l => exact zas.refl _ _
        have hBl : B ≤ (zbi rd S).length := Nat.le_trans hB (k0 hB).1
        split at h
        · rename_i h2 hcall
          have k1 := (k0.trans (zas.snoc B _ _)).trans (hr.call _ _ _ _ _ _ hcall).2
          split at h
          · simp only [Option.some.injEq, Prod.mk.injEq] at h
            obtain ⟨_, rfl⟩ := h
            exact k1.trans (zas.set _ _ hBl)
          · simp only [Option.some.injEq, Prod.mk.injEq] at h
            obtain ⟨_, rfl⟩ := h
            exact k1.trans (zas.set _ _ hBl)
          · cases h
        · rename_i v h2 hcall
          simp only [Option.some.injEq, Prod.mk.injEq] at h
          obtain ⟨_, rfl⟩ := h
          exact (k0.trans (zas.snoc B _ _)).trans (hr.call _ _ _ _ _ _ hcall).2
        · cases h
    · cases h
  | .bad, S, S', ex, h, _ => by cases h
end
end Go.Mx
