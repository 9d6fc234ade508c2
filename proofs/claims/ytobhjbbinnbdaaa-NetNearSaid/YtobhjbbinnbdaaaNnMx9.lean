/-
  One operation, calls and rounds among them; regions in the order of the text. Conditions: none.
-/
import Derived.Test.YtobhjbbinnbdaaaNnMx8
import Derived.RangeFuncRecord
namespace Go.Mx
open Go Go.RowKit
def zfQ (rb : Option Nat) (P : Program) (o : Oper) (a : Act) (w : World) (Kc : Value → List Deferred → World → Prop) (Kp : Value → World → Prop) : Prop :=
  match (o.semAt rb a.eval).run P w with
  | .ok (.value u) w' => Kc u a.defers w'
  | .ok .skip w' => Kc undef a.defers w'
  | .ok (.defer d) w' => Kc undef (d :: a.defers) w'
  | .ok (.enter f args) w' => CallsIn (FW none) 0 P f args w' fun en w'' => (∃ v, en = .returned v ∧ Kc v a.defers w'') ∨ (∃ v, en = .panicked [{ v := v, recovered := false }] ∧ Kp v w'')
  | .ok (.round l f tmps assign body) w' => RoundIn (FW none) 0 P l f tmps assign body w' fun en w'' => (∃ v, en = .returned v ∧ Kc v a.defers w'') ∨ (∃ v, en = .panicked [{ v := v, recovered := false }] ∧ Kp v w'')
  | .halt (.panic v) w' => Kp v w'
  | _ => False
theorem ziQ {F : Fence} {n : Nat} {P : Program} {ops : Array Oper} {Q Q' : Exit → Act → World → Prop} (hQ : ∀ en a w, Q en a w → Q' en a w) {i : Nat} {K : Act → World → Prop} {a : Act} {w : World} (h : wpOpIn F n P ops Q i K a w) : wpOpIn F n P ops Q' i K a w := by
  unfold wpOpIn at h ⊢
  split
  · rename_i ho; simp only [ho] at h; exact h
  · rename_i o ho
    simp only [ho] at h
    split
    · rename_i hw
      simp only [hw, if_true] at h
      refine ⟨h.1, ?_⟩
      have h := h.2
      generalize (o.semAt F.round a.eval).run P w = res at h
      cases res with
      | ok x w' =>
        cases x <;> simp only [Oper.uponIn] at h ⊢ <;>
          first
            | exact h
            | exact ⟨h.1, CallsIn.mono h.2 (fun e w'' he => by cases e <;> first | exact he | exact hQ _ _ _ he | (obtain ⟨a0, w0, h0⟩ := he; exact ⟨a0, w0, hQ _ _ _ h0⟩))⟩
            | exact ⟨h.1, RoundIn.mono h.2 (fun e w'' he => by cases e <;> first | exact he | exact hQ _ _ _ he | (obtain ⟨a0, w0, h0⟩ := he; exact ⟨a0, w0, hQ _ _ _ h0⟩))⟩
      | halt x w' => cases x <;> simp only [Oper.uponIn] at h ⊢ <;> first | exact hQ _ _ _ h | exact h
    · rename_i hw
      simp only [hw] at h
      exact h
theorem zbm {F : Fence} {n : Nat} {P : Program} {ops : Array Oper} {Q Q' : Exit → Act → World → Prop} (hQ : ∀ en a w, Q en a w → Q' en a w) : ∀ (l : List Nat) (a : Act) (w : World), wpOpsIn F n P ops Q l a w → wpOpsIn F n P ops Q' l a w
  | [], a, w, h => hQ _ _ _ h
  | i :: l, a, w, h => by
    simp only [wpOpsIn] at h ⊢
    split
    · rename_i ho; simp only [ho] at h; exact zbm hQ l a w h
    · rename_i o ho
      simp only [ho] at h
      split
      · rename_i hw
        simp only [hw, if_true] at h
        refine ⟨h.1, ?_⟩
        have h := h.2
        generalize (o.semAt F.round a.eval).run P w = res at h
        cases res with
        | ok x w' =>
          cases x <;> simp only [Oper.uponIn] at h ⊢ <;>
            first
              | exact zbm hQ l _ _ h
              | exact ⟨h.1, CallsIn.mono h.2 (fun e w'' he => by cases e <;> first | exact zbm hQ l _ _ he | exact hQ _ _ _ he | (obtain ⟨a0, w0, h0⟩ := he; exact ⟨a0, w0, hQ _ _ _ h0⟩))⟩
              | exact ⟨h.1, RowsIn.mono h.2 (fun _ _ he => zbm hQ l _ _ he)⟩
              | exact ⟨h.1, RoundIn.mono h.2 (fun e w'' he => by cases e <;> first | exact zbm hQ l _ _ he | exact hQ _ _ _ he | (obtain ⟨a0, w0, h0⟩ := he; exact ⟨a0, w0, hQ _ _ _ h0⟩))⟩
        | halt x w' => cases x <;> simp only [Oper.uponIn] at h ⊢ <;> first | exact hQ _ _ _ h | exact h
      · rename_i hw
        simp only [hw] at h
        exact ⟨h.1, zbm hQ l _ _ h.2⟩
section
variable {P : Program} {B N : Nat} {w1 w : World} {ι : Io} {S : St} {a : Act} {r : Rec} {ops : Array Oper} {rd rb : Option Nat} {Q : Exit → Act → World → Prop}
theorem zfQ.wp {o : Oper} {Kc : Value → List Deferred → World → Prop} {Kp : Value → World → Prop} {next : Act → World → Prop} (h : zfQ rb P o a w Kc Kp) (hn : ∀ v ds w', Kc v ds w' → next (({ a with defers := ds } : Act).put o.dst v) w')
    (hq : ∀ v w', Kp v w' → Q (.panic [{ v := v, recovered := false }]) a w') : o.wpIn (FW rb) 0 P a w next Q := by
  unfold zfQ at h
  refine ⟨fun _ _ => trivial, ?_⟩
  show o.uponIn (FW rb) 0 P a next Q ((o.semAt rb a.eval).run P w)
  generalize (o.semAt rb a.eval).run P w = res at h
  split at h
  · exact hn _ _ _ h
  · exact hn _ _ _ h
  · exact hn _ _ _ h
  · refine ⟨zfV rb 0, CallsIn.mono (F := FW rb) (n := 0) h fun en w'' hk => ?_⟩
    rcases hk with ⟨v, he, hk⟩ | ⟨v, he, hk⟩
    · subst he; exact hn _ _ _ hk
    · subst he; exact hq _ _ hk
  · refine ⟨zfV rb 0, RoundIn.mono (F := FW rb) (n := 0) h fun en w'' hk => ?_⟩
    rcases hk with ⟨v, he, hk⟩ | ⟨v, he, hk⟩
    · subst he; exact hn _ _ _ hk
    · subst he; exact hq _ _ hk
  · exact hq _ _ h
  · exact h.elim
def zrI : V → Option Bool
  | .lit (.bool b) => some b
  | _ => none
def zua : Value → Option Bool
  | .bool b => some b
  | _ => none
theorem zro {v : V} {u : Value} (h : VRel ι v u) : zrI v = zua u := by
  cases h with
  | lit => cases u <;> rfl
  | _ => rfl
theorem zj8 (env : List V) (k : Nat) (want : Bool) : wanted env (some (k, want)) = ((env[k]?).bind zrI == some want) := by
  simp only [wanted]
  cases env[k]? with
  | none => rfl
  | some v =>
    cases v with
    | lit x => cases x <;> simp [zrI]
    | _ => rfl
theorem zmo (ops : Array Oper) (tmps : Array Value) (j : Nat) : yielded ops tmps j = (((ops[j]?).bind (·.dst)).bind (tmps[·]?)).bind zua := by
  unfold yielded
  cases ((ops[j]?).bind (·.dst)).bind (tmps[·]?) with
  | none => rfl
  | some u => cases u <;> rfl
theorem zhF (hE : zbs ι N S.env a) (o : Oper) : wanted S.env (irO P N ops o).g = Region.wanted o (yielded ops a.tmps) := by
  unfold Region.wanted irO
  cases hg : o.guard with
  | none => simp [wanted]
  | some jw =>
    obtain ⟨j, want⟩ := jw
    simp only []
    rw [zj8, zmo]
    congr 1
    cases hd : (ops[j]?).bind (·.dst) with
    | none =>
      have h1 : S.env[N]? = none := List.getElem?_eq_none (by rw [hE.2.1]; exact Nat.le_refl _)
      simp [h1]
    | some d =>
      simp only [Option.getD_some, Option.bind_some]
      rcases Nat.lt_or_ge d N with hlt | hge
      · have hlt1 : d < S.env.length := by rw [hE.2.1]; exact hlt
        have hlt' : d < a.tmps.size := by rw [hE.1]; exact hlt
        have h1 : S.env[d]? = some S.env[d] := List.getElem?_eq_getElem hlt1
        have h2 := hE.2.2 d _ h1
        have h3 : a.tmps.getD d undef = a.tmps[d] := by simp [hlt']
        rw [h3] at h2
        rw [h1, Array.getElem?_eq_getElem hlt']
        exact zro h2
      · have h1 : S.env[d]? = none := List.getElem?_eq_none (by rw [hE.2.1]; exact hge)
        have h2 : a.tmps[d]? = none := Array.getElem?_eq_none (by rw [hE.1]; exact hge)
        rw [h1, h2]; rfl
theorem zfr (hF : FSim P N B w1 ι S a w) (o : Oper) : wanted S.env (irO P N ops o).g = Region.wanted o (yielded ops a.tmps) := zhF hF.env o
theorem zjh {o : Oper} {c : Call} {x : Operand} {f : Nat} {xs ys : Array Value} (ho : o.op = .call c) (hc : c.callee = .value x) (hx : a.eval x = .func (.func f) xs ys) (hf : zex P f = true) (w' : World) :
    (execOp a.eval o).run P w' = .ok (.enter f (xs ++ c.args.map a.eval ++ ys)) w' := by
  unfold zex at hf
  cases hfn : P.funcs[f]? with
  | none => rw [hfn] at hf; cases hf
  | some fn =>
    rw [hfn] at hf
    simp only [Bool.and_eq_true, Bool.not_eq_true', beq_eq_false_iff_ne] at hf
    have h1 : ¬ (fn.name = "runtime.NumGoroutine") := hf.1
    obtain ⟨bd, hbd⟩ := Option.isSome_iff_exists.1 hf.2
    simp [execOp, ho, resolve, hc, hx, Deferred.ofValue, invoke, callFunc, hfn, h1, hbd]
theorem zhG.append {ι : Io} {l l' : List V} {arr arr' : Array Value} (h1 : zhG ι l arr) (h2 : zhG ι l' arr') : zhG ι (l ++ l') (arr ++ arr') := by
  refine ⟨by simp [h1.1, h2.1], fun i x v hx hv => ?_⟩
  rw [List.getElem?_append] at hx
  rw [Array.getElem?_append] at hv
  rw [h1.1] at hv
  split at hx
  · rename_i hc
    rw [if_pos hc] at hv
    exact h1.2 i x v hx hv
  · rename_i hc
    rw [if_neg hc] at hv
    exact h2.2 _ x v hx hv
theorem zhg {N : Nat} : ∀ (ps : List Nat) (vs : List V) (env env' : List V) (us : List Value) (tm : Array Value), zei env ps vs = some env' → vs.length = us.length → (∀ (i : Nat) x v, vs[i]? = some x → us[i]? = some v → VRel ι x v) →
    zbs ι N env ⟨tm, []⟩ → ps.length = vs.length ∧ zbs ι N env' ⟨(ps.zip us).foldl (fun t x => t.setIfInBounds x.1 x.2) tm, []⟩
  | [], [], env, env', us, tm, hs, hl, _, hE => by
    simp [zei] at hs
    subst hs
    exact ⟨rfl, by simpa using hE⟩
  | p :: ps, v :: vs, env, env', us, tm, hs, hl, hv, hE => by
    cases us with
    | nil => simp at hl
    | cons u us =>
      simp only [zei] at hs
      have hE' := hE.put (d := p) (hv 0 v u rfl rfl)
      obtain ⟨h1, h2⟩ := zhg ps vs _ env' us (tm.setIfInBounds p u) hs (by simpa using hl) (fun i x w hx hw => hv (i + 1) x w (by simpa using hx) (by simpa using hw)) hE'
      exact ⟨by simp [h1], by simpa using h2⟩
  | [], _ :: _, _, _, _, _, hs, _, _, _ => by simp [zei] at hs
  | _ :: _, [], _, _, _, _, hs, _, _, _ => by simp [zei] at hs
theorem Sim.zr3 {h h' : zaj} (hS : Sim P B w1 ι h w) {l : Nat} {st : Bool} {pend : Option Jump} (hB : B ≤ l) (hs : zcp h l st pend = some h') {b s sz : Nat} (hι : ι l = some (b, s, sz)) :
    ∃ R, w.heap[b]? = some (.loop R) ∧ Sim P B w1 ι h' (zgU w b (.loop { R with state := (bif st then .ready else bif pend.isSome then .done else .busy), pending := pend.map zem })) := by
  unfold zcp at hs
  split at hs
  · rename_i st0 pend0 env ps asg body hl
    cases hs
    obtain ⟨b', s', sz', R, h1, h2, h3, h4, h5, h6, h7, h8, h9⟩ := hS.obj l _ hl
    rw [hι] at h1; cases h1
    refine ⟨R, h2, hS.change (o' := .loop st pend env ps asg body) hl trivial hB hι (zcL _ _ _) ⟨b, s, sz, _, hι, zgs _ (zbc h2), rfl, rfl, h5, h6, h7, h8, h9⟩⟩
  · cases hs
theorem zdK {h h' : zaj} {l : Nat} {st : Bool} {pend : Option Jump} (hs : zcp h l st pend = some h') {B : Nat} (hB : B ≤ l) : zas B h h' := by
  unfold zcp at hs
  split at hs
  · cases hs; exact zas.set _ _ hB
  · cases hs
theorem znP (ps : Array Nat) (us : Array Value) (tm : Array Value) : (ps.zip us).foldl (fun t (x : Nat × Value) => t.setIfInBounds x.1 x.2) tm = (ps.toList.zip us.toList).foldl (fun t x => t.setIfInBounds x.1 x.2) tm := by
  rw [← Array.foldl_toList, Array.toList_zip]
theorem zkX (hr : RecOk P r) {h h' : zaj} {l : Nat} {vs : List V} {cr : CR} (hc : round r B l vs h = some (cr, h')) (hS : Sim P B w1 ι h w) {b s sz : Nat} (hι : ι l = some (b, s, sz)) {us : Array Value} (hu : zhG ι vs us) :
    ∃ f tmps assign body, (Instr.yield b us).run P w = .ok (.round b f tmps assign body) w ∧ RoundIn (FW none) 0 P b f tmps assign body w (zmv P B w1 ι cr h') := by
  unfold round at hc
  split at hc
  · rename_i env ps asg body hl
    cases hB : Nat.ble B l with
    | false => simp only [hB, cond_false] at hc; cases hc
    | true =>
      simp only [hB, cond_true] at hc
      have hB := Nat.le_of_ble_eq_true hB
      split at hc
      · rename_i env' hset
        obtain ⟨b', s', sz', R, g1, g2, g3, g4, g5, g6, g7, g8, g9⟩ := hS.obj l _ hl
        rw [hι] at g1; cases g1
        obtain ⟨hlen, hE'⟩ := zhg (N := env.length) ps vs env env' us.toList R.tmps hset (by simpa using hu.1.symm) (fun i x v hx hv => hu.2 i x v hx (by simpa using hv)) ⟨g5, rfl, g6⟩
        have hsz : us.size = R.params.size := by
          have h1 : R.params.toList.length = vs.length := by rw [g7]; exact hlen
          rw [hu.1, ← h1]; simp
        refine ⟨R.fn, _, R.assign, R.body, run_yield g2 hsz, ?_⟩
        rw [znP, g7]
        refine roundIn_of_wpIn trivial ?_
        split at hc
        · rename_i env1 h1 hcode
          have hco := (hr.code _ _ _ _ _ _ hcode).1 env.length R.assign w1 ι _ w (some b) g8 ⟨hS, hE', .nil⟩ (.inr ⟨l, b, s, sz, rfl, rfl, hι⟩)
          refine wpIn_mono hco fun en a1 w2 hp => ?_
          obtain ⟨ι1, hle1, rfl, hF1⟩ := hp
          show ∃ w₂, (Instr.beginRound b).run P w2 = .ok () w₂ ∧ _
          split at hc
          · rename_i e1 p1 a1' b1 hl1
            have hι1 := hle1 _ _ hι
            obtain ⟨b'', s'', sz'', R1, k1, k2, k3, k4, k5, k6, k7, k8, k9⟩ := hF1.sim.obj l _ hl1
            rw [hι1] at k1; cases k1
            refine ⟨_, run_beginRound k2 k3, ?_⟩
            have hS2 : Sim P B w1 ι1 (h1.set l (.loop false none e1 p1 a1' b1)) (zgU w2 b (.loop { R1 with state := .busy })) :=
              hF1.sim.change (o' := .loop false none e1 p1 a1' b1) hl1 trivial hB hι1 (zcL _ _ _) ⟨b, s, sz, _, hι1, zgs _ (zbc k2), rfl, k4, k5, k6, k7, k8, k9⟩
            cases hbody : r.code B (some l) body ⟨env1, [], h1.set l (.loop false none e1 p1 a1' b1)⟩ with
            | none => rw [hbody] at hc; simp [za6] at hc
            | some res =>
              obtain ⟨ex, S2⟩ := res
              have hbo := (hr.code _ _ _ _ _ _ hbody).1 env.length R.body w1 ι1 a1 (zgU w2 b (.loop { R1 with state := .busy })) (some b) g9 ⟨hS2, hF1.env, hF1.dfs⟩ (.inr ⟨l, b, s, sz, rfl, rfl, hι1⟩)
              rw [hbody] at hc
              have fin : ∀ (h2 : zaj) (w3 : World) (ι2 : Io) (st : Bool) (pend : Option Jump), Io.le ι1 ι2 → Sim P B w1 ι2 h2 w3 → (st = true ↔ pend = none) → zcp h2 l st pend = some h' →
                  ∃ w4, (Instr.endRound b (pend.map zem)).run P w3 = .ok (.bool pend.isNone) w4 ∧ Sim P B w1 ι2 h' w4 := by
                intro h2 w3 ι2 st pend hle hS3 hst hset
                obtain ⟨R3, q1, q2⟩ := hS3.zr3 hB hset (hle _ _ hι1)
                have hen := run_endRound (P := P) (pend.map zem) q1
                rw [Option.isNone_map] at hen
                refine ⟨_, hen, ?_⟩
                have : (if pend.isNone = true then LoopState.ready else .done) = (bif st then .ready else bif pend.isSome then .done else .busy) := by
                  cases pend with
                  | none => simp [hst.2 rfl]
                  | some j =>
                    have : st = false := by
                      cases st with
                      | false => rfl
                      | true => have := hst.1 rfl; cases this
                    simp [this]
                rw [← this] at q2
                exact q2
              refine wpIn_mono hbo fun en2 a3 w3 hp2 => ?_
              obtain ⟨ι2, hle2, hp2⟩ := hp2
              cases ex with
              | normal =>
                obtain ⟨rfl, hF2⟩ := hp2
                obtain ⟨env2, dfs2, h2⟩ := S2
                cases dfs2 with
                | cons _ _ => simp [za6] at hc
                | nil =>
                  simp only [za6, Option.map_eq_some_iff, Prod.mk.injEq] at hc
                  obtain ⟨h3, hset2, rfl, rfl⟩ := hc
                  obtain ⟨w4, q1, q2⟩ := fin h2 w3 ι2 true none hle2 hF2.sim (by simp) hset2
                  exact ⟨_, w4, q1, ι2, hle1.trans hle2, q2, _, rfl, .lit _⟩
              | ret =>
                obtain ⟨rfl, hF2⟩ := hp2
                obtain ⟨env2, dfs2, h2⟩ := S2
                cases dfs2 with
                | cons _ _ => simp [za6] at hc
                | nil =>
                  simp only [za6, Option.map_eq_some_iff, Prod.mk.injEq] at hc
                  obtain ⟨h3, hset2, rfl, rfl⟩ := hc
                  obtain ⟨w4, q1, q2⟩ := fin h2 w3 ι2 false (some .ret) hle2 hF2.sim (by simp) hset2
                  exact ⟨_, w4, q1, ι2, hle1.trans hle2, q2, _, rfl, .lit _⟩
              | exit id =>
                obtain ⟨rfl, hF2⟩ := hp2
                obtain ⟨env2, dfs2, h2⟩ := S2
                cases dfs2 with
                | cons _ _ => simp [za6] at hc
                | nil =>
                  simp only [za6, Option.map_eq_some_iff, Prod.mk.injEq] at hc
                  obtain ⟨h3, hset2, rfl, rfl⟩ := hc
                  obtain ⟨w4, q1, q2⟩ := fin h2 w3 ι2 false (some (.exit id)) hle2 hF2.sim (by simp) hset2
                  exact ⟨_, w4, q1, ι2, hle1.trans hle2, q2, _, rfl, .lit _⟩
              | panic v e =>
                obtain ⟨env2, dfs2, h2⟩ := S2
                cases dfs2 <;> simp [za6] at hc
          · cases hc
        · cases hc
      · cases hc
  · cases hc
theorem zgu (hr : RecOk P r) {h h' : zaj} {l : Nat} {vs : List V} {cr : CR} (hc : round r B l vs h = some (cr, h')) : zas B h h' := by
  unfold round at hc
  split at hc
  · cases hB : Nat.ble B l with
    | false => simp only [hB, cond_false] at hc; cases hc
    | true =>
      simp only [hB, cond_true] at hc
      have hB := Nat.le_of_ble_eq_true hB
      split at hc
      · split at hc
        · rename_i env1 h1 hcode
          have k1 := (hr.code _ _ _ _ _ _ hcode).2
          split at hc
          · rename_i body _ _ _ _ e1 p1 a1 b1 hl1
            have k2 : zas B h1 (h1.set l (.loop false none e1 p1 a1 b1)) := zas.set _ _ hB
            generalize hb : r.code B (some l) _ ⟨env1, [], h1.set l (.loop false none e1 p1 a1 b1)⟩ = res at hc
            unfold za6 at hc
            split at hc
            · simp only [Option.map_eq_some_iff, Prod.mk.injEq] at hc
              obtain ⟨h3, hset2, _, rfl⟩ := hc
              exact ((k1.trans k2).trans (hr.code _ _ _ _ _ _ hb).2).trans (zdK hset2 hB)
            · simp only [Option.map_eq_some_iff, Prod.mk.injEq] at hc
              obtain ⟨h3, hset2, _, rfl⟩ := hc
              exact ((k1.trans k2).trans (hr.code _ _ _ _ _ _ hb).2).trans (zdK hset2 hB)
            · simp only [Option.map_eq_some_iff, Prod.mk.injEq] at hc
              obtain ⟨h3, hset2, _, rfl⟩ := hc
              exact ((k1.trans k2).trans (hr.code _ _ _ _ _ _ hb).2).trans (zdK hset2 hB)
            · cases hc
          · cases hc
        · cases hc
      · cases hc
  · cases hc
end
end Go.Mx
