/-
  One operation's step; regions in the order of the text. Conditions: none.
-/
import Derived.Test.YtobhjbbinnbdaaaNnMx9
namespace Go.Mx
open Go Go.RowKit
section
variable {P : Program} {B N : Nat} {w1 w : World} {ι : Io} {S S' : St} {a : Act} {r : Rec} {ops : Array Oper} {rd rb : Option Nat} {Q : Exit → Act → World → Prop} {ex : Ex} {bar e : Bool}
inductive Caller (o : Oper) : I → Prop
  | call (c : Call) (f : Nat) : o.op = .call c → c.callee = .value (.func f) → Caller o (.call f (c.args.toList.map opX))
  | zbb (c : Call) (k : Nat) : o.op = .call c → c.callee = .value (.tmp k) → Caller o (.zbb (.s k) (c.args.toList.map opX))
  | panic (x : Operand) : o.op = .panic x → Caller o (.panic (opX x))
  | defer (c : Call) (x : Operand) : o.op = .defer c → c.callee = .value x → Caller o (.defer (opX x) (c.args.toList.map opX))
def calls : I → Bool
  | .call .. | .zbb .. | .panic _ | .defer .. => true
  | _ => false
theorem zjy (o : Oper) (h : calls (zau P o) = true) : Caller o (zau P o) := by
  have key : ∀ {b : Bool} {i : I}, calls (bif b then i else .bad) = true → b = true ∧ calls i = true := by
    intro b i h
    cases b with
    | true => exact ⟨rfl, h⟩
    | false => cases h
  obtain ⟨dst, op, type, pos, after, guard⟩ := o
  cases op with
  | call c =>
    simp only [zau, zf9] at h ⊢
    split at h
    · rename_i f hc
      obtain ⟨hb, _⟩ := key h
      simp only [hb, cond_true]
      exact .call c f rfl hc
    · rename_i k hc
      exact .zbb c k rfl hc
    · split at h
      · split at h <;> cases h
      · cases h
      · cases h
      · split at h
        · obtain ⟨_, h⟩ := key h
          split at h
          · obtain ⟨_, h⟩ := key h; cases h
          · cases h
        · cases h
      · split at h
        · obtain ⟨_, h⟩ := key h; cases h
        · cases h
      · split at h
        · obtain ⟨_, h⟩ := key h
          split at h
          · obtain ⟨_, h⟩ := key h; cases h
          · cases h
        · cases h
      · cases h
      · cases h
    · cases h
  | panic x => exact .panic x rfl
  | defer c =>
    simp only [zau] at h ⊢
    split at h
    · rename_i x hc; exact .defer c x rfl hc
    · cases h
  | alloc t =>
    simp only [zau] at h
    split at h
    · obtain ⟨_, h⟩ := key h; cases h
    · cases h
  | build t parts =>
    simp only [zau] at h
    split at h
    · obtain ⟨_, h⟩ := key h
      split at h
      · obtain ⟨_, h⟩ := key h; cases h
      · obtain ⟨_, h⟩ := key h; cases h
      · cases h
    · cases h
  | buildSlice t len parts =>
    simp only [zau] at h
    split at h
    · obtain ⟨_, h⟩ := key h
      split at h
      · obtain ⟨_, h⟩ := key h; cases h
      · cases h
    · cases h
  | load t x => simp only [zau] at h; obtain ⟨_, h⟩ := key h; cases h
  | store t x y => simp only [zau] at h; obtain ⟨_, h⟩ := key h; cases h
  | fieldAddr s x f =>
    simp only [zau] at h
    split at h
    · split at h
      · obtain ⟨_, h⟩ := key h; cases h
      · cases h
    · cases h
  | field s x f =>
    simp only [zau] at h
    split at h
    · split at h
      · obtain ⟨_, h⟩ := key h; cases h
      · cases h
    · cases h
  | indexAddr t x i =>
    simp only [zau] at h
    split at h
    · obtain ⟨_, h⟩ := key h; cases h
    · obtain ⟨_, h⟩ := key h; cases h
    · cases h
  | index t x i =>
    simp only [zau] at h
    split at h
    · obtain ⟨_, h⟩ := key h; cases h
    · split at h <;> cases h
    · cases h
  | makeFunc fn first cap => cases fn <;> cases h
  | makeInterface t x => simp only [zau] at h; split at h <;> cases h
  | binOp op t x y ty =>
    simp only [zau] at h
    split at h
    · cases h
    all_goals first
      | (split at h <;> cases h; done)
      | cases h
  | convert s d x => simp only [zau] at h; split at h <;> cases h
  | makeSlice t l c =>
    simp only [zau] at h
    split at h
    · obtain ⟨_, h⟩ := key h
      split at h
      · obtain ⟨_, h⟩ := key h; cases h
      · cases h
    · cases h
  | slice t x lo hi mx =>
    simp only [zau] at h
    split at h
    · obtain ⟨_, h⟩ := key h; cases h
    · obtain ⟨_, h⟩ := key h; cases h
    · cases h
  | _ => cases h
def nuI (bar : Bool) (i : I) : Bool := (zeO bar i && calls i) || zj7 i
def zsH (bar : Bool) (h : zaj) (B : Nat) : Nat := bif bar then h.length else B
def zt7 (bar : Bool) (w w1 : World) : World := bif bar then w else w1
theorem Sim.zrS {h : zaj} (hS : Sim P B w1 ι h w) (bar : Bool) : Sim P (zsH bar h B) (zt7 bar w w1) ι h w := by
  cases bar with
  | true => exact hS.zqP
  | false => exact hS
theorem Sim.back {h h' : zaj} {ι' : Io} {w' : World} (hS : Sim P B w1 ι h w) (hι : Io.le ι ι') {bar : Bool} (hS' : Sim P (zsH bar h B) (zt7 bar w w1) ι' h' w') (hk : zas (zsH bar h B) h h') : Sim P B w1 ι' h' w' ∧ (bar = true → Below w.heap.size w w') := by
  cases bar with
  | true => exact ⟨hS.ztP hι hS' (hk (Nat.le_refl _)).2, fun _ => hS'.below⟩
  | false => exact ⟨hS', by simp⟩
theorem zas.back {bar : Bool} {h h' : zaj} (hk : zas (zsH bar h B) h h') : zas B h h' := by
  cases bar with
  | true => exact fun hB => ⟨(hk (Nat.le_refl _)).1, fun β hβ => (hk (Nat.le_refl _)).2 β (Nat.lt_of_lt_of_le hβ hB)⟩
  | false => exact hk
def zpw (w : World) (h h1 : zaj) (ι1 : Io) : Prop := (∀ β o, β < h.length → h1[β]? = some o → o.live → ∃ o0, h[β]? = some o0 ∧ o0.live) ∧ ∀ β o b s sz, h1[β]? = some o → o.live → h.length ≤ β → ι1 β = some (b, s, sz) → w.heap.size ≤ b
def Kc (P : Program) (N B : Nat) (w1 : World) (ι : Io) (a : Act) (w : World) (h : zaj) (dst : Option Nat) (ext nu wr : Bool) (t : Option Nat) (k : St → Option (Ex × St)) (ex : Ex) (S' : St) : Value → List Deferred → World → Prop := fun u ds w' =>
  ∃ S1 ι1, k S1 = some (ex, S') ∧ Io.le ι ι1 ∧ FSim P N B w1 ι1 S1 (({ a with defers := ds } : Act).put dst u) w' ∧ (ext = true → Below w.heap.size w w') ∧ (nu = true → zpw w h S1.heap ι1) ∧ (wr = true → zqS B h ι w w' t)
def Kp (P : Program) (N B : Nat) (w1 : World) (ι : Io) (a : Act) (e : Bool) (ex : Ex) (S' : St) : Value → World → Prop := fun u w' =>
  ∃ v ι1, ex = .panic v e ∧ VRel ι1 v u ∧ Io.le ι ι1 ∧ Sim P B w1 ι1 S'.heap w' ∧ DfsRel ι1 S'.dfs a.defers ∧ zbs ι1 N S'.env a
theorem zkr (hF : FSim P N B w1 ι S a w) {o : O} {cr : CR} {h' : zaj} {k : St → Option (Ex × St)} (hf : zj3 e o S (some (cr, h')) k = some (ex, S')) (hk : zas (zsH bar S.heap B) S.heap h') {ext nu wr : Bool} {t : Option Nat} (hext : ext = true → bar = true) (hnu : nu = true → bar = true) (hwr : wr = false) {en : Ending} {w' : World} (hp : zmv P (zsH bar S.heap B) (zt7 bar w w1) ι cr h' en w') :
    (∃ v, en = .returned v ∧ Kc P N B w1 ι a w S.heap o.dst ext nu wr t k ex S' v a.defers w') ∨ (∃ v, en = .panicked [{ v := v, recovered := false }] ∧ Kp P N B w1 ι a e ex S' v w') := by
  obtain ⟨ι', hle, hS', hp⟩ := hp
  obtain ⟨hS2, hbel⟩ := hF.sim.back hle hS' hk
  cases cr with
  | ret v =>
    obtain ⟨u, rfl, hv⟩ := hp
    refine .inl ⟨u, rfl, _, ι', hf, hle, (hF.heap hle hS2).put hv, fun he => hbel (hext he), fun he => ?_, fun hw => (by rw [hwr] at hw; cases hw)⟩
    have hb := hnu he
    subst hb
    have hheap : (St.put { S with heap := h' } o.dst v).heap = h' := by cases o.dst <;> rfl
    rw [hheap]
    exact ⟨fun β o hβ h1 h2 => ⟨o, by rw [← (hk (Nat.le_refl _)).2 β hβ]; exact h1, h2⟩, fun β o b s sz h1 h2 h3 h4 => hS'.own β o b s sz h1 h2 h3 h4⟩
  | pan v =>
    obtain ⟨u, rfl, hv⟩ := hp
    simp only [zj3, Option.some.injEq, Prod.mk.injEq] at hf
    obtain ⟨rfl, rfl⟩ := hf
    exact .inr ⟨u, rfl, v, ι', rfl, hv, hle, hS2, hF.dfs.mono hle, hF.env.mono hle⟩
theorem zdz (hr : RecOk P r) (hF : FSim P N B w1 ι S a w) (hrd : zeU ι rd rb) (o : Oper) {k : St → Option (Ex × St)} (h : zbT r B bar rd.isNone e S (irO P N ops o) k = some (ex, S')) :
    (Region.wanted o (yielded ops a.tmps) = false ∧ k (S.put o.dst zaF) = some (ex, S')) ∨
    (Region.wanted o (yielded ops a.tmps) = true ∧ zah (zau P o) = true ∧ ∃ v u, k (S.put o.dst v) = some (ex, S') ∧ VRel ι v u ∧ ∀ w', (∀ b, ldB a o = some b → w'.heap[b]? = w.heap[b]?) → (execOp a.eval o).run P w' = .ok (.value u) w') ∨
    (Region.wanted o (yielded ops a.tmps) = true ∧ zah (zau P o) = false ∧ zfQ rb P o a w (Kc P N B w1 ι a w S.heap o.dst (zeO bar (zau P o)) (nuI bar (zau P o)) (!calls (zau P o)) (zqJ S.env (zau P o)) k ex S') (Kp P N B w1 ι a e ex S')) := by
  have hwe := zfr (ops := ops) hF o
  unfold zbT at h
  cases hw : wanted S.env (irO P N ops o).g with
  | false =>
    rw [hw] at h hwe
    exact .inl ⟨hwe.symm, h⟩
  | true =>
    rw [hw] at h hwe
    refine .inr ?_
    have hi : (irO P N ops o).i = zau P o := rfl
    have hdst : (irO P N ops o).dst = o.dst := rfl
    simp only [hi, hdst] at h
    cases hc : calls (zau P o) with
    | true =>
      refine .inr ⟨hwe.symm, ?_, ?_⟩
      · have hcl := zjy o hc
        generalize zau P o = i at hcl
        cases hcl <;> rfl
      · have hcl := zjy o hc
        generalize hio : zau P o = i at hcl h hc
        cases hcl with
        | call c f ho hcal =>
          simp only [] at h
          split at h
          · rename_i vs hvs
            cases hcall : r.call (bif bar then S.heap.length else B) f vs S.heap with
            | none => rw [hcall] at h; cases h
            | some res =>
              obtain ⟨cr, h'⟩ := res
              rw [hcall] at h
              obtain ⟨hok, hkeep⟩ := hr.call _ _ _ _ _ _ hcall
              obtain ⟨hbody, hcalls⟩ := hok (zt7 bar w w1) ι w (c.args.map a.eval) (hF.sim.zrS bar) (zfh hF.env hvs)
              unfold zfQ
              rw [Oper.semAt_eq rb a.eval o (fun c' => by rw [ho]; simp), zjh ho hcal (xs := #[]) (ys := #[]) rfl hbody w]
              simp only [Array.append_empty, Array.empty_append]
              exact CallsIn.mono hcalls fun en w' hp => zkr hF h hkeep (fun he => by simpa [zeO] using he) (fun he => by simpa [nuI, zj7, zeO, calls] using he) rfl hp
          · cases h
        | zbb c kk ho hcal =>
          simp only [] at h
          split at h
          · rename_i v vs hv hvs
            have hx : VRel ι v (a.eval (.tmp kk)) := zac (x := .tmp kk) hF.env hv
            have hargs := zfh hF.env hvs
            unfold zje at h
            split at h
            · rename_i f first cap
              cases hcall : r.call (bif bar then S.heap.length else B) f (first ++ vs ++ cap) S.heap with
              | none => rw [hcall] at h; cases h
              | some res =>
                obtain ⟨cr, h'⟩ := res
                rw [hcall] at h
                obtain ⟨hok, hkeep⟩ := hr.call _ _ _ _ _ _ hcall
                generalize hu0 : a.eval (.tmp kk) = u0 at hx
                cases hx with
                | clo _ _ _ xs ys g1 g2 g3 g4 =>
                  obtain ⟨hbody, hcalls⟩ := hok (zt7 bar w w1) ι w (xs ++ c.args.map a.eval ++ ys) (hF.sim.zrS bar) (zhG.append (zhG.append (l := first) (arr := xs) ⟨g1, g3⟩ hargs) ⟨g2, g4⟩)
                  unfold zfQ
                  rw [Oper.semAt_eq rb a.eval o (fun c' => by rw [ho]; simp), zjh ho hcal hu0 hbody w]
                  exact CallsIn.mono hcalls fun en w' hp => zkr hF h hkeep (fun he => by simpa [zeO] using he) (fun he => by simpa [nuI, zj7, zeO, calls] using he) rfl hp
            · rename_i l
              cases hcall : round r (bif bar then S.heap.length else B) l vs S.heap with
              | none => rw [hcall] at h; cases h
              | some res =>
                obtain ⟨cr, h'⟩ := res
                rw [hcall] at h
                have hkeep := zgu hr hcall
                generalize hu0 : a.eval (.tmp kk) = u0 at hx
                cases hx with
                | yld _ b s sz hι =>
                  obtain ⟨f, tmps, assign, body, hy, hround⟩ := zkX hr hcall (hF.sim.zrS bar) hι hargs
                  unfold zfQ
                  have hrun : (execOp a.eval o).run P w = .ok (.round b f tmps assign body) w := by
                    simp [execOp, ho, resolve, hcal, hu0, Deferred.ofValue, invoke, hy]
                  rw [Oper.semAt_eq rb a.eval o (fun c' => by rw [ho]; simp), hrun]
                  exact RoundIn.mono hround fun en w' hp => zkr hF h hkeep (fun he => by simpa [zeO] using he) (fun he => by simpa [nuI, zj7, zeO, calls] using he) rfl hp
            · cases h
          · cases h
        | panic x ho =>
          simp only [] at h
          split at h
          · rename_i t v hv
            simp only [Option.some.injEq, Prod.mk.injEq] at h
            obtain ⟨rfl, rfl⟩ := h
            have hx := zac hF.env hv
            generalize hu0 : a.eval x = u0 at hx
            cases hx with
            | ifc _ _ u hu =>
              unfold zfQ
              have hrun : (execOp a.eval o).run P w = .halt (.panic (.iface t u)) w := by
                simp [execOp, ho, hu0, Instr.panic, goPanic]
              rw [Oper.semAt_eq rb a.eval o (fun c' => by rw [ho]; simp), hrun]
              exact ⟨_, ι, rfl, .ifc t v u hu, Io.le.refl _, hF.sim, hF.dfs, hF.env⟩
          · cases h
        | defer c x ho hcal =>
          simp only [] at h
          split at h
          · rename_i f first cap vs hv hvs
            cases htop : rd.isNone with
            | false => simp only [htop, cond_false] at h; cases h
            | true =>
              simp only [htop, cond_true] at h
              have hrb := hrd.zpU htop
              subst hrb
              have hx := zac hF.env hv
              have hargs := zfh hF.env hvs
              generalize hu0 : a.eval x = u0 at hx
              cases hx with
              | clo _ _ _ xs ys g1 g2 g3 g4 =>
                unfold zfQ
                have hrun : (o.semAt none a.eval).run P w = .ok (.defer { target := .fn (.func f) ys, args := xs ++ c.args.map a.eval }) w := by
                  rw [Oper.semAt_none]
                  simp [execOp, ho, resolve, hcal, hu0, Deferred.ofValue]
                rw [hrun]
                refine ⟨_, ι, h, Io.le.refl _, FSim.put (S := ⟨S.env, .fn f (first ++ vs ++ cap) :: S.dfs, S.heap⟩) (a := ⟨a.tmps, { target := .fn (.func f) ys, args := xs ++ c.args.map a.eval } :: a.defers⟩) ⟨hF.sim, hF.env, .cons (.fn f _ _ ys (zhG.append (zhG.append (l := first) (arr := xs) ⟨g1, g3⟩ hargs) ⟨g2, g4⟩)) hF.dfs⟩ (.lit _), fun _ => Below.refl _ _, fun he => (by cases he), fun he => (by cases he)⟩
          · cases h
    | false =>
      have hh : (bif zah (zau P o) then (match q S.heap S.env (zau P o) with | some v => k (S.put o.dst v) | none => none)
          else (match eff B S.heap S.env (zau P o) with | some (v, h) => k ({ S with heap := h }.put o.dst v) | none => none)) = some (ex, S') := by
        generalize zau P o = i at h hc
        cases i <;> first | exact h | cases hc
      cases hq : zah (zau P o) with
      | true =>
        rw [hq] at hh
        simp only [cond_true] at hh
        split at hh
        · rename_i v hv
          obtain ⟨u, h1, h2⟩ := zoE hF.sim hF.env o hv
          exact .inl ⟨hwe.symm, rfl, v, u, hh, h2, h1⟩
        · cases hh
      | false =>
        rw [hq] at hh
        simp only [cond_false] at hh
        split at hh
        · rename_i v h' hv
          obtain ⟨u, w', ι', hrun, hle, hS', hvr, hbel, hbut⟩ := zns hF.sim hF.env o hv
          refine .inr ⟨hwe.symm, rfl, ?_⟩
          unfold zfQ
          have hnd : ∀ c, o.op ≠ .defer c := by
            intro c hop
            have hd : (∃ x xs, zau P o = .defer x xs) ∨ zau P o = .bad := by
              unfold zau
              rw [hop]
              simp only []
              split
              · exact .inl ⟨_, _, rfl⟩
              · exact .inr rfl
            rcases hd with ⟨x, xs, hd⟩ | hd <;> rw [hd] at hv <;> simp [eff] at hv
          have hext : zeO bar (zau P o) = true → zeO false (zau P o) = true := by
            intro he
            generalize zau P o = i at he hc
            cases i <;> first | exact he | cases hc
          have hnu : nuI bar (zau P o) = true → zpw w S.heap ({ S with heap := h' }.put o.dst v).heap ι' := by
            intro he
            have hheap : (St.put { S with heap := h' } o.dst v).heap = h' := by cases o.dst <;> rfl
            rw [hheap]
            generalize zau P o = i at he hc hv
            simp only [nuI, hc, Bool.and_false, Bool.false_or] at he
            cases i <;> first | (cases he; done) | skip
            simp only [eff] at hv
            split at hv
            · split at hv
              · rename_i β _ l _ _ _ cs hcs
                rw [Bool.cond_eq_ite] at hv
                split at hv
                · simp only [Option.some.injEq, Prod.mk.injEq] at hv
                  obtain ⟨_, rfl⟩ := hv
                  refine ⟨fun γ o hγ h1 h2 => ?_, fun γ o b s sz h1 h2 h3 h4 => ?_⟩
                  · by_cases hg : β = γ
                    · subst hg
                      exact ⟨_, zcB hcs, trivial⟩
                    · rw [List.getElem?_set_ne hg] at h1
                      exact ⟨o, h1, h2⟩
                  · have := (List.getElem?_eq_some_iff.1 h1).1
                    simp at this
                    omega
                · cases hv
              · cases hv
            · cases hv
          rw [Oper.semAt_eq rb a.eval o hnd]
          rcases hrun with hrun | ⟨hrun, rfl⟩
          · rw [hrun]
            exact ⟨_, ι', hh, hle, (hF.heap hle hS').put hvr, fun he => hbel (hext he), hnu, fun _ => hbut⟩
          · rw [hrun]
            exact ⟨_, ι', hh, hle, (hF.heap hle hS').put hvr, fun he => hbel (hext he), hnu, fun _ => hbut⟩
        · cases hh
theorem zmm (hr : RecOk P r) {o : O} {top : Bool} {k : St → Option (Ex × St)} (h : zbT r B bar top e S o k = some (ex, S')) (hk : ∀ S1, k S1 = some (ex, S') → zas B S1.heap S'.heap) : zas B S.heap S'.heap := by
  have hput : ∀ (S0 : St) (d : Option Nat) (v : V), (S0.put d v).heap = S0.heap := by
    intro S0 d v; cases d <;> rfl
  have hfin : ∀ {x : Option (CR × zaj)}, zj3 e o S x k = some (ex, S') → (∀ cr h', x = some (cr, h') → zas B S.heap h') → zas B S.heap S'.heap := by
    intro x hx hkk
    unfold zj3 at hx
    split at hx
    · rename_i v h'
      have := hk _ hx
      rw [hput] at this
      exact (hkk _ _ rfl).trans this
    · rename_i v h'
      simp only [Option.some.injEq, Prod.mk.injEq] at hx
      obtain ⟨_, rfl⟩ := hx
      exact hkk _ _ rfl
    · cases hx
  unfold zbT at h
  split at h
  · have := hk _ h; rw [hput] at this; exact this
  · split at h
    · split at h
      · rename_i f xs _ vs _
        exact hfin h fun cr h' he => zas.back (bar := bar) (hr.call _ _ _ _ _ _ he).2
      · cases h
    · split at h
      · refine hfin h fun cr h' he => zas.back (bar := bar) ?_
        unfold zje at he
        split at he
        · exact (hr.call _ _ _ _ _ _ he).2
        · exact zgu hr he
        · cases he
      · cases h
    · split at h
      · simp only [Option.some.injEq, Prod.mk.injEq] at h
        obtain ⟨_, rfl⟩ := h
        exact zas.refl _ _
      · cases h
    · split at h
      · cases top with
        | true =>
          simp only [cond_true] at h
          have := hk _ h; rw [hput] at this; exact this
        | false => simp only [cond_false] at h; cases h
      · cases h
    · rename_i i _ _ _ _
      cases hq : zah o.i with
      | true =>
        simp only [hq, cond_true] at h
        split at h
        · have := hk _ h; rw [hput] at this; exact this
        · cases h
      | false =>
        simp only [hq, cond_false] at h
        split at h
        · rename_i v h' he
          have := hk _ h; rw [hput] at this; exact (ziK he).trans this
        · cases h
theorem zek (hr : RecOk P r) {top : Bool} : ∀ (l : List O) (S S' : St) (ex : Ex), zaE r B bar top e l S = some (ex, S') → zas B S.heap S'.heap
  | [], S, S', ex, h => by
    simp only [zaE, Option.some.injEq, Prod.mk.injEq] at h
    obtain ⟨_, rfl⟩ := h
    exact zas.refl _ _
  | o :: l, S, S', ex, h => zmm hr h fun S1 h1 => zek hr l S1 S' ex h1
theorem zeA {i : Nat} {o : Oper} (ho : ops[i]? = some o) {K' : Act → World → Prop} {Kc' : Value → List Deferred → World → Prop} {Kp' : Value → World → Prop} (hw : Region.wanted o (yielded ops a.tmps) = true) (h : zfQ rb P o a w Kc' Kp')
    (hk : ∀ u ds w', Kc' u ds w' → K' (({ a with defers := ds } : Act).put o.dst u) w') (hq : ∀ v w', Kp' v w' → Q (.panic [{ v := v, recovered := false }]) a w') : wpOpIn (FW rb) 0 P ops Q i K' a w := by
  unfold wpOpIn
  simp only [ho, hw, if_true]
  exact h.wp hk hq
theorem zeS {i : Nat} {o : Oper} (ho : ops[i]? = some o) {K' : Act → World → Prop} (hw : Region.wanted o (yielded ops a.tmps) = false) (h : K' (a.put o.dst undef) w) : wpOpIn (FW rb) 0 P ops Q i K' a w := by
  unfold wpOpIn
  simp only [ho, hw, Bool.false_eq_true, if_false]
  exact ⟨fun _ _ => trivial, h⟩
theorem zfa {o : Oper} (h : zah (zau P o) = true) : ∀ c, o.op ≠ .defer c := by
  intro c hop
  unfold zau at h
  rw [hop] at h
  simp only [] at h
  split at h <;> cases h
theorem zfv {i : Nat} {o : Oper} (ho : ops[i]? = some o) {K' : Act → World → Prop} (hw : Region.wanted o (yielded ops a.tmps) = true) (hnd : ∀ c, o.op ≠ .defer c) {u : Value} (hy : (execOp a.eval o).run P w = .ok (.value u) w) (h : K' (a.put o.dst u) w) : wpOpIn (FW rb) 0 P ops Q i K' a w := by
  unfold wpOpIn
  simp only [ho, hw, if_true]
  refine ⟨fun _ _ => trivial, ?_⟩
  rw [Oper.semAt_eq _ a.eval o hnd, hy]
  exact h
theorem znd {u : Value} {w' : World} (h : Kp P N B w1 ι a e ex S' u w') : zfy P N B w1 ι ex S' (.panic [{ v := u, recovered := false }]) a w' := by
  obtain ⟨v, ι1, rfl, h1, h2, h3, h4, h5⟩ := h
  exact ⟨ι1, h2, u, rfl, h1, h3, h4, fun _ => h5⟩
theorem zdl (hr : RecOk P r) : ∀ (l : List Nat) (S : St) (ι : Io) (a : Act) (w : World), FSim P N B w1 ι S a w → zeU ι rd rb → zaE r B bar rd.isNone e (l.filterMap fun i => (ops[i]?).map (irO P N ops)) S = some (ex, S') →
    wpOpsIn (FW rb) 0 P ops (zfy P N B w1 ι ex S') l a w
  | [], S, ι, a, w, hF, _, h => by
    simp only [List.filterMap_nil, zaE, Option.some.injEq, Prod.mk.injEq] at h
    obtain ⟨rfl, rfl⟩ := h
    exact ⟨ι, Io.le.refl _, rfl, hF⟩
  | i :: l, S, ι, a, w, hF, hrd, h => by
    rw [wpOpsIn_cons]
    cases ho : ops[i]? with
    | none =>
      simp only [List.filterMap_cons, ho, Option.map_none] at h
      unfold wpOpIn
      simp only [ho]
      exact zdl hr l S ι a w hF hrd h
    | some o =>
      simp only [List.filterMap_cons, ho, Option.map_some, zaE] at h
      have hmono : ∀ {ι1 : Io} (hle : Io.le ι ι1) (a' : Act) (w' : World), wpOpsIn (FW rb) 0 P ops (zfy P N B w1 ι1 ex S') l a' w' → wpOpsIn (FW rb) 0 P ops (zfy P N B w1 ι ex S') l a' w' := by
        intro ι1 hle a' w' hh
        exact zbm (fun en a w hp => hp.mono hle) l a' w' hh
      rcases zdz (ops := ops) hr hF hrd o h with ⟨hw, hk⟩ | ⟨hw, hq, v, u, hk, hv, hy⟩ | ⟨hw, hq, hE⟩
      · exact zeS ho hw (zdl hr l _ ι _ w (hF.put (.lit _)) hrd hk)
      · exact zfv ho hw (zfa hq) (hy w fun _ _ => rfl) (zdl hr l _ ι _ w (hF.put hv) hrd hk)
      · refine zeA ho hw hE (fun u ds w' ⟨S1, ι1, hk, hle, hF1, _⟩ => hmono hle _ _ (zdl hr l S1 ι1 _ w' hF1 (hrd.mono hle) hk)) (fun v w' hp => znd hp)
end
end Go.Mx
