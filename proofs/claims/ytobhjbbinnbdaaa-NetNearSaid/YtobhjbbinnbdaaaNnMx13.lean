/-
  Calls, deferred calls, recover: THE MACHINE IS SOUND. Conditions: the table of functions is the program's.
-/
import Derived.Test.YtobhjbbinnbdaaaNnMx12
namespace Go.Mx
open Go Go.RowKit
def zbv (P : Program) (f : Nat) (fn : Fn) : Prop := ziB P f = some { fn with p := false }
theorem zbv.inv {P : Program} {f : Nat} {fn : Fn} (h : zbv P f fn) : ∃ fn0 body, P.funcs[f]? = some fn0 ∧ fn0.body = some body ∧ fn.N = fn0.ntmps ∧ fn.c = comp P fn0.ntmps body ∧ fn.rs = fn0.results.toList.map (zjr P) ∧ fn0.results.toList.all (zi8 P) = true ∧ zex P f = true := by
  unfold zbv ziB at h
  split at h
  · rename_i fn0 hf
    split at h
    · rename_i body hb
      cases hc : !(fn0.name == "runtime.NumGoroutine") && fn0.results.toList.all (zi8 P) with
      | false => simp only [hc, cond_false] at h; cases h
      | true =>
        simp only [hc, cond_true, Option.some.injEq] at h
        simp only [Bool.and_eq_true] at hc
        obtain ⟨N, c, rs, p⟩ := fn
        simp only [Fn.mk.injEq] at h
        obtain ⟨rfl, rfl, rfl, _⟩ := h
        refine ⟨fn0, body, hf, hb, rfl, rfl, rfl, hc.2, ?_⟩
        unfold zex
        rw [hf]
        simp only [hb, Option.isSome_some, Bool.and_true]
        exact hc.1
    · cases h
  · cases h
section
variable {P : Program} {B N : Nat} {w1 w : World} {ι : Io} {S S' : St} {a : Act} {r : Rec} {h h' : zaj}
def zhc (tmps : Array Value) : ResultVar → Sem Value
  | .tmp t => pure (tmps.getD t undef)
  | .cell a t => do loadVar t (← asAddr (tmps.getD a undef))
theorem zl0 (fn : Func) (tmps : Array Value) : results fn tmps = (do let vs ← fn.results.mapM (zhc tmps); pure (if h : vs.size = 1 then vs[0] else .tuple vs)) := by
  unfold results
  congr 1
theorem zi6 (hS : Sim P B w1 ι h w) {env : List V} (hE : zbs ι N env a) {x : ResultVar} (hk : zi8 P x = true) {v : V} (hv : zev h env (zjr P x) = some v) : ∃ u, VRel ι v u ∧ (zhc a.tmps x).run P w = .ok u w := by
  cases x with
  | tmp t => exact ⟨_, hE.2.2 t v hv, by simp [zhc]⟩
  | cell c t =>
    simp only [zjr, zev] at hv
    split at hv
    · rename_i β o hc
      obtain ⟨cs, h2, h3⟩ := Option.bind_eq_some_iff.1 hv
      have hx := hE.2.2 c _ hc
      generalize hu0 : a.tmps.getD c undef = u0 at hx
      cases hx with
      | ptr _ _ b s sz hι =>
        obtain ⟨u, g1, g2⟩ := zb4 (P := P) (w := w) hk h3 (fun k x hk => hS.cellAt h2 hι k x hk)
        refine ⟨u, g1, ?_⟩
        simp only [zhc, hu0, asAddr, Sem.run_bind, Sem.run_pure, Result.andThen_ok]
        exact g2 w rfl
    · cases hv
theorem zfI (hS : Sim P B w1 ι h w) {env : List V} (hE : zbs ι N env a) : ∀ (xs : List ResultVar) {vs : List V}, xs.all (zi8 P) = true → zbK h env (xs.map (zjr P)) = some vs →
    ∃ us : List Value, us.length = vs.length ∧ (∀ (i : Nat) x u, vs[i]? = some x → us[i]? = some u → VRel ι x u) ∧ (xs.mapM (zhc a.tmps)).run P w = .ok us w
  | [], vs, _, hv => by
    simp [zbK] at hv
    subst hv
    exact ⟨[], rfl, by simp, by simp⟩
  | x :: xs, vs, hk, hv => by
    simp only [List.map_cons, zbK] at hv
    simp only [List.all_cons, Bool.and_eq_true] at hk
    split at hv
    · rename_i v1 vs1 h1 h2
      cases hv
      obtain ⟨u, g1, g2⟩ := zi6 hS hE hk.1 h1
      obtain ⟨us, g3, g4, g5⟩ := zfI hS hE xs hk.2 h2
      refine ⟨u :: us, by simp [g3], fun i y z hy hz => ?_, by simp [List.mapM_cons, g2, g5]⟩
      cases i with
      | zero => simp at hy hz; subst hy; subst hz; exact g1
      | succ i => exact g4 i y z (by simpa using hy) (by simpa using hz)
    · cases hv
theorem zfj (hS : Sim P B w1 ι h w) {env : List V} (hE : zbs ι N env a) {fn : Func} (hk : fn.results.toList.all (zi8 P) = true) {vs : List V} (hv : zbK h env (fn.results.toList.map (zjr P)) = some vs) :
    ∃ u, VRel ι (zeL vs) u ∧ (results fn a.tmps).run P w = .ok u w := by
  obtain ⟨us, g1, g2, g3⟩ := zfI hS hE _ hk hv
  have hm : (fn.results.mapM (zhc a.tmps)).run P w = .ok us.toArray w := by
    have : fn.results = fn.results.toList.toArray := by simp
    rw [this, List.mapM_toArray]
    simp [g3]
  rw [zl0]
  simp only [Sem.run_bind, hm, Result.andThen_ok, Sem.run_pure]
  refine ⟨_, ?_, rfl⟩
  match vs, us, g1 with
  | [v], [u], _ => exact g2 0 v u rfl rfl
  | [], [], _ => exact .tup _ _ rfl (by simp)
  | v :: v' :: vs, u :: u' :: us, hl =>
    simp only [zeL]
    refine .tup _ _ (by simpa using hl) (fun i x z hx hz => g2 i x z hx (by simpa using hz))
theorem CallsDIn.mono {F : Fence} {n : Nat} {f : FuncId} {args : Array Value} {u : FrameMode} {R R' : Ending → FrameMode → World → Prop} (hc : CallsDIn F n P f args u w R) (hr : ∀ e u' w', R e u' w' → R' e u' w') : CallsDIn F n P f args u w R' :=
  ⟨hc.1, fun c cs hm hroom => let ⟨e, u', w', fr, r, rest⟩ := hc.2 c cs hm hroom; ⟨e, u', w', fr, hr _ _ _ r, rest⟩⟩
theorem zlW {f : Nat} (hf : zex P f = true) (xs ys : Array Value) (w' : World) : (invoke (.fn (.func f) ys) xs).run P w' = .ok (.enter f (xs ++ ys)) w' := by
  unfold zex at hf
  cases hfn : P.funcs[f]? with
  | none => rw [hfn] at hf; cases hf
  | some fn =>
    rw [hfn] at hf
    simp only [Bool.and_eq_true, Bool.not_eq_true', beq_eq_false_iff_ne] at hf
    have h1 : ¬ (fn.name = "runtime.NumGoroutine") := hf.1
    obtain ⟨bd, hbd⟩ := Option.isSome_iff_exists.1 hf.2
    simp [invoke, callFunc, hfn, h1, hbd]
theorem zjI (pu : Option Value) : zc0 pu ≠ .run := by cases pu <;> simp [zc0]
theorem zdM (hr : RecOk P r) {fn : Func} {tmps : Array Value} {R : Ending → World → Prop} {pv' : Option V} {h' : zaj} : ∀ (ds : List Df) (es : List Deferred) (pv : Option V) (pu : Option Value) (h : zaj) (w : World) (ι : Io), leave r B pv ds h = some (pv', h') → Sim P B w1 ι h w → DfsRel ι ds es → zjT ι pv pu →
    (∀ ι' w' pu', Io.le ι ι' → Sim P B w1 ι' h' w' → zjT ι' pv' pu' → LeavesInM (FW none) 0 P fn tmps R [] (zc0 pu') w') → LeavesInM (FW none) 0 P fn tmps R es (zc0 pu) w
  | [], es, pv, pu, h, w, ι, hl, hS, hd, hp, hk => by
    cases hd
    simp only [leave, Option.some.injEq, Prod.mk.injEq] at hl
    obtain ⟨rfl, rfl⟩ := hl
    exact hk ι w pu (Io.le.refl _) hS hp
  | .coll d :: ds, es, pv, pu, h, w, ι, hl, hS, hd, hp, hk => by
    cases hd with
    | cons hd1 hds =>
    cases hd1 with
    | coll _ b s sz hι =>
      simp only [leave] at hl
      split at hl
      · rename_i hdd
        cases hB : Nat.ble B d with
        | false => simp only [hB, cond_false] at hl; cases hl
        | true =>
          simp only [hB, cond_true] at hl
          have hB := Nat.le_of_ble_eq_true hB
          obtain ⟨b', s', sz', k1, k2⟩ := hS.obj d _ hdd
          rw [hι] at k1; cases k1
          refine ⟨zjI pu, .inl ⟨b, _, rfl, run_takeDeferred k2, ?_⟩⟩
          have hS' : Sim P B w1 ι (h.set d .dead) (zgU w b (.deferred none)) := hS.change (o' := .dead) hdd trivial hB hι (zcL _ _ _) trivial
          exact zdM hr ds _ pv pu _ _ ι hl hS' hds hp hk
      · cases hl
  | .fn f args :: ds, es, pv, pu, h, w, ι, hl, hS, hd, hp, hk => by
    cases hd with
    | cons hd1 hds =>
    cases hd1 with
    | fn _ _ xs ys ha =>
      simp only [leave] at hl
      split at hl
      · rename_i pv1 h1 hdc
        obtain ⟨hok, _⟩ := hr.dcall _ _ _ _ _ _ _ hdc
        obtain ⟨hbody, hcd⟩ := hok w1 ι w (xs ++ ys) pu hS ha hp
        refine ⟨zjI pu, .inr ⟨zfV none 0, .func f, ys, f, xs ++ ys, rfl, zlW hbody xs ys w, fun _ _ => trivial, ?_⟩⟩
        refine CallsDIn.mono hcd fun e u' w' he => ?_
        obtain ⟨⟨v, rfl⟩, ι', pu', hle, hS', hset, hp'⟩ := he
        show LeavesInM (FW none) 0 P fn tmps R _ (settle u') w'
        rw [hset]
        exact zdM hr ds _ pv1 pu' h1 w' ι' hl hS' (hds.mono hle) hp' (fun ι2 w2 pu2 hle2 => hk ι2 w2 pu2 (hle.trans hle2))
      · cases hl
theorem zdE (hr : RecOk P r) {pv' : Option V} {h' : zaj} : ∀ (ds : List Df) (pv : Option V) (h : zaj), leave r B pv ds h = some (pv', h') → zas B h h'
  | [], pv, h, hl => by
    simp only [leave, Option.some.injEq, Prod.mk.injEq] at hl
    obtain ⟨_, rfl⟩ := hl
    exact zas.refl _ _
  | .coll d :: ds, pv, h, hl => by
    simp only [leave] at hl
    split at hl
    · cases hB : Nat.ble B d with
      | false => simp only [hB, cond_false] at hl; cases hl
      | true =>
        simp only [hB, cond_true] at hl
        exact (zas.set _ _ (Nat.le_of_ble_eq_true hB)).trans (zdE hr ds pv _ hl)
    · cases hl
  | .fn f args :: ds, pv, h, hl => by
    simp only [leave] at hl
    split at hl
    · rename_i pv1 h1 hdc
      exact (hr.dcall _ _ _ _ _ _ _ hdc).2.trans (zdE hr ds _ _ hl)
    · cases hl
theorem ziZ {args : List V} {vs : Array Value} (ha : zhG ι args vs) {n : Nat} (hn : args.length ≤ n) : zbs ι n (args ++ List.replicate (n - args.length) zaF) ⟨vs ++ Array.replicate (n - vs.size) undef, []⟩ := by
  have hsz := ha.1
  refine ⟨by simp; omega, by simp; omega, fun k v hk => ?_⟩
  simp only [Array.getD_eq_getD_getElem?]
  rw [List.getElem?_append] at hk
  rw [Array.getElem?_append]
  rw [hsz]
  split at hk
  · rename_i hlt
    rw [if_pos hlt]
    have hlt' : k < vs.size := by omega
    rw [Array.getElem?_eq_getElem hlt', Option.getD_some]
    exact ha.2 k v _ hk (Array.getElem?_eq_getElem hlt')
  · rename_i hge
    rw [if_neg hge]
    have hv : v = zaF := by
      have := List.mem_of_getElem? hk
      exact (List.mem_replicate.1 this).2
    subst hv
    have : ((Array.replicate (n - args.length) undef)[k - args.length]?).getD undef = undef := by
      rw [Array.getElem?_replicate]
      split <;> rfl
    rw [this]
    exact .lit _
theorem zgy (hr : RecOk P r) {fn : Fn} {fn0 : Func} (hrs : fn.rs = fn0.results.toList.map (zjr P)) (hres : fn0.results.toList.all (zi8 P) = true) {pv : Option V} {pu : Option Value} {e : Bool} {cr : CR} {h' : zaj} (hf : fin r B fn pv e S' = some (cr, h')) {ι0 : Io} (hle0 : Io.le ι0 ι)
    (hS : Sim P B w1 ι S'.heap w) (hE : e = true → zbs ι N S'.env a) (hd : DfsRel ι S'.dfs a.defers) (hp : zjT ι pv pu) :
    LeavesInM (FW none) 0 P fn0 a.tmps (zmv P B w1 ι0 cr h') a.defers (zc0 pu) w := by
  unfold fin at hf
  split at hf
  · rename_i h1 hl
    cases e with
    | false => simp only [Bool.not_false, cond_true] at hf; cases hf
    | true =>
    simp only [Bool.not_true, cond_false, Option.map_eq_some_iff, Prod.mk.injEq] at hf
    obtain ⟨vs, hv, rfl, rfl⟩ := hf
    refine zdM hr _ _ pv pu _ w ι hl hS hd hp fun ι' w' pu' hle hS' hp' => ?_
    cases pu' with
    | some _ => exact hp'.elim
    | none =>
      rw [hrs] at hv
      obtain ⟨u, g1, g2⟩ := zfj hS' ((hE rfl).mono hle) hres hv
      exact ⟨u, g2, ι', hle0.trans hle, hS', u, rfl, g1⟩
  · rename_i v h1 hl
    simp only [Option.some.injEq, Prod.mk.injEq] at hf
    obtain ⟨rfl, rfl⟩ := hf
    refine zdM hr _ _ pv pu _ w ι hl hS hd hp fun ι' w' pu' hle hS' hp' => ?_
    cases pu' with
    | none => exact hp'.elim
    | some u => exact ⟨ι', hle0.trans hle, hS', u, rfl, hp'⟩
  · cases hf
theorem zhd (hm : P.follows .mixedOrders = true) (hr : RecOk P r) {f : Nat} {fn : Fn} (hfn : zbv P f fn) {args : List V} {cr : CR} (hc : body r fn B args h = some (cr, h')) : zhq P B f args h cr h' := by
  unfold body at hc
  obtain ⟨fn0, body, hf, hb, hN, hcc, hrs, hres, hbody⟩ := hfn.inv
  cases hle : Nat.ble args.length fn.N with
  | false => simp only [hle, cond_false] at hc; cases hc
  | true =>
    simp only [hle, cond_true] at hc
    have hle := Nat.le_of_ble_eq_true hle
    intro w1 ι w vs hS ha
    refine ⟨hbody, callsIn_of_wp_marks hf hb trivial ?_⟩
    have hF : FSim P fn0.ntmps B w1 ι ⟨args ++ List.replicate (fn.N - args.length) zaF, [], h⟩ ⟨vs ++ Array.replicate (fn0.ntmps - vs.size) undef, []⟩ w := ⟨hS, by rw [hN] at hle ⊢; exact ziZ ha hle, .nil⟩
    cases hx : exec r B none fn.c ⟨args ++ List.replicate (fn.N - args.length) zaF, [], h⟩ with
    | none => rw [hx] at hc; cases hc
    | some res =>
      obtain ⟨ex, S'⟩ := res
      rw [hx] at hc
      rw [hcc] at hx
      refine wpIn_mono (zbr hm hr body _ S' ex w1 ι _ w none hx hF (.inl ⟨rfl, rfl⟩)) fun en a' w' hp => ?_
      obtain ⟨ι', hle', hp⟩ := hp
      cases ex with
      | normal =>
        obtain ⟨rfl, hF'⟩ := hp
        exact zgy (pv := none) (pu := none) (N := fn0.ntmps) hr hrs hres hc hle' hF'.sim (fun _ => hF'.env) hF'.dfs trivial
      | ret =>
        obtain ⟨rfl, hF'⟩ := hp
        exact zgy (pv := none) (pu := none) (N := fn0.ntmps) hr hrs hres hc hle' hF'.sim (fun _ => hF'.env) hF'.dfs trivial
      | panic v e =>
        obtain ⟨u, rfl, hv, hS', hd, hE⟩ := hp
        exact zgy (pv := some v) (pu := some u) (N := fn0.ntmps) hr hrs hres hc hle' hS' hE hd hv
      | exit id => cases hc
theorem zl7 (hr : RecOk P r) {fn : Fn} {args : List V} {cr : CR} (hc : body r fn B args h = some (cr, h')) : zas B h h' := by
  have hfin : ∀ {pv : Option V} {e : Bool} {S' : St}, fin r B fn pv e S' = some (cr, h') → zas B S'.heap h' := by
    intro pv e S' hf
    unfold fin at hf
    split at hf
    · rename_i h1 hl
      cases e with
      | false => simp only [Bool.not_false, cond_true] at hf; cases hf
      | true =>
        simp only [Bool.not_true, cond_false, Option.map_eq_some_iff, Prod.mk.injEq] at hf
        obtain ⟨vs, hv, _, rfl⟩ := hf
        exact zdE hr _ _ _ hl
    · rename_i v h1 hl
      simp only [Option.some.injEq, Prod.mk.injEq] at hf
      obtain ⟨_, rfl⟩ := hf
      exact zdE hr _ _ _ hl
    · cases hf
  intro hB
  unfold body at hc
  cases hle : Nat.ble args.length fn.N with
  | false => simp only [hle, cond_false] at hc; cases hc
  | true =>
    simp only [hle, cond_true] at hc
    split at hc
    · rename_i S' hx; exact ((zaS hr _ _ _ _ hx hB).trans (hfin hc)) hB
    · rename_i S' hx; exact ((zaS hr _ _ _ _ hx hB).trans (hfin hc)) hB
    · rename_i v e S' hx; exact ((zaS hr _ _ _ _ hx hB).trans (hfin hc)) hB
    · cases hc
theorem zim {ι ι' : Io} : ∀ (vs : List V), V.lits vs = true → ∀ (i : Nat) x u, vs[i]? = some x → VRel ι x u → VRel ι' x u
  | [], _, i, x, u, hx, _ => by simp at hx
  | v :: vs, hl, i, x, u, hx, hr => by
    cases v with
    | lit y =>
      simp only [V.lits] at hl
      cases i with
      | zero => simp at hx; subst hx; cases hr; exact .lit _
      | succ i => exact zim vs hl i x u (by simpa using hx) hr
    | _ => simp [V.lits] at hl
theorem zoq {ι ι' : Io} {vs : List V} (hl : V.lits vs = true) {u : Value} (hr : VRel ι (.agg vs) u) : VRel ι' (.agg vs) u := by
  cases hr with
  | agg _ arr h1 h2 h3 => exact .agg vs arr h1 (fun i x v hx hv => zim vs hl i x v hx (h2 i x v hx hv)) h3
theorem zi9 {ι ι' : Io} {v : V} (hp : v.plain = true) {u : Value} (hr : VRel ι v u) : VRel ι' v u := by
  cases v with
  | lit x => cases hr; exact .lit _
  | tup vs =>
    cases hr with
    | tup _ arr h1 h2 => exact .tup vs arr h1 (fun i x v hx hv => zim vs hp i x v hx (h2 i x v hx hv))
  | agg vs => exact zoq hp hr
  | ifc t v =>
    cases hr with
    | ifc _ _ u h1 =>
      refine .ifc t v u ?_
      cases v with
      | lit x => cases h1; exact .lit _
      | agg vs => exact zoq hp h1
      | _ => simp [V.plain] at hp
  | _ => simp [V.plain] at hp
theorem Sim.still {w' : World} (hS : Sim P B w1 ι h w) (hb : Below w.heap.size w w') : Sim P B w1 ι h w' :=
  hS.grown ⟨hb.os, hb.tape, hb.output, hb.size, fun k hk _ => hb.block k hk⟩
theorem zkn (hm : P.follows .mixedOrders = true) (hr : RecOk P r) {fns : Nat → Option Fn} (hfns : ∀ f fn, fns f = some fn → zbv P f fn) {f : Nat} {args : List V} {cr : CR} (hc : zga r fns B f args h = some (cr, h')) : zhq P B f args h cr h' ∧ zas B h h' := by
  unfold zga at hc
  split at hc
  · rename_i fn hfn
    have hok := hfns f fn hfn
    cases hp : fn.p with
    | false =>
      simp only [hp, cond_false] at hc
      exact ⟨zhd hm hr hok hc, zl7 hr hc⟩
    | true =>
      simp only [hp, cond_true] at hc
      cases hB : Nat.ble B h.length with
      | false => simp only [hB, cond_false] at hc; cases hc
      | true =>
        simp only [hB, cond_true] at hc
        have key : ∀ cr2 h2, body r fn h.length args h = some (cr2, h2) → (∃ v, (cr2 = .ret v ∨ cr2 = .pan v) ∧ v.plain = true) → cr2 = cr → h = h' → zhq P B f args h cr h' ∧ zas B h h' := by
          intro cr2 h2 hb hpl hcr hh
          subst hcr; subst hh
          refine ⟨fun w1 ι w vs hS ha => ?_, zas.refl _ _⟩
          obtain ⟨g1, g2⟩ := zhd hm hr hok hb w ι w vs hS.zqP ha
          refine ⟨g1, CallsIn.mono g2 fun en w' hpost => ?_⟩
          obtain ⟨ι', hle, hS', hpost⟩ := hpost
          refine ⟨ι, Io.le.refl _, hS.still hS'.below, ?_⟩
          obtain ⟨v, hv, hplain⟩ := hpl
          rcases hv with rfl | rfl
          · obtain ⟨u, he, hr⟩ := hpost
            exact ⟨u, he, zi9 hplain hr⟩
          · obtain ⟨u, he, hr⟩ := hpost
            exact ⟨u, he, zi9 hplain hr⟩
        cases hb : body r fn h.length args h with
        | none => rw [hb] at hc; simp [forget] at hc
        | some res =>
          obtain ⟨cr2, h2⟩ := res
          rw [hb] at hc
          cases cr2 with
          | ret v =>
            simp only [forget] at hc
            cases hpl : v.plain with
            | false => simp only [hpl, cond_false] at hc; cases hc
            | true =>
              simp only [hpl, cond_true, Option.some.injEq, Prod.mk.injEq] at hc
              exact key _ h2 hb ⟨v, .inl rfl, hpl⟩ hc.1 hc.2
          | pan v =>
            simp only [forget] at hc
            cases hpl : v.plain with
            | false => simp only [hpl, cond_false] at hc; cases hc
            | true =>
              simp only [hpl, cond_true, Option.some.injEq, Prod.mk.injEq] at hc
              exact key _ h2 hb ⟨v, .inr rfl, hpl⟩ hc.1 hc.2
  · cases hc
def zoZ (ι : Io) (pv : Option V) (u : FrameMode) : Prop := (∃ v x, pv = some v ∧ u = .panicking [{ v := x, recovered := false }] ∧ VRel ι v x) ∨ (pv = none ∧ (u = .returning ∨ ∃ x, u = .panicking [{ v := x, recovered := true }]))
theorem zoZ.mono {ι ι' : Io} (hle : Io.le ι ι') {pv : Option V} {u : FrameMode} (hm : zoZ ι pv u) : zoZ ι' pv u := by
  rcases hm with ⟨v, x, h1, h2, h3⟩ | h1
  · exact .inl ⟨v, x, h1, h2, h3.mono hle⟩
  · exact .inr h1
theorem zoZ.settle {pv : Option V} {u : FrameMode} (hm : zoZ ι pv u) : ∃ pu, settle u = zc0 pu ∧ zjT ι pv pu := by
  rcases hm with ⟨v, x, rfl, rfl, h3⟩ | ⟨rfl, rfl | ⟨x, rfl⟩⟩
  · exact ⟨some x, rfl, h3⟩
  · exact ⟨none, rfl, trivial⟩
  · exact ⟨none, rfl, trivial⟩
def zgB (P : Program) (N B : Nat) (w1 : World) (ι : Io) (ex : Ex) (pv' : Option V) (S' : St) (c₀ : Frame) (cs₀ : List Frame) : Exit → Act → List Frame → World → Prop := fun en a' cs' w' =>
  ∃ u', cs' = { c₀ with mode := u' } :: cs₀ ∧ ∃ ι', Io.le ι ι' ∧ zoZ ι' pv' u' ∧
  match ex with
  | .panic _ _ => True
  | .normal => en = .normal ∧ FSim P N B w1 ι' S' a' w'
  | .exit id => en = .exit id ∧ FSim P N B w1 ι' S' a' w'
  | .ret => en = .ret ∧ FSim P N B w1 ι' S' a' w'
theorem zgB.mono {ι ι' : Io} (hle : Io.le ι ι') {ex : Ex} {pv' : Option V} {c₀ : Frame} {cs₀ : List Frame} {en : Exit} {a' : Act} {cs' : List Frame} {w' : World} (hp : zgB P N B w1 ι' ex pv' S' c₀ cs₀ en a' cs' w') : zgB P N B w1 ι ex pv' S' c₀ cs₀ en a' cs' w' := by
  obtain ⟨u', h1, ι'', h2, h3⟩ := hp
  exact ⟨u', h1, ι'', hle.trans h2, h3⟩
theorem zdA {F : Fence} {n : Nat} {c : Code} {Q Q' : Exit → Act → List Frame → World → Prop} {cs : List Frame} (hw : c.wpSIn F n P Q a cs w) (hq : ∀ e a cs w, Q e a cs w → Q' e a cs w) : c.wpSIn F n P Q' a cs w :=
  fun b k hb hr hF hroom => let ⟨e, a', cs', w', l, q, x⟩ := hw b k hb hr hF hroom; ⟨e, a', cs', w', l, hq _ _ _ _ q, x⟩
theorem zkf {o : Oper} (hi : zau P o = .recover) (w' : World) : (execOp a.eval o).run P w' = .ok .recover w' := by
  obtain ⟨dst, op, type, pos, after, guard⟩ := o
  have key : ∀ {b : Bool} {i : I}, (bif b then i else I.bad) = .recover → b = true ∧ i = .recover := by
    intro b i h
    cases b with
    | true => exact ⟨rfl, h⟩
    | false => cases h
  cases op with
  | call c =>
    simp only [zau, zf9] at hi
    split at hi
    · obtain ⟨_, hi⟩ := key hi; cases hi
    · cases hi
    · rename_i b hc
      split at hi
      · split at hi <;> cases hi
      · cases hi
      · cases hi
      · split at hi
        · obtain ⟨_, hi⟩ := key hi
          split at hi
          · obtain ⟨_, hi⟩ := key hi; cases hi
          · cases hi
        · cases hi
      · split at hi
        · obtain ⟨_, hi⟩ := key hi; cases hi
        · cases hi
      · split at hi
        · obtain ⟨_, hi⟩ := key hi
          split at hi
          · obtain ⟨_, hi⟩ := key hi; cases hi
          · cases hi
        · cases hi
      · rw [zaT rfl hc]
        rfl
      · cases hi
    · cases hi
  | alloc t =>
    simp only [zau] at hi
    split at hi
    · obtain ⟨_, hi⟩ := key hi; cases hi
    · cases hi
  | build t parts =>
    simp only [zau] at hi
    split at hi
    · obtain ⟨_, hi⟩ := key hi
      split at hi
      · obtain ⟨_, hi⟩ := key hi; cases hi
      · obtain ⟨_, hi⟩ := key hi; cases hi
      · cases hi
    · cases hi
  | buildSlice t len parts =>
    simp only [zau] at hi
    split at hi
    · obtain ⟨_, hi⟩ := key hi
      split at hi
      · obtain ⟨_, hi⟩ := key hi; cases hi
      · cases hi
    · cases hi
  | load t x => simp only [zau] at hi; obtain ⟨_, hi⟩ := key hi; cases hi
  | store t x y => simp only [zau] at hi; obtain ⟨_, hi⟩ := key hi; cases hi
  | fieldAddr s x f =>
    simp only [zau] at hi
    split at hi
    · split at hi
      · obtain ⟨_, hi⟩ := key hi; cases hi
      · cases hi
    · cases hi
  | field s x f =>
    simp only [zau] at hi
    split at hi
    · split at hi
      · obtain ⟨_, hi⟩ := key hi; cases hi
      · cases hi
    · cases hi
  | indexAddr t x i =>
    simp only [zau] at hi
    split at hi
    · obtain ⟨_, hi⟩ := key hi; cases hi
    · obtain ⟨_, hi⟩ := key hi; cases hi
    · cases hi
  | index t x i =>
    simp only [zau] at hi
    split at hi
    · obtain ⟨_, hi⟩ := key hi; cases hi
    · split at hi <;> cases hi
    · cases hi
  | makeFunc fn first cap => cases fn <;> cases hi
  | makeInterface t x => simp only [zau] at hi; split at hi <;> cases hi
  | binOp op t x y ty =>
    simp only [zau] at hi
    split at hi
    · cases hi
    all_goals first
      | (split at hi <;> cases hi; done)
      | cases hi
  | convert s d x => simp only [zau] at hi; split at hi <;> cases hi
  | makeSlice t l c =>
    simp only [zau] at hi
    split at hi
    · obtain ⟨_, hi⟩ := key hi
      split at hi
      · obtain ⟨_, hi⟩ := key hi; cases hi
      · cases hi
    · cases hi
  | slice t x lo hi' mx =>
    simp only [zau] at hi
    split at hi
    · obtain ⟨_, hi⟩ := key hi; cases hi
    · obtain ⟨_, hi⟩ := key hi; cases hi
    · cases hi
  | defer c => simp only [zau] at hi; split at hi <;> cases hi
  | _ => cases hi
theorem zbD {ops : Array Oper} {c₀ : Frame} {cs₀ : List Frame} {pv' : Option V} : ∀ (l : List Nat) (S : St) (pv : Option V) (u : FrameMode) (ι : Io) (a : Act) (w : World), FSim P N B w1 ι S a w → zoZ ι pv u → zlR B (l.filterMap fun i => (ops[i]?).map (irO P N ops)) pv S = some (pv', S') →
    wpOpsSIn (FW none) 0 P ops (zgB P N B w1 ι .normal pv' S' c₀ cs₀) l a ({ c₀ with mode := u } :: cs₀) w
  | [], S, pv, u, ι, a, w, hF, hM, h => by
    simp only [List.filterMap_nil, zlR, Option.some.injEq, Prod.mk.injEq] at h
    obtain ⟨rfl, rfl⟩ := h
    exact ⟨u, rfl, ι, Io.le.refl _, hM, rfl, hF⟩
  | i :: l, S, pv, u, ι, a, w, hF, hM, h => by
    have hmono : ∀ {ι1 : Io} (hle : Io.le ι ι1) (l : List Nat) (a' : Act) (cs' : List Frame) (w' : World), wpOpsSIn (FW none) 0 P ops (zgB P N B w1 ι1 .normal pv' S' c₀ cs₀) l a' cs' w' → wpOpsSIn (FW none) 0 P ops (zgB P N B w1 ι .normal pv' S' c₀ cs₀) l a' cs' w' := by
      intro ι1 hle l
      induction l with
      | nil => intro a' cs' w' hh; exact zgB.mono hle hh
      | cons j l ih =>
        intro a' cs' w' hh
        simp only [wpOpsSIn] at hh ⊢
        split
        · rename_i ho; simp only [ho] at hh; exact ih _ _ _ hh
        · rename_i o ho
          simp only [ho] at hh
          refine ⟨hh.1, ?_⟩
          have hh := hh.2
          split
          · rename_i hw
            simp only [hw, if_true] at hh
            generalize (execOp a'.eval o).run P w' = res at hh
            cases res with
            | ok x w'' =>
              cases x <;> simp only [] at hh ⊢ <;> first | exact ih _ _ _ hh | exact hh | (split at hh <;> exact ih _ _ _ hh)
            | halt x w'' => cases x <;> simp only [] at hh ⊢ <;> first | exact zgB.mono hle hh | exact hh
          · rename_i hw
            simp only [hw] at hh
            exact ih _ _ _ hh
    simp only [wpOpsSIn]
    cases ho : ops[i]? with
    | none =>
      simp only [List.filterMap_cons, ho, Option.map_none] at h
      exact zbD l S pv u ι a w hF hM h
    | some o =>
      simp only [List.filterMap_cons, ho, Option.map_some, zlR] at h
      refine ⟨fun _ _ => trivial, ?_⟩
      have hwe := zfr (ops := ops) hF o
      have hi : (irO P N ops o).i = zau P o := rfl
      have hdst : (irO P N ops o).dst = o.dst := rfl
      simp only [hi, hdst] at h
      cases hw : wanted S.env (irO P N ops o).g with
      | false =>
        rw [hw] at h hwe
        rw [← hwe]
        simp only [Bool.false_eq_true, if_false]
        exact zbD l _ pv u ι _ w (hF.put (.lit _)) hM h
      | true =>
        rw [hw] at h hwe
        rw [← hwe]
        simp only [if_true]
        cases hc : znm (zau P o) with
        | true =>
          have hir : zau P o = .recover := by
            generalize zau P o = i at hc
            cases i <;> first | rfl | cases hc
          rw [zkf hir]
          rw [hir] at h
          simp only [] at h ⊢
          rcases hM with ⟨v, x, rfl, rfl, h3⟩ | ⟨rfl, rfl | ⟨x, rfl⟩⟩
          · simp only [] at h
            simp only [recoverD]
            exact zbD l _ none (.panicking [{ v := x, recovered := true }]) ι _ w (hF.put h3) (.inr ⟨rfl, .inr ⟨x, rfl⟩⟩) h
          · simp only [] at h
            simp only [recoverD]
            exact zbD l _ none .returning ι _ w (hF.put (.lit _)) (.inr ⟨rfl, .inl rfl⟩) h
          · simp only [] at h
            simp only [recoverD]
            exact zbD l _ none (.panicking [{ v := x, recovered := true }]) ι _ w (hF.put (.lit _)) (.inr ⟨rfl, .inr ⟨x, rfl⟩⟩) h
        | false =>
          have hh : (bif zah (zau P o) then (match q S.heap S.env (zau P o) with | some v => zlR B (l.filterMap fun i => (ops[i]?).map (irO P N ops)) pv (S.put o.dst v) | none => none)
              else (match eff B S.heap S.env (zau P o) with | some (v, h) => zlR B (l.filterMap fun i => (ops[i]?).map (irO P N ops)) pv ({ S with heap := h }.put o.dst v) | none => none)) = some (pv', S') := by
            generalize zau P o = i at h hc
            cases i <;> first | exact h | cases hc
          cases hq : zah (zau P o) with
          | true =>
            rw [hq] at hh
            simp only [cond_true] at hh
            split at hh
            · rename_i v hv
              obtain ⟨x, h1, h2⟩ := zoE hF.sim hF.env o hv
              rw [h1 w (fun _ _ => rfl)]
              exact zbD l _ pv u ι _ w (hF.put h2) hM hh
            · cases hh
          | false =>
            rw [hq] at hh
            simp only [cond_false] at hh
            split at hh
            · rename_i v h' hv
              obtain ⟨x, w', ι', hrun, hle, hS', hvr, _⟩ := zns hF.sim hF.env o hv
              rcases hrun with hrun | ⟨hrun, rfl⟩
              · rw [hrun]
                exact hmono hle _ _ _ _ (zbD l _ pv u ι' _ w' ((hF.heap hle hS').put hvr) (hM.mono hle) hh)
              · rw [hrun]
                exact hmono hle _ _ _ _ (zbD l _ pv u ι' _ w' ((hF.heap hle hS').put hvr) (hM.mono hle) hh)
            · cases hh
theorem zkL (hm : P.follows .mixedOrders = true) (hr : RecOk P r) {c₀ : Frame} {cs₀ : List Frame} : ∀ (code : Code) (S S' : St) (pv pv' : Option V) (ex : Ex) (u : FrameMode) (ι : Io) (a : Act) (w : World), zeg r B (comp P N code) pv S = some (ex, pv', S') → FSim P N B w1 ι S a w → zoZ ι pv u →
    (∀ v e, ex ≠ .panic v e) → code.wpSIn (FW none) 0 P (zgB P N B w1 ι ex pv' S' c₀ cs₀) a ({ c₀ with mode := u } :: cs₀) w := by
  have plain : ∀ (code : Code) (S S' : St) (pv pv' : Option V) (ex : Ex) (u : FrameMode) (ι : Io) (a : Act) (w : World), (exec r B none (comp P N code) S).map (fun x => (x.1, pv, x.2)) = some (ex, pv', S') → FSim P N B w1 ι S a w → zoZ ι pv u →
      (∀ v e, ex ≠ .panic v e) → code.wpSIn (FW none) 0 P (zgB P N B w1 ι ex pv' S' c₀ cs₀) a ({ c₀ with mode := u } :: cs₀) w := by
    intro code S S' pv pv' ex u ι a w h hF hM hnp
    simp only [Option.map_eq_some_iff, Prod.mk.injEq, Prod.exists] at h
    obtain ⟨ex1, S1, hx, rfl, rfl, rfl⟩ := h
    refine wpSIn_of_wpIn rfl (wpIn_mono (zbr hm hr code S S1 ex1 w1 ι a w none hx hF (.inl ⟨rfl, rfl⟩)) fun en a1 w2 hp => ?_)
    obtain ⟨ι', hle, hp⟩ := hp
    refine ⟨u, rfl, ι', hle, hM.mono hle, ?_⟩
    cases ex1 with
    | panic v e => exact absurd rfl (hnp v e)
    | normal => exact hp
    | exit id => exact hp
    | ret => exact hp
  intro code
  induction code with
  | seq x y ihx ihy =>
    intro S S' pv pv' ex u ι a w h hF hM hnp
    simp only [comp, zeg] at h
    refine wpSIn_seq ?_
    cases hx : zeg r B (comp P N x) pv S with
    | none => rw [hx] at h; cases h
    | some res =>
      obtain ⟨ex1, pv1, S1⟩ := res
      rw [hx] at h
      cases ex1 with
      | normal =>
        refine zdA (ihx S S1 pv pv1 .normal u ι a w hx hF hM (by simp)) fun en a1 cs1 wx hp => ?_
        obtain ⟨u1, rfl, ι1, hle, hM1, rfl, hF1⟩ := hp
        exact zdA (ihy S1 S' pv1 pv' ex u1 ι1 a1 wx h hF1 hM1 hnp) fun en a2 cs2 w2 hp2 => zgB.mono hle hp2
      | exit id =>
        simp only [Option.some.injEq, Prod.mk.injEq] at h
        obtain ⟨rfl, rfl, rfl⟩ := h
        refine zdA (ihx S S1 pv pv1 _ u ι a w hx hF hM (by simp)) fun en a1 cs1 wx hp => ?_
        obtain ⟨u1, rfl, ι1, hle, hM1, rfl, hF1⟩ := hp
        exact ⟨u1, rfl, ι1, hle, hM1, rfl, hF1⟩
      | ret =>
        simp only [Option.some.injEq, Prod.mk.injEq] at h
        obtain ⟨rfl, rfl, rfl⟩ := h
        refine zdA (ihx S S1 pv pv1 _ u ι a w hx hF hM (by simp)) fun en a1 cs1 wx hp => ?_
        obtain ⟨u1, rfl, ι1, hle, hM1, rfl, hF1⟩ := hp
        exact ⟨u1, rfl, ι1, hle, hM1, rfl, hF1⟩
      | panic v e =>
        simp only [Option.some.injEq, Prod.mk.injEq] at h
        obtain ⟨rfl, _, _⟩ := h
        exact absurd rfl (hnp v e)
  | cond c x y ihx ihy =>
    intro S S' pv pv' ex u ι a w h hF hM hnp
    simp only [comp, zeg] at h
    split at h
    · rename_i hb
      exact wpSIn_cond (t := true) (zcz hF.env hb) (ihx S S' pv pv' ex u ι a w h hF hM hnp)
    · rename_i hb
      exact wpSIn_cond (t := false) (zcz hF.env hb) (ihy S S' pv pv' ex u ι a w h hF hM hnp)
    · cases h
  | region id ops draw =>
    intro S S' pv pv' ex u ι a w h hF hM hnp
    cases hc : comp P N (.region id ops draw) with
    | reg dr bar os =>
      rw [hc] at h
      simp only [zeg] at h
      cases hrec : os.any isRec with
      | false =>
        simp only [hrec, cond_false] at h
        refine plain _ S S' pv pv' ex u ι a w ?_ hF hM hnp
        rw [hc]
        simp only [exec]
        exact h
      | true =>
        simp only [hrec, cond_true] at h
        cases dr with
        | true => simp only [cond_true] at h; cases h
        | false =>
          simp only [cond_false, Option.map_eq_some_iff, Prod.mk.injEq, Prod.exists] at h
          obtain ⟨pv1, S1, ho, rfl, rfl, rfl⟩ := h
          cases draw with
          | true =>
            exfalso
            simp only [comp] at hc
            cases hb : ops.all (fun o => zfL N o.dst) <;> simp only [hb, cond_false, cond_true] at hc
            · cases hc
            · split at hc
              · cases hc
              · split at hc <;> cases hc
          | false =>
            simp only [comp] at hc
            cases hb : ops.all (fun o => zfL N o.dst) with
            | false => simp only [hb, cond_false] at hc; cases hc
            | true =>
              simp only [hb, cond_true] at hc
              cases hc
              refine wpSIn_region (zbD _ S pv u ι a w hF hM ?_)
              rw [zd8]; exact ho
    | bad => rw [hc] at h; simp [zeg, exec] at h
    | _ =>
      exfalso
      cases draw with
      | false =>
        simp only [comp] at hc
        cases hb : ops.all (fun o => zfL N o.dst) <;> simp only [hb, cond_false, cond_true] at hc <;> cases hc
      | true =>
        simp only [comp] at hc
        cases hb : ops.all (fun o => zfL N o.dst) <;> simp only [hb, cond_false, cond_true] at hc
        · cases hc
        · split at hc
          · cases hc
          · split at hc <;> cases hc
  | _ =>
    intro S S' pv pv' ex u ι a w h hF hM hnp
    first
      | exact plain _ S S' pv pv' ex u ι a w h hF hM hnp
      | (simp [comp, zeg, exec] at h)
theorem zkk (hm : P.follows .mixedOrders = true) (hr : RecOk P r) {fns : Nat → Option Fn} (hfns : ∀ f fn, fns f = some fn → zbv P f fn) {f : Nat} {args : List V} {pv pv' : Option V} (hc : zj9 r fns B f args pv h = some (pv', h')) : znl P B f args pv h pv' h' := by
  unfold zj9 at hc
  split at hc
  · rename_i fn hfn
    obtain ⟨fn0, body, hf, hb, hN, hcc, hrs, hres, hbody⟩ := (hfns f fn hfn).inv
    cases hle : Nat.ble args.length fn.N with
    | false => simp only [hle, cond_false] at hc; cases hc
    | true =>
      simp only [hle, cond_true] at hc
      have hle := Nat.le_of_ble_eq_true hle
      intro w1 ι w vs pu hS ha hp
      refine ⟨hbody, callsDIn_of_wpSIn hf hb trivial fun c₀ cs hmode => ?_⟩
      have hF : FSim P fn0.ntmps B w1 ι ⟨args ++ List.replicate (fn.N - args.length) zaF, [], h⟩ ⟨vs ++ Array.replicate (fn0.ntmps - vs.size) undef, []⟩ w := ⟨hS, by rw [hN] at hle ⊢; exact ziZ ha hle, .nil⟩
      have hM : zoZ ι pv (zc0 pu) := by
        cases pv with
        | none => cases pu with
          | none => exact .inr ⟨rfl, .inl rfl⟩
          | some _ => exact hp.elim
        | some v => cases pu with
          | none => exact hp.elim
          | some x => exact .inl ⟨v, x, rfl, rfl, hp⟩
      have hc0 : c₀ = { c₀ with mode := zc0 pu } := by rw [← hmode]
      have fin : ∀ (ex : Ex) (env : List V) (h1 : zaj) (pv1 : Option V), (ex = .normal ∨ ex = .ret) → zeg r B fn.c pv ⟨args ++ List.replicate (fn.N - args.length) zaF, [], h⟩ = some (ex, pv1, ⟨env, [], h1⟩) →
          (zbK h1 env fn.rs).map (fun _ => (pv1, h1)) = some (pv', h') →
          body.wpSIn (FW none) 0 P (bodyPostS P fn0 c₀ cs fun en u' w' => (∃ v, en = .returned v) ∧ ∃ ι' pu', Io.le ι ι' ∧ Sim P B w1 ι' h' w' ∧ settle u' = zc0 pu' ∧ zjT ι' pv' pu') ⟨vs ++ Array.replicate (fn0.ntmps - vs.size) undef, []⟩ (c₀ :: cs) w := by
        intro ex env h1 pv1 hex hx hres1
        simp only [Option.map_eq_some_iff, Prod.mk.injEq] at hres1
        obtain ⟨rv, hrv, rfl, rfl⟩ := hres1
        rw [hcc] at hx
        rw [hc0]
        refine zdA (zkL hm hr body _ _ pv pv1 ex (zc0 pu) ι _ w hx hF hM (by rcases hex with rfl | rfl <;> simp)) fun en a' cs' w' hpp => ?_
        obtain ⟨u', rfl, ι', hle', hM', hpp⟩ := hpp
        rw [hrs] at hrv
        have key : ∀ en, (en = .normal ∨ en = .ret) → FSim P fn0.ntmps B w1 ι' ⟨env, [], h1⟩ a' w' → bodyPostS P fn0 { c₀ with mode := zc0 pu } cs (fun en u' w' => (∃ v, en = .returned v) ∧ ∃ ι' pu', Io.le ι ι' ∧ Sim P B w1 ι' h1 w' ∧ settle u' = zc0 pu' ∧ zjT ι' pv1 pu') en a' ({ { c₀ with mode := zc0 pu } with mode := u' } :: cs) w' := by
          intro en hen hF'
          have hd : a'.defers = [] := by
            have := hF'.dfs
            generalize a'.defers = es at this
            cases this; rfl
          obtain ⟨x, _, g2⟩ := zfj hF'.sim hF'.env hres hrv
          obtain ⟨pu', k1, k2⟩ := hM'.settle
          rcases hen with rfl | rfl <;> exact ⟨hd, u', rfl, x, g2, ⟨x, rfl⟩, ι', pu', hle', hF'.sim, k1, k2⟩
        rcases hex with rfl | rfl
        · obtain ⟨rfl, hF'⟩ := hpp
          exact key _ (.inl rfl) hF'
        · obtain ⟨rfl, hF'⟩ := hpp
          exact key _ (.inr rfl) hF'
      split at hc
      · rename_i pv1 env h1 hx
        exact fin .normal env h1 pv1 (.inl rfl) hx hc
      · rename_i pv1 env h1 hx
        exact fin .ret env h1 pv1 (.inr rfl) hx hc
      · cases hc
  · cases hc
theorem zcO : ∀ (l : List O) (S S' : St) (pv pv' : Option V), zlR B l pv S = some (pv', S') → zas B S.heap S'.heap
  | [], S, S', pv, pv', h => by
    simp only [zlR, Option.some.injEq, Prod.mk.injEq] at h
    obtain ⟨_, rfl⟩ := h
    exact zas.refl _ _
  | o :: l, S, S', pv, pv', h => by
    have hput : ∀ (S0 : St) (d : Option Nat) (v : V), (S0.put d v).heap = S0.heap := by
      intro S0 d v; cases d <;> rfl
    simp only [zlR] at h
    split at h
    · have := zcO l _ S' _ _ h; rw [hput] at this; exact this
    · split at h
      · split at h
        · have := zcO l _ S' _ _ h; rw [hput] at this; exact this
        · have := zcO l _ S' _ _ h; rw [hput] at this; exact this
      · cases hq : zah o.i with
        | true =>
          simp only [hq, cond_true] at h
          split at h
          · have := zcO l _ S' _ _ h; rw [hput] at this; exact this
          · cases h
        | false =>
          simp only [hq, cond_false] at h
          split at h
          · rename_i v h1 he
            have := zcO l _ S' _ _ h; rw [hput] at this; exact (ziK he).trans this
          · cases h
theorem zgd (hr : RecOk P r) : ∀ (c : C) (S S' : St) (pv pv' : Option V) (ex : Ex), zeg r B c pv S = some (ex, pv', S') → B ≤ S.heap.length → zas B S.heap S'.heap := by
  have plain : ∀ (c : C) (S S' : St) (pv pv' : Option V) (ex : Ex), (exec r B none c S).map (fun x => (x.1, pv, x.2)) = some (ex, pv', S') → B ≤ S.heap.length → zas B S.heap S'.heap := by
    intro c S S' pv pv' ex h hB
    simp only [Option.map_eq_some_iff, Prod.mk.injEq, Prod.exists] at h
    obtain ⟨ex1, S1, hx, rfl, rfl, rfl⟩ := h
    exact zaS hr c S S1 ex1 hx hB
  intro c
  induction c with
  | seq x y ihx ihy =>
    intro S S' pv pv' ex h hB
    simp only [zeg] at h
    split at h
    · rename_i pv1 S1 hx
      have k1 := ihx S S1 pv pv1 _ hx hB
      exact k1.trans (ihy S1 S' pv1 pv' ex h (Nat.le_trans hB (k1 hB).1))
    · exact ihx S S' pv pv' ex h hB
  | cond x c d ihc ihd =>
    intro S S' pv pv' ex h hB
    simp only [zeg] at h
    split at h
    · exact ihc S S' pv pv' ex h hB
    · exact ihd S S' pv pv' ex h hB
    · cases h
  | reg dr bar os =>
    intro S S' pv pv' ex h hB
    simp only [zeg] at h
    cases hrec : os.any isRec with
    | false =>
      simp only [hrec, cond_false, Option.map_eq_some_iff, Prod.mk.injEq, Prod.exists] at h
      obtain ⟨ex1, S1, hx, rfl, rfl, rfl⟩ := h
      exact zek hr os S S1 ex1 hx
    | true =>
      simp only [hrec, cond_true] at h
      cases dr with
      | true => simp only [cond_true] at h; cases h
      | false =>
        simp only [cond_false, Option.map_eq_some_iff, Prod.mk.injEq, Prod.exists] at h
        obtain ⟨pv1, S1, ho, _, rfl, rfl⟩ := h
        exact zcO os S S1 pv pv1 ho
  | _ =>
    intro S S' pv pv' ex h hB
    exact plain _ S S' pv pv' ex h hB
theorem zkb (hr : RecOk P r) {fns : Nat → Option Fn} {f : Nat} {args : List V} {pv pv' : Option V} (hc : zj9 r fns B f args pv h = some (pv', h')) : zas B h h' := by
  intro hB
  unfold zj9 at hc
  split at hc
  · rename_i fn hfn
    cases hle : Nat.ble args.length fn.N with
    | false => simp only [hle, cond_false] at hc; cases hc
    | true =>
      simp only [hle, cond_true] at hc
      split at hc
      · rename_i pv1 env h1 hx
        simp only [Option.map_eq_some_iff, Prod.mk.injEq] at hc
        obtain ⟨_, _, _, rfl⟩ := hc
        exact zgd hr _ _ _ _ _ _ hx hB hB
      · rename_i pv1 env h1 hx
        simp only [Option.map_eq_some_iff, Prod.mk.injEq] at hc
        obtain ⟨_, _, _, rfl⟩ := hc
        exact zgd hr _ _ _ _ _ _ hx hB hB
      · cases hc
  · cases hc
end
end Go.Mx
