/-
  What a machine's run of code, of a call, of a deferred call must come to; one operation; regions in the order of the text. Conditions: none.
-/
import Derived.Test.YtobhjbbinnbdaaaNnMx7
namespace Go.Mx
open Go Go.RowKit
def FW (rb : Option Nat) : Fence := { Fence.wide with round := rb }
theorem zfV (rb : Option Nat) (n : Nat) : (FW rb).depth.isSome = true → 1 ≤ n := fun h => by cases h
def zeU (ι : Io) (rd rb : Option Nat) : Prop := (rd = none ∧ rb = none) ∨ ∃ l b s sz, rd = some l ∧ rb = some b ∧ ι l = some (b, s, sz)
theorem zeU.mono {ι ι' : Io} (h : Io.le ι ι') {rd rb : Option Nat} (hr : zeU ι rd rb) : zeU ι' rd rb := by
  rcases hr with h1 | ⟨l, b, s, sz, h1, h2, h3⟩
  · exact .inl h1
  · exact .inr ⟨l, b, s, sz, h1, h2, h _ _ h3⟩
theorem zeU.zpU {ι : Io} {rd rb : Option Nat} (hr : zeU ι rd rb) (h : rd.isNone = true) : rb = none := by
  rcases hr with ⟨_, h1⟩ | ⟨l, b, s, sz, h1, h2, h3⟩
  · exact h1
  · subst h1; cases h
def zfy (P : Program) (N B : Nat) (w1 : World) (ι : Io) (ex : Ex) (S' : St) : Exit → Act → World → Prop := fun en a' w' => ∃ ι', Io.le ι ι' ∧
  match ex with
  | .panic v e => ∃ u, en = .panic [{ v := u, recovered := false }] ∧ VRel ι' v u ∧ Sim P B w1 ι' S'.heap w' ∧ DfsRel ι' S'.dfs a'.defers ∧ (e = true → zbs ι' N S'.env a')
  | .normal => en = .normal ∧ FSim P N B w1 ι' S' a' w'
  | .exit id => en = .exit id ∧ FSim P N B w1 ι' S' a' w'
  | .ret => en = .ret ∧ FSim P N B w1 ι' S' a' w'
theorem zfy.mono {P : Program} {N B : Nat} {w1 : World} {ι ι' : Io} (h : Io.le ι ι') {ex : Ex} {S' : St} {en : Exit} {a' : Act} {w' : World} (hp : zfy P N B w1 ι' ex S' en a' w') : zfy P N B w1 ι ex S' en a' w' := by
  obtain ⟨ι'', h1, h2⟩ := hp
  exact ⟨ι'', h.trans h1, h2⟩
def zuo (P : Program) (B : Nat) (rd : Option Nat) (c : C) (S : St) (ex : Ex) (S' : St) : Prop :=
  ∀ (N : Nat) (code : Code) (w1 : World) (ι : Io) (a : Act) (w : World) (rb : Option Nat), comp P N code = c → FSim P N B w1 ι S a w → zeU ι rd rb → code.wpIn (FW rb) 0 P (zfy P N B w1 ι ex S') a w
def zmv (P : Program) (B : Nat) (w1 : World) (ι : Io) (cr : CR) (h' : zaj) : Ending → World → Prop := fun en w' => ∃ ι', Io.le ι ι' ∧ Sim P B w1 ι' h' w' ∧
  match cr with
  | .ret v => ∃ u, en = .returned u ∧ VRel ι' v u
  | .pan v => ∃ u, en = .panicked [{ v := u, recovered := false }] ∧ VRel ι' v u
def zhq (P : Program) (B : Nat) (f : Nat) (args : List V) (h : zaj) (cr : CR) (h' : zaj) : Prop :=
  ∀ (w1 : World) (ι : Io) (w : World) (vs : Array Value), Sim P B w1 ι h w → zhG ι args vs → zex P f = true ∧ CallsIn (FW none) 0 P f vs w (zmv P B w1 ι cr h')
def zc0 (pv : Option Value) : FrameMode := match pv with | none => .returning | some u => .panicking [{ v := u, recovered := false }]
def zjT (ι : Io) : Option V → Option Value → Prop
  | none, none => True
  | some v, some u => VRel ι v u
  | _, _ => False
def znl (P : Program) (B : Nat) (f : Nat) (args : List V) (pv : Option V) (h : zaj) (pv' : Option V) (h' : zaj) : Prop :=
  ∀ (w1 : World) (ι : Io) (w : World) (vs : Array Value) (pu : Option Value), Sim P B w1 ι h w → zhG ι args vs → zjT ι pv pu → zex P f = true ∧
    CallsDIn (FW none) 0 P f vs (zc0 pu) w fun en u' w' => (∃ v, en = .returned v) ∧ ∃ ι' pu', Io.le ι ι' ∧ Sim P B w1 ι' h' w' ∧ settle u' = zc0 pu' ∧ zjT ι' pv' pu'
def zas (B : Nat) (h h' : zaj) : Prop := B ≤ h.length → h.length ≤ h'.length ∧ ∀ β, β < B → h'[β]? = h[β]?
structure RecOk (P : Program) (r : Rec) : Prop where
  code : ∀ B rd c S ex S', r.code B rd c S = some (ex, S') → zuo P B rd c S ex S' ∧ zas B S.heap S'.heap
  call : ∀ B f args h cr h', r.call B f args h = some (cr, h') → zhq P B f args h cr h' ∧ zas B h h'
  dcall : ∀ B f args pv h pv' h', r.dcall B f args pv h = some (pv', h') → znl P B f args pv h pv' h' ∧ zas B h h'
theorem zas.refl (B : Nat) (h : zaj) : zas B h h := fun _ => ⟨Nat.le_refl _, fun _ _ => rfl⟩
theorem zas.trans {B : Nat} {h h' h'' : zaj} (h1 : zas B h h') (h2 : zas B h' h'') : zas B h h'' := fun hB => by
  obtain ⟨g1, g2⟩ := h1 hB
  obtain ⟨g3, g4⟩ := h2 (Nat.le_trans hB g1)
  exact ⟨Nat.le_trans g1 g3, fun β hβ => (g4 β hβ).trans (g2 β hβ)⟩
theorem zas.snoc (B : Nat) (h : zaj) (o : Ob) : zas B h (h ++ [o]) := fun hB => ⟨by simp, fun β hβ => List.getElem?_append_left (by omega)⟩
theorem zas.set {B β : Nat} (h : zaj) (o : Ob) (hB : B ≤ β) : zas B h (h.set β o) := fun _ => ⟨by simp, fun γ hγ => List.getElem?_set_ne (by omega)⟩
theorem ziK {B : Nat} {h h' : zaj} {env : List V} {i : I} {v : V} (he : eff B h env i = some (v, h')) : zas B h h' := by
  cases i with
  | alloc z => simp only [eff] at he; cases he; exact zas.snoc _ _ _
  | box x =>
    simp only [eff] at he
    split at he
    · cases he; exact zas.snoc _ _ _
    · cases he
  | bsl n len z parts =>
    simp only [eff] at he
    split at he
    · cases he; exact zas.snoc _ _ _
    · cases he
  | store n x y =>
    simp only [eff] at he
    split at he
    · rename_i β o l h1 h2
      split at he
      · rename_i cs hcs
        cases hb : Nat.ble B β && (l.length == n) && Nat.ble (o + n) cs.length with
        | false => simp only [hb, cond_false] at he; cases he
        | true =>
          simp only [hb, cond_true] at he
          cases he
          simp only [Bool.and_eq_true] at hb
          exact zas.set _ _ (Nat.le_of_ble_eq_true hb.1.1)
      · cases he
    · cases he
  | mk n bytes z x y =>
    simp only [eff] at he
    split at he
    · rename_i l c h1 h2
      cases hb : decide (0 ≤ l) && decide (l ≤ c) && decide (c * (bytes : Int) ≤ zal) with
      | false => simp only [hb, cond_false] at he; cases he
      | true => simp only [hb, cond_true] at he; cases he; exact zas.snoc _ _ _
    · cases he
  | app n bytes x y =>
    simp only [eff] at he
    split at he
    · rename_i k l h1 h2
      cases hk : (k == 0) with
      | true => simp only [hk, cond_true] at he; cases he; exact zas.refl _ _
      | false =>
        simp only [hk, cond_false] at he
        cases hb : Nat.ble (k * bytes) zal with
        | false => simp only [hb, cond_false] at he; cases he
        | true => simp only [hb, cond_true] at he; cases he; exact zas.snoc _ _ _
    · rename_i β o n' len cap k l h1 h2
      cases hn : (n == n') with
      | false => simp only [hn, Bool.not_false, cond_true] at he; cases he
      | true =>
        simp only [hn, Bool.not_true, cond_false] at he
        cases hk : (k == 0) with
        | true => simp only [hk, cond_true] at he; cases he; exact zas.refl _ _
        | false =>
          simp only [hk, cond_false] at he
          split at he
          · rename_i cs c hcs
            cases hr : Nat.ble (len + k) c with
            | true =>
              simp only [hr, cond_true] at he
              cases hb : Nat.ble B β && Nat.ble (o + (len + k) * n) cs.length with
              | false => simp only [hb, cond_false] at he; cases he
              | true =>
                simp only [hb, cond_true] at he
                cases he
                simp only [Bool.and_eq_true] at hb
                exact zas.set _ _ (Nat.le_of_ble_eq_true hb.1)
            | false =>
              simp only [hr, cond_false] at he
              cases hb : Nat.ble (o + len * n) cs.length && Nat.ble ((len + k) * bytes) zal with
              | false => simp only [hb, cond_false] at he; cases he
              | true => simp only [hb, cond_true] at he; cases he; exact zas.snoc _ _ _
          · rename_i cs hcs
            cases hin : Nat.ble (o + (len + k) * n) cs.length with
            | true =>
              simp only [hin, cond_true] at he
              cases hb : Nat.ble B β with
              | false => simp only [hb, cond_false] at he; cases he
              | true =>
                simp only [hb, cond_true] at he
                cases he
                exact zas.set _ _ (Nat.le_of_ble_eq_true hb)
            | false =>
              simp only [hin, cond_false] at he
              cases hb : Nat.ble B β && (o + len * n == cs.length) && Nat.ble ((len + k) * bytes) zal with
              | false => simp only [hb, cond_false] at he; cases he
              | true =>
                simp only [hb, cond_true] at he
                cases he
                simp only [Bool.and_eq_true] at hb
                exact (zas.set _ _ (Nat.le_of_ble_eq_true hb.1.1)).trans (zas.snoc _ _ _)
          · cases he
    · cases he
  | copy n x y =>
    simp only [eff] at he
    split at he
    · rename_i β o n' len cap vy h1 h2
      split at he
      · rename_i k l h3
        split at he
        · rename_i cs hcs
          cases hb : (n == n') && Nat.ble B β && Nat.ble (o + min k len * n) cs.length with
          | false => simp only [hb, cond_false] at he; cases he
          | true =>
            simp only [hb, cond_true] at he
            cases he
            simp only [Bool.and_eq_true] at hb
            exact zas.set _ _ (Nat.le_of_ble_eq_true hb.1.2)
        · cases he
      · cases he
    · cases he
  | clr n z x =>
    simp only [eff] at he
    split at he
    · cases he; exact zas.refl _ _
    · rename_i β o n' len cap h1
      cases hn : !(n == n') with
      | true => simp only [hn, cond_true] at he; cases he
      | false =>
        simp only [hn, cond_false] at he
        cases hk : (len == 0) with
        | true => simp only [hk, cond_true] at he; cases he; exact zas.refl _ _
        | false =>
          simp only [hk, cond_false] at he
          split at he
          · rename_i cs hcs
            cases hb : Nat.ble B β && Nat.ble (o + len * n) cs.length with
            | false => simp only [hb, cond_false] at he; cases he
            | true =>
              simp only [hb, cond_true] at he
              cases he
              simp only [Bool.and_eq_true] at hb
              exact zas.set _ _ (Nat.le_of_ble_eq_true hb.1)
          · cases he
    · cases he
  | _ => simp [eff] at he
section
variable {P : Program} {B N : Nat} {w1 w : World} {ι : Io} {S : St} {a : Act} {r : Rec}
theorem FSim.put (hF : FSim P N B w1 ι S a w) {d : Option Nat} {v : V} {u : Value} (hv : VRel ι v u) : FSim P N B w1 ι (S.put d v) (a.put d u) w := by
  cases d with
  | none => exact hF
  | some k => exact ⟨hF.sim, hF.env.put hv, hF.dfs⟩
theorem FSim.heap (hF : FSim P N B w1 ι S a w) {ι' : Io} (hι : Io.le ι ι') {h' : zaj} {w' : World} (hS : Sim P B w1 ι' h' w') : FSim P N B w1 ι' { S with heap := h' } a w' := ⟨hS, hF.env.mono hι, hF.dfs.mono hι⟩
theorem Sim.zqP {h : zaj} (hS : Sim P B w1 ι h w) : Sim P h.length w ι h w where
  base := Nat.le_refl _
  below := Below.refl _ _
  obj β o hβ := by
    have hlt : β < h.length := (List.getElem?_eq_some_iff.1 hβ).1
    have := hS.obj β o hβ
    cases o with
    | blk cs =>
      obtain ⟨b, s, sz, arr, T, fr, h1, h2, h3, h4, h5, _⟩ := this
      exact ⟨b, s, sz, arr, T, fr, h1, h2, h3, h4, h5, fun hc => by omega⟩
    | _ => exact this
  own β o b s sz hβ _ hB := by have := (List.getElem?_eq_some_iff.1 hβ).1; omega
  old β o b s sz hβ hl _ hι := hS.lt hβ hl hι
  inj β β' o o' b s sz s' sz' hβ _ _ _ hB := by have := (List.getElem?_eq_some_iff.1 hβ).1; omega
  scope := hS.scope
theorem Sim.ztP {h h' : zaj} {ι' : Io} {w' : World} (hS : Sim P B w1 ι h w) (hι : Io.le ι ι') (hS' : Sim P h.length w ι' h' w') (hk : ∀ β, β < h.length → h'[β]? = h[β]?) : Sim P B w1 ι' h' w' := by
  have hold : ∀ β o b s sz, β < h.length → h'[β]? = some o → o.live → ι' β = some (b, s, sz) → h[β]? = some o ∧ ι β = some (b, s, sz) := by
    intro β o b s sz hβ ho hl hb
    rw [hk β hβ] at ho
    obtain ⟨b0, s0, sz0, ob, g1, g2⟩ := (hS.obj β o ho).at_ hl
    have := hι _ _ g1
    rw [hb] at this; cases this
    exact ⟨ho, g1⟩
  refine ⟨Nat.le_trans hS.base hS'.base, hS.below.trans (hS'.below.mono hS.below.size), ?_, ?_, ?_, ?_, hS'.scope⟩
  · intro β o hβ
    by_cases hlt : β < h.length
    · rw [hk β hlt] at hβ
      cases hd : o with
      | dead => trivial
      | _ =>
        rw [← hd]
        have hl : o.live := by rw [hd]; trivial
        exact (hS.obj β o hβ).mono hι fun b s sz hb => hS'.below.block b (hS.lt hβ hl hb)
    · have := hS'.obj β o hβ
      cases o with
      | blk cs =>
        obtain ⟨b, s, sz, arr, T, fr, h1, h2, h3, h4, h5, h6⟩ := this
        exact ⟨b, s, sz, arr, T, fr, h1, h2, h3, h4, h5, fun _ => h6 (by omega)⟩
      | _ => exact this
  · intro β o b s sz hβ hl hB hb
    by_cases hlt : β < h.length
    · obtain ⟨g1, g2⟩ := hold β o b s sz hlt hβ hl hb
      exact hS.own β o b s sz g1 hl hB g2
    · exact Nat.le_trans hS.below.size (hS'.own β o b s sz hβ hl (by omega) hb)
  · intro β o b s sz hβ hl hB hb
    obtain ⟨g1, g2⟩ := hold β o b s sz (Nat.lt_of_lt_of_le hB hS.base) hβ hl hb
    exact hS.old β o b s sz g1 hl hB g2
  · intro β β' o o' b s sz s' sz' h1 h2 h3 h4 h5 h6 h7 h8
    by_cases hlt : β < h.length
    · obtain ⟨g1, g2⟩ := hold β o b s sz hlt h1 h3 h7
      by_cases hlt' : β' < h.length
      · obtain ⟨g3, g4⟩ := hold β' o' b s' sz' hlt' h2 h4 h8
        exact hS.inj β β' o o' b s sz s' sz' g1 g3 h3 h4 h5 h6 g2 g4
      · have e1 := hS.lt g1 h3 g2
        have e2 := hS'.own β' o' b s' sz' h2 h4 (by omega) h8
        omega
    · by_cases hlt' : β' < h.length
      · obtain ⟨g3, g4⟩ := hold β' o' b s' sz' hlt' h2 h4 h8
        have e1 := hS.lt g3 h4 g4
        have e2 := hS'.own β o b s sz h1 h3 (by omega) h7
        omega
      · exact hS'.inj β β' o o' b s sz s' sz' h1 h2 h3 h4 (by omega) (by omega) h7 h8
end
end Go.Mx
