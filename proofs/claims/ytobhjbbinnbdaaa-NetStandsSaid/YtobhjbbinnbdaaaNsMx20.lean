/-
  The machine with tries: operations, code, calls. Conditions: none.
-/
import Derived.Test.YtobhjbbinnbdaaaNsMx19
namespace Go.Mx
open Go
set_option linter.unusedSimpArgs false
set_option linter.unusedVariables false

abbrev KY := TY → Option (Ex × TY)
structure RecY where
  code : Nat → Option Nat → C → TY → Option (Ex × TY)
  call : Nat → Nat → List V → HY → Option (CR × HY)
  dcall : Nat → Nat → List V → Option V → HY → Option (Option V × HY)
structure RRY (rY : RecY) (r : Rec) : Prop where
  code : ∀ B rd c T S ex T', RY T S → rY.code B rd c T = some (ex, T') → ∃ S', r.code B rd c S = some (ex, S') ∧ RY T' S'
  call : ∀ B f args H h cr H', HRel H h → rY.call B f args H = some (cr, H') → ∃ h', r.call B f args h = some (cr, h') ∧ HRel H' h'
  dcall : ∀ B f args pv H h pv' H', HRel H h → rY.dcall B f args pv H = some (pv', H') → ∃ h', r.dcall B f args pv h = some (pv', h') ∧ HRel H' h'

/-! ### Writing -/
def putYS (T : TY) (n : Nat) (v : V) (k : KY) : Option (Ex × TY) :=
  match T with
  | ⟨N, env, dfs, hp⟩ => bif Nat.blt n N then fcX v fun v' => Tr.put v' 40 env n fun env' => k ⟨N, env', dfs, hp⟩ else none
theorem putYS_def (T : TY) (n : Nat) (v : V) (k : KY) : putYS T n v k = bif Nat.blt n T.N then fcX v fun v' => Tr.put v' 40 T.env n fun env' => k ⟨T.N, env', T.dfs, T.hp⟩ else none := rfl
def putY (T : TY) (d : Option Nat) (v : V) (k : KY) : Option (Ex × TY) :=
  match d with
  | none => k T
  | some n => putYS T n v k
theorem putY_ok {T : TY} {S : St} (h : RY T S) {d : Option Nat} {v : V} {k : KY} {x : Ex × TY} (hc : putY T d v k = some x) : ∃ T', RY T' (S.put d v) ∧ k T' = some x := by
  cases d with
  | none => exact ⟨T, h, hc⟩
  | some n =>
    simp only [putY, putYS_def, fcX_eq] at hc
    cases hb : Nat.blt n T.N with
    | false => rw [hb, cond_false] at hc; cases hc
    | true =>
      rw [hb, cond_true] at hc
      have hn := Nat.blt_eq.mp hb
      obtain ⟨t', g1, g2⟩ := Tr.put_ok _ _ _ _ hc
      refine ⟨⟨T.N, t', T.dfs, T.hp⟩, ⟨?_, fun j => ?_, h.2.2.1, h.2.2.2⟩, g1⟩
      · simp only [St.put, List.length_set]; exact h.1
      · have hj := h.2.1 j
        simp only [getY, St.put, List.getElem?_set] at hj ⊢
        rw [g2]
        by_cases he : j = n
        · subst he
          rw [if_pos rfl, if_pos rfl, if_pos (by rw [h.1]; exact hn)]
        · rw [if_neg he, if_neg (fun h0 => he h0.symm)]
          exact hj
def snocY {α : Type} (H : HY) (o : Ob) (c : Nat → HY → Option α) : Option α := fcNat H.n fun n => fcOb o fun o' => Tr.put o' 40 H.t n fun t' => fcNat (Nat.succ n) fun n' => c n ⟨n', t'⟩
theorem snocY_ok {α : Type} {H : HY} {h : Heap} (hh : HRel H h) {o : Ob} {c : Nat → HY → Option α} {x : α} (hc : snocY H o c = some x) : ∃ H', HRel H' (h ++ [o]) ∧ c h.length H' = some x := by
  simp only [snocY, fcNat_eq, fcOb_eq] at hc
  obtain ⟨t', g1, g2⟩ := Tr.put_ok _ _ _ _ hc
  rw [hh.1] at g1 g2
  refine ⟨⟨_, t'⟩, ⟨by simp, fun k => ?_⟩, g1⟩
  simp only [g2, hh.2]
  by_cases hk : k = h.length
  · subst hk; simp
  · rw [if_neg hk]
    rcases Nat.lt_or_ge k h.length with h1 | h1
    · rw [List.getElem?_append_left h1]
    · rw [List.getElem?_eq_none (by omega), List.getElem?_eq_none (by simp; omega)]
def setHY {α : Type} (H : HY) (β : Nat) (o : Ob) (c : HY → Option α) : Option α :=
  match H with
  | ⟨n, t⟩ => bif Nat.blt β n then fcOb o fun o' => Tr.put o' 40 t β fun t' => c ⟨n, t'⟩ else none
theorem setHY_def {α : Type} (H : HY) (β : Nat) (o : Ob) (c : HY → Option α) : setHY H β o c = bif Nat.blt β H.n then fcOb o fun o' => Tr.put o' 40 H.t β fun t' => c ⟨H.n, t'⟩ else none := rfl
theorem setHY_ok {α : Type} {H : HY} {h : Heap} (hh : HRel H h) {β : Nat} {o : Ob} {c : HY → Option α} {x : α} (hc : setHY H β o c = some x) : ∃ H', HRel H' (h.set β o) ∧ c H' = some x := by
  simp only [setHY_def, fcOb_eq] at hc
  cases hb : Nat.blt β H.n with
  | false => rw [hb, cond_false] at hc; cases hc
  | true =>
    rw [hb, cond_true] at hc
    have hn := Nat.blt_eq.mp hb
    obtain ⟨t', g1, g2⟩ := Tr.put_ok _ _ _ _ hc
    refine ⟨⟨H.n, t'⟩, ⟨by simp only [List.length_set]; exact hh.1, fun k => ?_⟩, g1⟩
    simp only [g2, hh.2, List.getElem?_set]
    by_cases hk : k = β
    · subst hk; rw [if_pos rfl, if_pos rfl, if_pos (by rw [← hh.1]; exact hn)]
    · rw [if_neg hk, if_neg (fun h0 => hk h0.symm)]
def apY {α : Type} (H : HY) (e : EffR) (c : V → HY → Option α) : Option α :=
  match e with
  | .keep v => c v H
  | .snoc f o => snocY H o fun n H' => c (f n) H'
  | .set v β o => setHY H β o fun H' => c v H'
  | .setSnoc β o f o' => setHY H β o fun H1 => snocY H1 o' fun n H' => c (f n) H'
theorem apY_ok {α : Type} {H : HY} {h : Heap} (hh : HRel H h) {e : EffR} {c : V → HY → Option α} {x : α} (hc : apY H e c = some x) : ∃ H', HRel H' (e.ap h).2 ∧ c (e.ap h).1 H' = some x := by
  cases e with
  | keep v => exact ⟨H, hh, hc⟩
  | snoc f o => exact snocY_ok hh hc
  | set v β o => exact setHY_ok hh hc
  | setSnoc β o f o' =>
    simp only [apY] at hc
    obtain ⟨H1, g1, g2⟩ := setHY_ok hh hc
    obtain ⟨H2, g3, g4⟩ := snocY_ok g1 g2
    rw [List.length_set] at g4
    exact ⟨H2, g3, g4⟩
def withH (T : TY) (H : HY) : TY := match T with | ⟨N, env, dfs, _⟩ => ⟨N, env, dfs, H⟩
/-- The memory, written down. -/
def hpOf {α : Type} (T : TY) (k : HY → α) : α := match T with | ⟨_, _, _, ⟨n, t⟩⟩ => k ⟨n, t⟩
theorem hpOf_eq {α : Type} (T : TY) (k : HY → α) : hpOf T k = k T.hp := rfl
theorem RY.heap {T : TY} {S : St} (h : RY T S) {H : HY} {hp : Heap} (hh : HRel H hp) : RY (withH T H) { S with heap := hp } := ⟨h.1, h.2.1, h.2.2.1, hh⟩
def wantedY (T : TY) : Option (Nat × Bool) → Bool
  | none => true
  | some (k, want) => match getY T k with
    | some (.lit (.bool b)) => b == want
    | _ => false
theorem wantedY_eq {T : TY} {S : St} (h : RY T S) (g : Option (Nat × Bool)) : wantedY T g = wanted S.env g := by
  cases g with
  | none => rfl
  | some kw => simp only [wantedY, wanted, h.2.1]; rfl

/-! ### Rounds -/
def setLoopY {α : Type} (H : HY) (l : Nat) (st : Bool) (pend : Option Jump) (k : HY → Option α) : Option α :=
  match H.t.get l with
  | some (.loop _ _ env ps asg body) => setHY H l (.loop st pend env ps asg body) k
  | _ => none
theorem setLoopY_ok {α : Type} {H : HY} {h : Heap} (hh : HRel H h) {l : Nat} {st : Bool} {pend : Option Jump} {k : HY → Option α} {x : α} (hc : setLoopY H l st pend k = some x) : ∃ h' H', setLoop h l st pend = some h' ∧ HRel H' h' ∧ k H' = some x := by
  unfold setLoopY at hc
  rw [hh.2] at hc
  split at hc
  · rename_i env ps asg body hl
    obtain ⟨H', g1, g2⟩ := setHY_ok hh hc
    exact ⟨_, H', by unfold setLoop; rw [hl], g1, g2⟩
  · cases hc
def roundEndY (l : Nat) : Option (Ex × TY) → Option (CR × HY)
  | some (.normal, ⟨_, _, [], h⟩) => setLoopY h l true none fun h' => some (.ret (.lit (.bool true)), h')
  | some (.ret, ⟨_, _, [], h⟩) => setLoopY h l false (some .ret) fun h' => some (.ret (.lit (.bool false)), h')
  | some (.exit id, ⟨_, _, [], h⟩) => setLoopY h l false (some (.exit id)) fun h' => some (.ret (.lit (.bool false)), h')
  | _ => none
def roundY (r : RecY) (B l : Nat) (vs : List V) (H : HY) : Option (CR × HY) :=
  match H.t.get l with
  | some (.loop true none env ps asg body) => bif Nat.ble B l then (setAllK env ps vs fun env' => fcNat env'.length fun N => putA env' 0 .leaf fun e' => (match r.code B (some l) asg ⟨N, e', [], H⟩ with
      | some (.normal, ⟨N1, env1, [], h1⟩) => (match h1.t.get l with
        | some (.loop true none e1 p1 a1 b1) => setHY h1 l (.loop false none e1 p1 a1 b1) fun h2 => roundEndY l (r.code B (some l) body ⟨N1, env1, [], h2⟩)
        | _ => none)
      | _ => none)) else none
  | _ => none
theorem putA_ry {l : List V} {t : Tr V} (h : ∀ j, t.get j = if 0 ≤ j ∧ j < 0 + l.length then l[j - 0]? else (Tr.leaf : Tr V).get j) {ds : List Df} {H : HY} {hp : Heap} (hh : HRel H hp) : RY ⟨l.length, t, ds, H⟩ ⟨l, ds, hp⟩ := by
  refine ⟨rfl, fun k => ?_, rfl, hh⟩
  simp only [getY, h]
  by_cases hk : k < l.length
  · rw [if_pos (by omega), Nat.sub_zero, List.getElem?_eq_getElem hk]
  · rw [if_neg (by omega), List.getElem?_eq_none (by omega)]
    simp only [Tr.get, blt_decide, hk, decide_false, cond_false]
theorem roundEndY_ok {l : Nat} {ex : Ex} {T : TY} {S : St} (hS : RY T S) {cr : CR} {H' : HY} (hc : roundEndY l (some (ex, T)) = some (cr, H')) : ∃ h', roundEnd l (some (ex, S)) = some (cr, h') ∧ HRel H' h' := by
  obtain ⟨N, e, ds, H⟩ := T
  obtain ⟨se, sd, sh⟩ := S
  obtain ⟨h1, h2, h3, h4⟩ := hS
  simp only at h1 h2 h3 h4
  subst h3
  cases ds with
  | cons d ds => cases ex <;> cases hc
  | nil =>
    cases ex with
    | normal =>
      obtain ⟨h', H2, g1, g2, g3⟩ := setLoopY_ok h4 hc
      cases g3
      exact ⟨h', by simp only [roundEnd, g1]; rfl, g2⟩
    | ret =>
      obtain ⟨h', H2, g1, g2, g3⟩ := setLoopY_ok h4 hc
      cases g3
      exact ⟨h', by simp only [roundEnd, g1]; rfl, g2⟩
    | exit id =>
      obtain ⟨h', H2, g1, g2, g3⟩ := setLoopY_ok h4 hc
      cases g3
      exact ⟨h', by simp only [roundEnd, g1]; rfl, g2⟩
    | panic v e => cases hc
theorem roundY_ok {rY : RecY} {r : Rec} (hr : RRY rY r) {B l : Nat} {vs : List V} {H : HY} {h : Heap} (hh : HRel H h) {cr : CR} {H' : HY} (hc : roundY rY B l vs H = some (cr, H')) : ∃ h', round r B l vs h = some (cr, h') ∧ HRel H' h' := by
  unfold roundY at hc
  rw [hh.2] at hc
  unfold round
  split at hc
  · rename_i env ps asg body hl
    rw [hl]
    cases hB : Nat.ble B l with
    | false => rw [hB, cond_false] at hc; cases hc
    | true =>
      rw [hB, cond_true, setAllK_eq] at hc
      simp only [cond_true]
      split at hc
      · rename_i env' hs
        rw [hs]
        simp only [fcNat_eq] at hc ⊢
        obtain ⟨e', g1, g2⟩ := putA_ok _ _ _ _ hc
        split at g1
        · rename_i N1 env1 h1 hcode
          obtain ⟨S1, k1, k2⟩ := hr.code _ _ _ _ _ _ _ (putA_ry g2 hh) hcode
          rw [k1]
          obtain ⟨se1, sd1, sh1⟩ := S1
          obtain ⟨m1, m2, m3, m4⟩ := k2
          simp only at m1 m2 m3 m4
          subst m3
          simp only []
          rw [m4.2] at g1
          split at g1
          · rename_i e1 p1 a1 b1 hl1
            rw [hl1]
            obtain ⟨H2, n1, n2⟩ := setHY_ok m4 g1
            cases hbody : rY.code B (some l) body ⟨N1, env1, [], H2⟩ with
            | none => rw [hbody] at n2; cases n2
            | some res =>
              obtain ⟨ex2, T2⟩ := res
              rw [hbody] at n2
              obtain ⟨S2, p1', p2'⟩ := hr.code _ _ _ ⟨N1, env1, [], H2⟩ ⟨se1, [], sh1.set l (.loop false none e1 p1 a1 b1)⟩ _ _ ⟨m1, m2, rfl, n1⟩ hbody
              simp only [p1']
              exact roundEndY_ok p2' n2
          · cases g1
        · cases g1
      · cases hc
  · cases hc
def callVY (r : RecY) (B : Nat) (v : V) (vs : List V) (H : HY) : Option (CR × HY) :=
  match v with
  | .clo f first cap => fcList (first ++ vs ++ cap) fun l => r.call B f l H
  | .yld l => roundY r B l vs H
  | _ => none
theorem callVY_ok {rY : RecY} {r : Rec} (hr : RRY rY r) {B : Nat} {v : V} {vs : List V} {H : HY} {h : Heap} (hh : HRel H h) {cr : CR} {H' : HY} (hc : callVY rY B v vs H = some (cr, H')) : ∃ h', callV r B v vs h = some (cr, h') ∧ HRel H' h' := by
  unfold callVY at hc
  unfold callV
  split at hc
  · rw [fcList_eq] at hc; exact hr.call _ _ _ _ _ _ _ hh hc
  · exact roundY_ok hr hh hc
  · cases hc
end Go.Mx
