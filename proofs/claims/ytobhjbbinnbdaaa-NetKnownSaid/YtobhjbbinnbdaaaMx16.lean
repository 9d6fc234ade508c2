/-
  The machine for the kernel, its frames in rows of ten. Conditions: none.
-/
import Derived.Test.YtobhjbbinnbdaaaMx15
namespace Go.Mx
open Go
set_option linter.unusedSimpArgs false
set_option linter.unusedVariables false

inductive Ch : List (List V) → Prop
  | nil : Ch []
  | last (row : List V) : row.length ≤ 10 → Ch [row]
  | cons (row : List V) (e : List (List V)) : row.length = 10 → Ch e → Ch (row :: e)
def getE (e : List (List V)) (k : Nat) : Option V :=
  match nth e (Nat.div k 10) with
  | some row => nth row (Nat.mod k 10)
  | none => none
theorem getE_eq {e : List (List V)} (h : Ch e) : ∀ k, getE e k = e.flatten[k]? := by
  induction h with
  | nil => intro k; simp [getE, nth]
  | last row hr =>
    intro k
    simp only [getE, nth_eq, List.flatten_cons, List.flatten_nil, List.append_nil]
    rcases Nat.lt_or_ge k 10 with h | h
    · have h1 : Nat.div k 10 = 0 := Nat.div_eq_of_lt h
      have h2 : Nat.mod k 10 = k := Nat.mod_eq_of_lt h
      rw [h1, h2]; simp
    · have h1 : Nat.div k 10 ≠ 0 := by
        have := Nat.div_pos h (by decide : 0 < 10)
        show k / 10 ≠ 0; omega
      have h3 : [row][Nat.div k 10]? = none := List.getElem?_eq_none (by simp; omega)
      rw [h3, List.getElem?_eq_none (by omega)]
  | cons row e hr _ ih =>
    intro k
    simp only [List.flatten_cons]
    rw [List.getElem?_append]
    rcases Nat.lt_or_ge k 10 with h | h
    · have h1 : Nat.div k 10 = 0 := Nat.div_eq_of_lt h
      have h2 : Nat.mod k 10 = k := Nat.mod_eq_of_lt h
      rw [if_pos (by omega)]
      simp only [getE, h1, h2, nth_eq]; simp
    · rw [if_neg (by omega), hr, ← ih (k - 10)]
      have h1 : Nat.div k 10 = Nat.div (k - 10) 10 + 1 := by show k / 10 = (k - 10) / 10 + 1; omega
      have h2 : Nat.mod k 10 = Nat.mod (k - 10) 10 := by show k % 10 = (k - 10) % 10; omega
      simp only [getE, h1, h2, nth_eq, List.getElem?_cons_succ]
def setE {α : Type} (e : List (List V)) (k : Nat) (v : V) (c : List (List V) → α) : α :=
  match nth e (Nat.div k 10) with
  | some row => setK row (Nat.mod k 10) v fun row' => setK e (Nat.div k 10) row' c
  | none => c e
def setE' (e : List (List V)) (k : Nat) (v : V) : List (List V) :=
  match e[Nat.div k 10]? with
  | some row => e.set (Nat.div k 10) (row.set (Nat.mod k 10) v)
  | none => e
theorem setE_eq {α : Type} (e : List (List V)) (k : Nat) (v : V) (c : List (List V) → α) : setE e k v c = c (setE' e k v) := by
  simp only [setE, setE', nth_eq, setK_eq]
  cases e[Nat.div k 10]? <;> rfl
theorem setE'_ok {e : List (List V)} (h : Ch e) (v : V) : ∀ k, Ch (setE' e k v) ∧ (setE' e k v).flatten = e.flatten.set k v := by
  induction h with
  | nil => intro k; simp [setE']; exact .nil
  | last row hr =>
    intro k
    rcases Nat.lt_or_ge k 10 with h | h
    · have h1 : Nat.div k 10 = 0 := Nat.div_eq_of_lt h
      have h2 : Nat.mod k 10 = k := Nat.mod_eq_of_lt h
      simp only [setE', h1, h2]
      simp
      exact .last _ (by simpa using hr)
    · have h1 : Nat.div k 10 ≠ 0 := by
        have := Nat.div_pos h (by decide : 0 < 10)
        show k / 10 ≠ 0; omega
      have h3 : [row][Nat.div k 10]? = none := List.getElem?_eq_none (by simp; omega)
      simp only [setE', h3]
      refine ⟨.last _ hr, ?_⟩
      simp
      rw [List.set_eq_of_length_le (by omega)]
  | cons row e hr hc ih =>
    intro k
    rcases Nat.lt_or_ge k 10 with h | h
    · have h1 : Nat.div k 10 = 0 := Nat.div_eq_of_lt h
      have h2 : Nat.mod k 10 = k := Nat.mod_eq_of_lt h
      simp only [setE', h1, h2]
      simp only [List.getElem?_cons_zero, List.set_cons_zero, List.flatten_cons]
      refine ⟨.cons _ _ (by simpa using hr) hc, ?_⟩
      rw [List.set_append_left _ _ (by omega)]
    · obtain ⟨i1, i2⟩ := ih (k - 10)
      have h1 : Nat.div k 10 = Nat.div (k - 10) 10 + 1 := by show k / 10 = (k - 10) / 10 + 1; omega
      have h2 : Nat.mod k 10 = Nat.mod (k - 10) 10 := by show k % 10 = (k - 10) % 10; omega
      have hs : setE' (row :: e) k v = row :: setE' e (k - 10) v := by
        simp only [setE', h1, h2, List.getElem?_cons_succ]
        cases e[Nat.div (k - 10) 10]? <;> simp
      rw [hs]
      refine ⟨.cons _ _ hr i1, ?_⟩
      simp only [List.flatten_cons, i2]
      rw [List.set_append_right _ _ (by omega), hr]
/-- A list in rows. -/
def rowsOf : Nat → List V → List (List V)
  | 0, _ => []
  | f + 1, l => match l with
    | [] => []
    | x :: r => (x :: r.take 9) :: rowsOf f (r.drop 9)
theorem rowsOf_ok : ∀ (f : Nat) (l : List V), l.length ≤ 10 * f → Ch (rowsOf f l) ∧ (rowsOf f l).flatten = l
  | 0, l, h => by
    have : l = [] := List.eq_nil_of_length_eq_zero (by omega)
    subst this
    exact ⟨.nil, rfl⟩
  | f + 1, [], h => ⟨.nil, rfl⟩
  | f + 1, x :: r, h => by
    obtain ⟨i1, i2⟩ := rowsOf_ok f (r.drop 9) (by simp at h ⊢; omega)
    simp only [rowsOf]
    refine ⟨?_, by simp [i2, List.take_append_drop]⟩
    rcases Nat.lt_or_ge r.length 9 with h9 | h9
    · have hd : r.drop 9 = [] := List.drop_eq_nil_of_le (by omega)
      rw [hd]
      have : rowsOf f [] = [] := by cases f <;> rfl
      rw [this]
      exact .last _ (by simp; omega)
    · exact .cons _ _ (by simp; omega) i1
def fcRows {α : Type} (e : List (List V)) (k : List (List V) → α) : α :=
  match e with
  | [] => k []
  | row :: r => fcList row fun row' => fcRows r fun r' => k (row' :: r')
theorem fcRows_eq {α : Type} : ∀ (e : List (List V)) (k : List (List V) → α), fcRows e k = k e
  | [], _ => rfl
  | row :: r, k => by simp [fcRows, fcList_eq, fcRows_eq r]

structure StT where
  env : List (List V)
  dfs : List Df
  heap : Heap
def RS (T : StT) (S : St) : Prop := Ch T.env ∧ T.env.flatten = S.env ∧ T.dfs = S.dfs ∧ T.heap = S.heap

def evT (e : List (List V)) : X → Option V
  | .c v => some (.lit v)
  | .s k => getE e k
  | .f f => some (.clo f [] [])
def evsT (e : List (List V)) : List X → Option (List V)
  | [] => some []
  | x :: r => match evT e x with
    | some v => (match evsT e r with
      | some vs => some (v :: vs)
      | none => none)
    | none => none
theorem evT_eq {T : StT} {S : St} (h : RS T S) (x : X) : evT T.env x = ev S.env x := by
  cases x <;> simp only [evT, ev, getE_eq h.1, h.2.1]
theorem evsT_eq {T : StT} {S : St} (h : RS T S) : ∀ l, evsT T.env l = evs S.env l
  | [] => rfl
  | x :: r => by
    simp only [evsT, evs, evT_eq h, evsT_eq h r]
    cases ev S.env x <;> cases evs S.env r <;> rfl

/-- What an operation that leaves the world alone yields, its numbers by the kernel's own. -/
def qF (g : X → Option V) (gs : List X → Option (List V)) (blk : Nat → Option (List V)) : I → Option V
  | .mov x => g x
  | .load n x => (match g x with
    | some (.ptr β o) => (match blk β with
      | some cs => takeK cs o n
      | none => none)
    | _ => none)
  | .fld off x => (match g x with
    | some (.ptr β o) => some (.ptr β (Nat.add o off))
    | _ => none)
  | .idxS n x i => (match g x with
    | some (.sl β o n' len _) => (match g i with
      | some (.lit (.int _ (.ofNat m))) => bif Nat.beq n n' && Nat.blt m len then some (.ptr β (Nat.add o (Nat.mul m n))) else none
      | _ => none)
    | _ => none)
  | .idxA n cnt x i => (match g x with
    | some (.ptr β o) => (match g i with
      | some (.lit (.int _ (.ofNat m))) => bif Nat.blt m cnt then some (.ptr β (Nat.add o (Nat.mul m n))) else none
      | _ => none)
    | _ => none)
  | .bin op x y => (match g x with
    | some v => (match g y with
      | some v' => binVK op v v'
      | none => none)
    | none => none)
  | .conv k x => (match g x with
    | some (.lit (.int _ m)) => some (.lit (.int k (kWrap k m)))
    | _ => none)
  | i => qG g gs blk i
theorem blt_decide (a b : Nat) : Nat.blt a b = decide (a < b) := by
  cases h : Nat.blt a b
  · have : ¬ a < b := fun h0 => by rw [Nat.blt_eq.mpr h0] at h; cases h
    simp [this]
  · have := Nat.blt_eq.mp h
    simp [this]
theorem beq_nat (a b : Nat) : Nat.beq a b = (a == b) := by
  cases h : Nat.beq a b
  · have : a ≠ b := Nat.ne_of_beq_eq_false h
    simp [this]
  · have : a = b := Nat.eq_of_beq_eq_true h
    simp [this]
theorem qF_eq (g : X → Option V) (gs : List X → Option (List V)) (blk : Nat → Option (List V)) (i : I) : qF g gs blk i = qG g gs blk i := by
  cases i with
  | bin op x y =>
    simp only [qF, qG, binVK_eq]
    cases g x <;> cases g y <;> rfl
  | conv k x =>
    simp only [qF, qG, evIG, kWrap_eq]
    cases g x with
    | none => rfl
    | some v =>
      cases v with
      | lit y => cases y <;> rfl
      | _ => rfl
  | idxS n x i =>
    simp only [qF, qG, evIG]
    cases g x with
    | none => rfl
    | some v =>
      cases v with
      | sl β o n' len cap =>
        simp only []
        cases g i with
        | none => rfl
        | some y =>
          cases y with
          | lit z =>
            cases z with
            | int kd m =>
              cases m with
              | ofNat m =>
                simp only [blt_decide, beq_nat]
                have h1 : decide ((0 : Int) ≤ Int.ofNat m) = true := by simp
                have h2 : decide (Int.ofNat m < (len : Int)) = decide (m < len) := by simp
                rw [h1, h2, Bool.and_true]
                rfl
              | negSucc m =>
                have h1 : decide ((0 : Int) ≤ Int.negSucc m) = false := by
                  rw [decide_eq_false_iff_not, Int.negSucc_eq]; omega
                simp only [h1, Bool.and_false, Bool.false_and, cond_false]
            | _ => rfl
          | _ => rfl
      | _ => rfl
  | idxA n cnt x i =>
    simp only [qF, qG, evIG]
    cases g x with
    | none => rfl
    | some v =>
      cases v with
      | ptr β o =>
        simp only []
        cases g i with
        | none => rfl
        | some y =>
          cases y with
          | lit z =>
            cases z with
            | int kd m =>
              cases m with
              | ofNat m =>
                simp only [blt_decide]
                have h1 : decide ((0 : Int) ≤ Int.ofNat m) = true := by simp
                have h2 : decide (Int.ofNat m < (cnt : Int)) = decide (m < cnt) := by simp
                rw [h1, h2, Bool.true_and]
                rfl
              | negSucc m =>
                have h1 : decide ((0 : Int) ≤ Int.negSucc m) = false := by
                  rw [decide_eq_false_iff_not, Int.negSucc_eq]; omega
                simp only [h1, Bool.false_and, cond_false]
            | _ => rfl
          | _ => rfl
      | _ => rfl
  | _ => rfl
def qT (h : Heap) (e : List (List V)) (i : I) : Option V := qF (evT e) (evsT e) (blkK h) i
theorem qT_eq {T : StT} {S : St} (h : RS T S) (i : I) : qT T.heap T.env i = q S.heap S.env i := by
  unfold qT
  rw [qF_eq, show evT T.env = ev S.env from funext (evT_eq h), show evsT T.env = evs S.env from funext (evsT_eq h), show blkK T.heap = blkAt S.heap from funext fun β => by rw [blkK_eq, h.2.2.2], qG_eq]

def fillST (e : List (List V)) (n : Nat) (cs : List V) : List (Nat × X) → Option (List V)
  | [] => some cs
  | (i, x) :: r => match (evT e x).bind V.cells with
    | some l => bif (l.length == n) && Nat.ble (i * n + n) cs.length then fcList (putAt cs (i * n) l) fun cs' => fillST e n cs' r else none
    | none => none
theorem fillST_eq {T : StT} {S : St} (h : RS T S) (n : Nat) : ∀ (ps : List (Nat × X)) (cs : List V), fillST T.env n cs ps = fillS S.env n cs ps
  | [], cs => rfl
  | (i, x) :: r, cs => by simp only [fillST, fillS, fcList_eq, fillST_eq h n r, evT_eq h]; rfl
def effT {α : Type} (B : Nat) (T : StT) (i : I) (k : V → Heap → Option α) : Option α :=
  match i with
  | .alloc z => fcNat T.heap.length fun n => snocO T.heap (.blk (z.map .lit)) fun h' => k (.ptr n 0) h'
  | .box x => (match (evT T.env x).bind V.cells with
    | some l => fcNat T.heap.length fun n => snocO T.heap (.blk l) fun h' => k (.ptr n 0) h'
    | none => none)
  | .bsl n len z parts => (match fillST T.env n (reps len (z.map .lit)) parts with
    | some cs => fcNat T.heap.length fun m => snocO T.heap (.blk cs) fun h' => k (.sl m 0 n len (some len)) h'
    | none => none)
  | .store n a x => (match evT T.env a with
    | some (.ptr β o) => (match (evT T.env x).bind V.cells with
      | some l => (match blkK T.heap β with
        | some cs => bif Nat.ble B β && Nat.beq l.length n && Nat.ble (o + n) cs.length then setO T.heap β (.blk (putAt cs o l)) fun h' => k undefV h' else none
        | none => none)
      | none => none)
    | _ => none)
  | i => match eff B T.heap T.env.flatten i with
    | some (v, h') => fcList h' fun h'' => k v h''
    | none => none
theorem effT_eq {α : Type} {T : StT} {S : St} (h : RS T S) (B : Nat) (i : I) (k : V → Heap → Option α) : effT B T i k = (match eff B S.heap S.env i with | some (v, h') => k v h' | none => none) := by
  obtain ⟨env, dfs, hp⟩ := T
  obtain ⟨senv, sdfs, shp⟩ := S
  have hh := h
  obtain ⟨h1, h2, h3, h4⟩ := h
  simp only at h1 h2 h3 h4
  subst h4; subst h3; subst h2
  have e1 : ∀ x, evT env x = ev env.flatten x := fun x => evT_eq hh x
  have e2 : ∀ n ps cs, fillST env n cs ps = fillS env.flatten n cs ps := fun n ps cs => fillST_eq hh n ps cs
  cases i with
  | alloc z => simp only [effT, eff, fcNat_eq, snocO_eq]
  | box x =>
    simp only [effT, eff, fcNat_eq, snocO_eq, e1]
    cases (ev env.flatten x).bind V.cells <;> rfl
  | bsl n len z ps =>
    simp only [effT, eff, fcNat_eq, snocO_eq, e2]
    cases fillS env.flatten n (reps len (z.map .lit)) ps <;> rfl
  | store n a x =>
    simp only [effT, eff, setO_eq, e1, blkK_eq, beq_nat]
    cases ev env.flatten a with
    | none => cases (ev env.flatten x).bind V.cells <;> rfl
    | some va =>
      cases va with
      | ptr β o =>
        cases (ev env.flatten x).bind V.cells with
        | none => rfl
        | some l =>
          simp only []
          cases blkAt hp β with
          | none => rfl
          | some cs => simp only []; cases Nat.ble B β && (l.length == n) && Nat.ble (o + n) cs.length <;> rfl
      | _ => cases (ev env.flatten x).bind V.cells <;> rfl
  | _ => simp only [effT, fcList_eq]

structure RecT where
  code : Nat → Option Nat → C → StT → Option (Ex × StT)
  call : Nat → Nat → List V → Heap → Option (CR × Heap)
  dcall : Nat → Nat → List V → Option V → Heap → Option (Option V × Heap)
structure RR (rT : RecT) (r : Rec) : Prop where
  code : ∀ B rd c T S ex T', RS T S → rT.code B rd c T = some (ex, T') → ∃ S', r.code B rd c S = some (ex, S') ∧ RS T' S'
  call : ∀ B f args h x, rT.call B f args h = some x → r.call B f args h = some x
  dcall : ∀ B f args pv h x, rT.dcall B f args pv h = some x → r.dcall B f args pv h = some x

def putT {α : Type} (T : StT) (d : Option Nat) (v : V) (k : StT → α) : α :=
  match d with
  | none => k T
  | some n => fcV v fun v' => setE T.env n v' fun env' => k ⟨env', T.dfs, T.heap⟩
def put' (T : StT) (d : Option Nat) (v : V) : StT :=
  match d with
  | none => T
  | some n => ⟨setE' T.env n v, T.dfs, T.heap⟩
theorem putT_eq {α : Type} (T : StT) (d : Option Nat) (v : V) (k : StT → α) : putT T d v k = k (put' T d v) := by cases d <;> simp [putT, put', fcV_eq, setE_eq]
theorem RS.put {T : StT} {S : St} (h : RS T S) (d : Option Nat) (v : V) : RS (put' T d v) (S.put d v) := by
  cases d with
  | none => exact h
  | some n =>
    obtain ⟨h1, h2, h3, h4⟩ := h
    obtain ⟨g1, g2⟩ := setE'_ok h1 v n
    exact ⟨g1, g2.trans (by rw [h2]; rfl), h3, h4⟩
theorem RS.heap {T : StT} {S : St} (h : RS T S) (hp : Heap) : RS ⟨T.env, T.dfs, hp⟩ { S with heap := hp } := ⟨h.1, h.2.1, h.2.2.1, rfl⟩
def wantedT (e : List (List V)) : Option (Nat × Bool) → Bool
  | none => true
  | some (k, want) => match getE e k with
    | some (.lit (.bool b)) => b == want
    | _ => false
theorem wantedT_eq {T : StT} {S : St} (h : RS T S) (g : Option (Nat × Bool)) : wantedT T.env g = wanted S.env g := by
  cases g with
  | none => rfl
  | some kw => simp only [wantedT, wanted, getE_eq h.1, h.2.1]; rfl
def roundEndT (l : Nat) : Option (Ex × StT) → Option (CR × Heap)
  | some (.normal, ⟨_, [], h⟩) => setLoopK h l true none fun h' => some (.ret (.lit (.bool true)), h')
  | some (.ret, ⟨_, [], h⟩) => setLoopK h l false (some .ret) fun h' => some (.ret (.lit (.bool false)), h')
  | some (.exit id, ⟨_, [], h⟩) => setLoopK h l false (some (.exit id)) fun h' => some (.ret (.lit (.bool false)), h')
  | _ => none
def roundT (r : RecT) (B l : Nat) (vs : List V) (h : Heap) : Option (CR × Heap) :=
  match nth h l with
  | some (.loop true none env ps asg body) => bif Nat.ble B l then (setAllK env ps vs fun env' => fcRows (rowsOf (Nat.div env'.length 10 + 1) env') fun e' => (match r.code B (some l) asg ⟨e', [], h⟩ with
      | some (.normal, ⟨env1, [], h1⟩) => (match nth h1 l with
        | some (.loop true none e1 p1 a1 b1) => setK h1 l (.loop false none e1 p1 a1 b1) fun h2 => roundEndT l (r.code B (some l) body ⟨env1, [], h2⟩)
        | _ => none)
      | _ => none)) else none
  | _ => none
theorem rows_rs (l : List V) (ds : List Df) (h : Heap) : RS ⟨rowsOf (Nat.div l.length 10 + 1) l, ds, h⟩ ⟨l, ds, h⟩ := by
  have hl : l.length ≤ 10 * (Nat.div l.length 10 + 1) := by
    show l.length ≤ 10 * (l.length / 10 + 1)
    omega
  obtain ⟨h1, h2⟩ := rowsOf_ok _ l hl
  exact ⟨h1, h2, rfl, rfl⟩
theorem roundT_ok {rT : RecT} {r : Rec} (hr : RR rT r) {B l : Nat} {vs : List V} {h : Heap} {x : CR × Heap} (hc : roundT rT B l vs h = some x) : round r B l vs h = some x := by
  rw [← roundK_eq]
  unfold roundT at hc
  unfold roundK
  split at hc
  · rename_i env ps asg body hl
    rw [hl]
    simp only [] at hc ⊢
    cases hB : Nat.ble B l with
    | false => rw [hB] at hc; simp only [cond_false] at hc; cases hc
    | true =>
      rw [hB] at hc
      simp only [cond_true] at hc ⊢
      rw [setAllK_eq] at hc ⊢
      split at hc
      · rename_i env' hs
        rw [fcRows_eq] at hc
        cases hcode : rT.code B (some l) asg ⟨rowsOf (Nat.div env'.length 10 + 1) env', [], h⟩ with
        | none => rw [hcode] at hc; cases hc
        | some res =>
          obtain ⟨ex, T1⟩ := res
          obtain ⟨S1, g1, g2⟩ := hr.code _ _ _ _ _ _ _ (rows_rs env' [] h) hcode
          rw [hcode] at hc
          rw [g1]
          obtain ⟨e1, d1, h1⟩ := T1
          obtain ⟨se1, sd1, sh1⟩ := S1
          obtain ⟨k1, k2, k3, k4⟩ := g2
          simp only at k1 k2 k3 k4
          subst k4; subst k3
          cases ex with
          | normal =>
            cases d1 with
            | cons _ _ => cases hc
            | nil =>
              simp only [] at hc ⊢
              split at hc
              · rename_i e1' p1 a1 b1 hl1
                rw [hl1]
                simp only []
                rw [setK_eq] at hc ⊢
                cases hbody : rT.code B (some l) body ⟨e1, [], h1.set l (.loop false none e1' p1 a1 b1)⟩ with
                | none => rw [hbody] at hc; cases hc
                | some res2 =>
                  obtain ⟨ex2, T2⟩ := res2
                  obtain ⟨S2, g3, g4⟩ := hr.code _ _ _ _ ⟨se1, [], h1.set l (.loop false none e1' p1 a1 b1)⟩ _ _ ⟨k1, k2, rfl, rfl⟩ hbody
                  rw [hbody] at hc
                  rw [g3]
                  obtain ⟨e2, d2, h2⟩ := T2
                  obtain ⟨se2, sd2, sh2⟩ := S2
                  obtain ⟨m1, m2, m3, m4⟩ := g4
                  simp only at m1 m2 m3 m4
                  subst m4; subst m3
                  cases ex2 with
                  | normal => cases d2 with
                    | cons _ _ => cases hc
                    | nil => exact hc
                  | ret => cases d2 with
                    | cons _ _ => cases hc
                    | nil => exact hc
                  | exit id => cases d2 with
                    | cons _ _ => cases hc
                    | nil => exact hc
                  | panic v e => cases d2 <;> cases hc
              · cases hc
          | ret => cases d1 <;> cases hc
          | exit id => cases d1 <;> cases hc
          | panic v e => cases d1 <;> cases hc
      · cases hc
  · cases hc
def callVT (r : RecT) (B : Nat) (v : V) (vs : List V) (h : Heap) : Option (CR × Heap) :=
  match v with
  | .clo f first cap => fcList (first ++ vs ++ cap) fun l => r.call B f l h
  | .yld l => roundT r B l vs h
  | _ => none
theorem callVT_ok {rT : RecT} {r : Rec} (hr : RR rT r) {B : Nat} {v : V} {vs : List V} {h : Heap} {x : CR × Heap} (hc : callVT rT B v vs h = some x) : callV r B v vs h = some x := by
  unfold callVT at hc
  unfold callV
  split at hc
  · rw [fcList_eq] at hc; exact hr.call _ _ _ _ _ hc
  · exact roundT_ok hr hc
  · cases hc
def finOT (e : Bool) (o : O) (T : StT) (x : Option (CR × Heap)) (k : StT → Option (Ex × StT)) : Option (Ex × StT) :=
  match x with
  | some (.ret v, h) => putT ⟨T.env, T.dfs, h⟩ o.dst v k
  | some (.pan v, h) => some (.panic v e, ⟨T.env, T.dfs, h⟩)
  | none => none
def stepOT (r : RecT) (B : Nat) (bar top e : Bool) (T : StT) (o : O) (k : StT → Option (Ex × StT)) : Option (Ex × StT) :=
  match wantedT T.env o.g with
  | false => putT T o.dst undefV k
  | true => match o.i with
    | .call f xs => (match evsT T.env xs with
      | some vs => fcNat (bif bar then T.heap.length else B) fun B' => finOT e o T (r.call B' f vs T.heap) k
      | none => none)
    | .callv x xs => (match evT T.env x with
      | some v => (match evsT T.env xs with
        | some vs => fcNat (bif bar then T.heap.length else B) fun B' => finOT e o T (callVT r B' v vs T.heap) k
        | none => none)
      | none => none)
    | .panic x => (match evT T.env x with
      | some (.ifc t v) => some (.panic (.ifc t v) e, T)
      | _ => none)
    | .defer x xs => (match evT T.env x with
      | some (.clo f first cap) => (match evsT T.env xs with
        | some vs => bif top then fcList (first ++ vs ++ cap) fun l => putT ⟨T.env, .fn f l :: T.dfs, T.heap⟩ o.dst undefV k else none
        | none => none)
      | _ => none)
    | i => bif quietI i then (match qT T.heap T.env i with
        | some v => putT T o.dst v k
        | none => none)
      else effT B T i (fun v h => putT ⟨T.env, T.dfs, h⟩ o.dst v k)
theorem stepOT_ok {rT : RecT} {r : Rec} (hr : RR rT r) {B : Nat} {bar top e : Bool} {T T' : StT} {S : St} {o : O} {kT : StT → Option (Ex × StT)} {k : St → Option (Ex × St)} {ex : Ex} (hS : RS T S)
    (hk : ∀ T1 S1, RS T1 S1 → kT T1 = some (ex, T') → ∃ S', k S1 = some (ex, S') ∧ RS T' S') (hc : stepOT rT B bar top e T o kT = some (ex, T')) : ∃ S', stepO r B bar top e S o k = some (ex, S') ∧ RS T' S' := by
  have hfin : ∀ {x : Option (CR × Heap)} {y : Option (CR × Heap)}, (∀ z, x = some z → y = some z) → finOT e o T x kT = some (ex, T') → ∃ S', finO e o S y k = some (ex, S') ∧ RS T' S' := by
    intro x y hxy hf
    unfold finOT at hf
    split at hf
    · rename_i v h
      rw [hxy _ rfl]
      rw [putT_eq] at hf
      exact hk _ _ ((hS.heap h).put o.dst v) hf
    · rename_i v h
      rw [hxy _ rfl]
      simp only [Option.some.injEq, Prod.mk.injEq] at hf
      obtain ⟨rfl, rfl⟩ := hf
      exact ⟨_, rfl, hS.heap h⟩
    · cases hf
  unfold stepOT at hc
  unfold stepO
  rw [wantedT_eq hS] at hc
  cases hw : wanted S.env o.g with
  | false =>
    rw [hw] at hc
    simp only [putT_eq] at hc ⊢
    exact hk _ _ (hS.put o.dst undefV) hc
  | true =>
    rw [hw] at hc
    simp only [] at hc ⊢
    have hl : T.heap = S.heap := hS.2.2.2
    have plain : ∀ i, (bif quietI i then (match qT T.heap T.env i with | some v => putT T o.dst v kT | none => none) else effT B T i (fun v h => putT ⟨T.env, T.dfs, h⟩ o.dst v kT)) = some (ex, T') →
        ∃ S', (bif quietI i then (match q S.heap S.env i with | some v => k (S.put o.dst v) | none => none) else (match eff B S.heap S.env i with | some (v, h) => k ({ S with heap := h }.put o.dst v) | none => none)) = some (ex, S') ∧ RS T' S' := by
      intro i hi
      cases hq : quietI i with
      | true =>
        simp only [hq, cond_true] at hi ⊢
        rw [qT_eq hS] at hi
        split at hi
        · rename_i v hv
          rw [putT_eq] at hi
          exact hk _ _ (hS.put o.dst v) hi
        · cases hi
      | false =>
        simp only [hq, cond_false] at hi ⊢
        rw [effT_eq hS] at hi
        split at hi
        · rename_i v h hv
          rw [putT_eq] at hi
          exact hk _ _ ((hS.heap h).put o.dst v) hi
        · cases hi
    cases hi : o.i with
    | call f xs =>
      rw [hi] at hc
      simp only [evsT_eq hS, fcNat_eq, hl] at hc ⊢
      split at hc
      · rename_i vs hvs
        rw [hvs]
        exact hfin (fun z hz => hr.call _ _ _ _ _ hz) hc
      · cases hc
    | callv x xs =>
      rw [hi] at hc
      simp only [evsT_eq hS, evT_eq hS, fcNat_eq, hl] at hc ⊢
      split at hc
      · rename_i v hv
        split at hc
        · rename_i vs hvs
          rw [hv, hvs]
          exact hfin (fun z hz => callVT_ok hr hz) hc
        · cases hc
      · cases hc
    | panic x =>
      rw [hi] at hc
      simp only [evT_eq hS] at hc ⊢
      split at hc
      · rename_i t v hv
        rw [hv]
        simp only [Option.some.injEq, Prod.mk.injEq] at hc
        obtain ⟨rfl, rfl⟩ := hc
        exact ⟨S, rfl, hS⟩
      · cases hc
    | defer x xs =>
      rw [hi] at hc
      simp only [evsT_eq hS, evT_eq hS, fcList_eq, putT_eq] at hc ⊢
      split at hc
      · rename_i f first cap hv
        split at hc
        · rename_i vs hvs
          rw [hv, hvs]
          cases top with
          | true =>
            simp only [cond_true] at hc ⊢
            exact hk _ _ (RS.put (T := ⟨T.env, .fn f (first ++ vs ++ cap) :: T.dfs, T.heap⟩) (S := { S with dfs := .fn f (first ++ vs ++ cap) :: S.dfs }) ⟨hS.1, hS.2.1, by rw [hS.2.2.1], hS.2.2.2⟩ o.dst undefV) hc
          | false => simp only [cond_false] at hc; cases hc
        · cases hc
      · cases hc
    | _ => rw [hi] at hc; exact plain _ hc
def runOpsT (r : RecT) (B : Nat) (bar top e : Bool) : List O → StT → Option (Ex × StT)
  | [], T => some (.normal, T)
  | o :: l, T => stepOT r B bar top e T o (runOpsT r B bar top e l)
theorem runOpsT_ok {rT : RecT} {r : Rec} (hr : RR rT r) {B : Nat} {bar top e : Bool} {T' : StT} {ex : Ex} : ∀ (l : List O) (T : StT) (S : St), RS T S → runOpsT rT B bar top e l T = some (ex, T') → ∃ S', runOps r B bar top e l S = some (ex, S') ∧ RS T' S'
  | [], T, S, hS, hc => by
    simp only [runOpsT, Option.some.injEq, Prod.mk.injEq] at hc
    obtain ⟨rfl, rfl⟩ := hc
    exact ⟨S, rfl, hS⟩
  | o :: l, T, S, hS, hc => stepOT_ok hr hS (fun T1 S1 h1 h2 => runOpsT_ok hr l T1 S1 h1 h2) hc
def evBT (e : List (List V)) (x : X) : Option Bool := match evT e x with | some (.lit (.bool b)) => some b | _ => none
theorem evBT_eq {T : StT} {S : St} (h : RS T S) (x : X) : evBT T.env x = evB S.env x := by simp only [evBT, evB, evT_eq h]; rfl
def lpHeapT (rd : Option Nat) (T : StT) : Heap := match rd with | none => T.heap ++ [.dfr] | some _ => T.heap
def lpDfsT (rd : Option Nat) (T : StT) : List Df := match rd with | none => .coll T.heap.length :: T.dfs | some _ => T.dfs
def execT (r : RecT) (B : Nat) (rd : Option Nat) : C → StT → Option (Ex × StT)
  | .skip, T => some (.normal, T)
  | .label _, T => some (.normal, T)
  | .reg dr bar os, T => runOpsT r B bar rd.isNone (!dr) os T
  | .seq a b, T => (match execT r B rd a T with
    | some (.normal, T') => execT r B rd b T'
    | x => x)
  | .cond x a b, T => (match evBT T.env x with
    | some true => execT r B rd a T
    | some false => execT r B rd b T
    | none => none)
  | .block id c, T => (match execT r B rd c T with
    | some (.exit id', T') => bif Nat.beq id' id then some (.normal, T') else some (.exit id', T')
    | x => x)
  | .loop c, T => (match execT r B rd c T with
    | some (.normal, T') => r.code B rd (.loop c) T'
    | x => x)
  | .scope c, T => execT r B rd c T
  | .exit id, T => some (.exit id, T)
  | .ret, T => some (.ret, T)
  | .rfunc x ps asg body, T => fcList (lpHeapT rd T) fun hh => (match evT T.env x with
    | some (.clo gf first cap) =>
      bif !(rdOk rd T.heap) then none else
      fcNat hh.length fun n => fcList (first ++ [.yld n] ++ cap) fun args => fcList T.env.flatten fun fl => snocK hh (.loop true none fl ps asg body) fun h0 =>
      (match r.call B gf args h0 with
      | some (.ret _, h) => (match nth h n with
        | some (.loop true none _ _ _ _) => setK h n .dead fun h' => some (.normal, ⟨T.env, lpDfsT rd T, h'⟩)
        | some (.loop false (some j) _ _ _ _) => setK h n .dead fun h' => some (jumpEx j, ⟨T.env, lpDfsT rd T, h'⟩)
        | _ => none)
      | some (.pan v, h) => some (.panic v true, ⟨T.env, lpDfsT rd T, h⟩)
      | none => none)
    | _ => none)
  | .bad, _ => none
theorem execT_ok {rT : RecT} {r : Rec} (hr : RR rT r) {B : Nat} {rd : Option Nat} : ∀ (c : C) (T T' : StT) (S : St) (ex : Ex), RS T S → execT rT B rd c T = some (ex, T') → ∃ S', exec r B rd c S = some (ex, S') ∧ RS T' S'
  | .skip, T, T', S, ex, hS, hc => by simp only [execT, Option.some.injEq, Prod.mk.injEq] at hc; obtain ⟨rfl, rfl⟩ := hc; exact ⟨S, rfl, hS⟩
  | .label _, T, T', S, ex, hS, hc => by simp only [execT, Option.some.injEq, Prod.mk.injEq] at hc; obtain ⟨rfl, rfl⟩ := hc; exact ⟨S, rfl, hS⟩
  | .exit _, T, T', S, ex, hS, hc => by simp only [execT, Option.some.injEq, Prod.mk.injEq] at hc; obtain ⟨rfl, rfl⟩ := hc; exact ⟨S, rfl, hS⟩
  | .ret, T, T', S, ex, hS, hc => by simp only [execT, Option.some.injEq, Prod.mk.injEq] at hc; obtain ⟨rfl, rfl⟩ := hc; exact ⟨S, rfl, hS⟩
  | .reg dr bar os, T, T', S, ex, hS, hc => runOpsT_ok hr os T S hS hc
  | .seq a b, T, T', S, ex, hS, hc => by
    simp only [execT] at hc
    simp only [exec]
    split at hc
    · rename_i T1 hx
      obtain ⟨S1, g1, g2⟩ := execT_ok hr a T T1 S _ hS hx
      rw [g1]
      exact execT_ok hr b T1 T' S1 ex g2 hc
    · rename_i x hx
      obtain ⟨S1, g1, g2⟩ := execT_ok hr a T T' S ex hS hc
      rw [g1]
      cases ex with
      | normal => exact absurd hc (hx T')
      | _ => exact ⟨S1, rfl, g2⟩
  | .cond x a b, T, T', S, ex, hS, hc => by
    simp only [execT, evBT_eq hS] at hc
    simp only [exec]
    split at hc
    · rename_i hb
      rw [hb]
      exact execT_ok hr a T T' S ex hS hc
    · rename_i hb
      rw [hb]
      exact execT_ok hr b T T' S ex hS hc
    · cases hc
  | .block id c, T, T', S, ex, hS, hc => by
    simp only [execT] at hc
    simp only [exec]
    split at hc
    · rename_i id' T1 hx
      obtain ⟨S1, g1, g2⟩ := execT_ok hr c T T1 S _ hS hx
      rw [g1]
      simp only [beq_nat] at hc ⊢
      cases hid : (id' == id) <;> simp only [hid, cond_true, cond_false, Option.some.injEq, Prod.mk.injEq] at hc ⊢ <;> (obtain ⟨rfl, rfl⟩ := hc; exact ⟨S1, ⟨rfl, rfl⟩, g2⟩)
    · rename_i x hx
      obtain ⟨S1, g1, g2⟩ := execT_ok hr c T T' S ex hS hc
      rw [g1]
      cases ex with
      | exit id' => exact absurd hc (hx id' T')
      | _ => exact ⟨S1, rfl, g2⟩
  | .loop c, T, T', S, ex, hS, hc => by
    simp only [execT] at hc
    simp only [exec]
    split at hc
    · rename_i T1 hx
      obtain ⟨S1, g1, g2⟩ := execT_ok hr c T T1 S _ hS hx
      rw [g1]
      exact hr.code _ _ _ _ _ _ _ g2 hc
    · rename_i x hx
      obtain ⟨S1, g1, g2⟩ := execT_ok hr c T T' S ex hS hc
      rw [g1]
      cases ex with
      | normal => exact absurd hc (hx T')
      | _ => exact ⟨S1, rfl, g2⟩
  | .scope c, T, T', S, ex, hS, hc => execT_ok hr c T T' S ex hS hc
  | .rfunc x ps asg body, T, T', S, ex, hS, hc => by
    have hl : T.heap = S.heap := hS.2.2.2
    have e1 : lpHeapT rd T = lpHeap rd S := by cases rd <;> simp only [lpHeapT, lpHeap, hl]
    have e2 : lpDfsT rd T = lpDfs rd S := by cases rd <;> simp only [lpDfsT, lpDfs, hl, hS.2.2.1]
    simp only [execT, fcList_eq, fcNat_eq, evT_eq hS, snocK_eq, setK_eq, nth_eq, e1, e2, hl, hS.2.1] at hc
    simp only [exec]
    split at hc
    · rename_i gf first cap hx
      rw [hx]
      cases hok : rdOk rd S.heap with
      | false => simp only [hok, Bool.not_false, cond_true] at hc; cases hc
      | true =>
        simp only [hok, Bool.not_true, cond_false] at hc ⊢
        cases hcall : rT.call B gf (first ++ [.yld (lpHeap rd S).length] ++ cap) (lpHeap rd S ++ [.loop true none S.env ps asg body]) with
        | none => rw [hcall] at hc; cases hc
        | some res =>
          rw [hcall] at hc
          rw [hr.call _ _ _ _ _ hcall]
          obtain ⟨cr, h⟩ := res
          cases cr with
          | ret v =>
            simp only [] at hc ⊢
            split at hc
            · rename_i hh
              rw [hh]
              simp only [Option.some.injEq, Prod.mk.injEq] at hc
              obtain ⟨rfl, rfl⟩ := hc
              exact ⟨_, rfl, hS.1, hS.2.1, rfl, rfl⟩
            · rename_i hh
              rw [hh]
              simp only [Option.some.injEq, Prod.mk.injEq] at hc
              obtain ⟨rfl, rfl⟩ := hc
              exact ⟨_, rfl, hS.1, hS.2.1, rfl, rfl⟩
            · cases hc
          | pan v =>
            simp only [Option.some.injEq, Prod.mk.injEq] at hc
            obtain ⟨rfl, rfl⟩ := hc
            exact ⟨_, rfl, hS.1, hS.2.1, rfl, rfl⟩
    · cases hc
  | .bad, T, T', S, ex, hS, hc => by cases hc

def leaveT (r : RecT) (B : Nat) (pv : Option V) : List Df → Heap → Option (Option V × Heap)
  | [], h => some (pv, h)
  | .coll d :: ds, h => (match nth h d with
    | some .dfr => bif Nat.ble B d then setK h d .dead fun h' => leaveT r B pv ds h' else none
    | _ => none)
  | .fn f args :: ds, h => (match r.dcall B f args pv h with
    | some (pv', h') => leaveT r B pv' ds h'
    | none => none)
theorem leaveT_ok {rT : RecT} {r : Rec} (hr : RR rT r) {B : Nat} {x : Option V × Heap} : ∀ (ds : List Df) (pv : Option V) (h : Heap), leaveT rT B pv ds h = some x → leave r B pv ds h = some x
  | [], pv, h, hc => hc
  | .coll d :: ds, pv, h, hc => by
    simp only [leaveT, nth_eq, setK_eq] at hc
    simp only [leave]
    split at hc
    · rename_i hd
      rw [hd]
      simp only [] at hc ⊢
      cases hB : Nat.ble B d with
      | false => simp only [hB, cond_false] at hc; cases hc
      | true => simp only [hB, cond_true] at hc ⊢; exact leaveT_ok hr ds pv _ hc
    · cases hc
  | .fn f args :: ds, pv, h, hc => by
    simp only [leaveT] at hc
    simp only [leave]
    split at hc
    · rename_i pv' h' hd
      rw [hr.dcall _ _ _ _ _ _ hd]
      exact leaveT_ok hr ds pv' h' hc
    · cases hc
def resOneT (h : Heap) (e : List (List V)) : RX → Option V
  | .tmp k => getE e k
  | .cell k n => (match getE e k with
    | some (.ptr β o) => (match blkK h β with
      | some cs => takeK cs o n
      | none => none)
    | _ => none)
def resAllT {α : Type} (h : Heap) (e : List (List V)) (k : List V → Option α) : List RX → Option α
  | [] => k []
  | x :: r => match resOneT h e x with
    | some v => fcV v fun v' => resAllT h e (fun vs => k (v' :: vs)) r
    | none => none
theorem resAllT_eq {α : Type} (h : Heap) {e : List (List V)} (he : Ch e) : ∀ (l : List RX) (k : List V → Option α), resAllT h e k l = (resAll h e.flatten l).bind k := by
  have one : ∀ x, resOneT h e x = resOne h e.flatten x := by
    intro x
    rw [← resOneK_eq]
    cases x with
    | tmp k => simp only [resOneT, resOneK, getE_eq he, nth_eq]
    | cell k n => simp only [resOneT, resOneK, getE_eq he, nth_eq]; rfl
  intro l
  induction l with
  | nil => intro k; rfl
  | cons x r ih =>
    intro k
    simp only [resAllT, resAll, one, fcV_eq, ih]
    cases resOne h e.flatten x <;> cases resAll h e.flatten r <;> rfl
def finT (r : RecT) (B : Nat) (fn : Fn) (pv : Option V) (e : Bool) (T : StT) : Option (CR × Heap) :=
  match leaveT r B pv T.dfs T.heap with
  | some (none, h) => bif !e then none else resAllT h T.env (fun vs => some (.ret (mkRes vs), h)) fn.rs
  | some (some v, h) => some (.pan v, h)
  | none => none
theorem finT_ok {rT : RecT} {r : Rec} (hr : RR rT r) {B : Nat} {fn : Fn} {pv : Option V} {e : Bool} {T : StT} {S : St} {x : CR × Heap} (hS : RS T S) (hc : finT rT B fn pv e T = some x) : fin r B fn pv e S = some x := by
  unfold finT at hc
  unfold fin
  rw [hS.2.2.1, hS.2.2.2] at hc
  split at hc
  · rename_i h hl
    rw [leaveT_ok hr _ _ _ hl]
    cases e with
    | false => simp only [Bool.not_false, cond_true] at hc; cases hc
    | true =>
      simp only [Bool.not_true, cond_false] at hc ⊢
      rw [resAllT_eq h hS.1, hS.2.1] at hc
      cases hx : resAll h S.env fn.rs with
      | none => rw [hx] at hc; cases hc
      | some vs => rw [hx] at hc; exact hc
  · rename_i v h hl
    rw [leaveT_ok hr _ _ _ hl]
    exact hc
  · cases hc
def bodyT (r : RecT) (fn : Fn) (B : Nat) (args : List V) (h : Heap) : Option (CR × Heap) :=
  bif Nat.ble args.length fn.N then
    fcList (args ++ List.replicate (fn.N - args.length) undefV) fun env => fcRows (rowsOf (Nat.div env.length 10 + 1) env) fun e => (match execT r B none fn.c ⟨e, [], h⟩ with
    | some (.normal, S) => finT r B fn none true S
    | some (.ret, S) => finT r B fn none true S
    | some (.panic v e, S) => finT r B fn (some v) e S
    | _ => none) else none
theorem bodyT_ok {rT : RecT} {r : Rec} (hr : RR rT r) {B : Nat} {fn : Fn} {args : List V} {h : Heap} {x : CR × Heap} (hc : bodyT rT fn B args h = some x) : body r fn B args h = some x := by
  unfold bodyT at hc
  unfold body
  cases hle : Nat.ble args.length fn.N with
  | false => simp only [hle, cond_false] at hc; cases hc
  | true =>
    simp only [hle, cond_true, fcList_eq, fcRows_eq] at hc ⊢
    cases hx : execT rT B none fn.c ⟨rowsOf (Nat.div (args ++ List.replicate (fn.N - args.length) undefV).length 10 + 1) (args ++ List.replicate (fn.N - args.length) undefV), [], h⟩ with
    | none => rw [hx] at hc; cases hc
    | some res =>
      obtain ⟨ex, T'⟩ := res
      obtain ⟨S', g1, g2⟩ := execT_ok hr _ _ _ _ _ (rows_rs _ [] h) hx
      rw [hx] at hc
      rw [g1]
      cases ex with
      | normal => exact finT_ok hr g2 hc
      | ret => exact finT_ok hr g2 hc
      | panic v e => exact finT_ok hr g2 hc
      | exit id => cases hc
def callFT (r : RecT) (fns : Nat → Option Fn) (B : Nat) (f : Nat) (args : List V) (h : Heap) : Option (CR × Heap) :=
  match fns f with
  | some fn => bif fn.p then (bif Nat.ble B h.length then fcNat h.length fun B' => forget h (bodyT r fn B' args h) else none) else bodyT r fn B args h
  | none => none
theorem callFT_ok {rT : RecT} {r : Rec} (hr : RR rT r) {fns : Nat → Option Fn} {B f : Nat} {args : List V} {h : Heap} {x : CR × Heap} (hc : callFT rT fns B f args h = some x) : callF r fns B f args h = some x := by
  unfold callFT at hc
  unfold callF
  split at hc
  · rename_i fn hfn
    rw [hfn]
    cases hp : fn.p with
    | false => simp only [hp, cond_false] at hc ⊢; exact bodyT_ok hr hc
    | true =>
      simp only [hp, cond_true] at hc ⊢
      cases hB : Nat.ble B h.length with
      | false => simp only [hB, cond_false] at hc; cases hc
      | true =>
        simp only [hB, cond_true, fcNat_eq] at hc ⊢
        cases hb : bodyT rT fn h.length args h with
        | none => rw [hb] at hc; simp [forget] at hc
        | some y => rw [hb] at hc; rw [bodyT_ok hr hb]; exact hc
  · cases hc
def RecT.none : RecT := ⟨fun _ _ _ _ => .none, fun _ _ _ _ => .none, fun _ _ _ _ _ => .none⟩
def runT (fns : Nat → Option Fn) : Nat → RecT
  | 0 => RecT.none
  | n + 1 => ⟨execT (runT fns n), callFT (runT fns n) fns, callD (run fns n) fns⟩
theorem runT_ok (fns : Nat → Option Fn) : ∀ n, RR (runT fns n) (run fns n)
  | 0 => ⟨fun _ _ _ _ _ _ _ _ h => (by cases h), fun _ _ _ _ _ h => (by cases h), fun _ _ _ _ _ _ h => (by cases h)⟩
  | n + 1 => ⟨fun B rd c T S ex T' hS hc => execT_ok (runT_ok fns n) c T T' S ex hS hc, fun B f args h x hc => callFT_ok (runT_ok fns n) hc, fun B f args pv h x hc => hc⟩
/-- A run that the kernel has seen. -/
theorem calls_of_runT {P : Program} (hm : P.follows .mixedOrders = true) {tab : List (Nat × Fn)} (htab : ∀ x ∈ tab, FnOk P x.1 x.2) {n f : Nat} (h : okTrue ((runT (lookT tab) n).call 0 f [] []) = true) (w : World) :
    Calls P f #[] w fun e w' => e = .returned (.bool true) ∧ Go.RowKit.Below w.heap.size w w' := by
  refine calls_of_run (n := n) hm htab ?_ w
  rw [runK_eq]
  cases hc : (runT (lookT tab) n).call 0 f [] [] with
  | none => rw [hc] at h; cases h
  | some x => rw [hc] at h; rw [(runT_ok (lookT tab) n).call _ _ _ _ _ hc]; exact h
end Go.Mx
