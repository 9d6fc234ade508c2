/-
  The rules as equations for simp. Conditions: none.
-/
import Derived.Test.YtbjfkbkmoeibdaaMx23
namespace Go.Mx
open Go
set_option linter.unusedSimpArgs false
set_option linter.unusedVariables false
section
variable {fns : Nat → Option Fn} {B : Nat} {rd : Option Nat} {bar top e : Bool} {Q : Ex → St → Prop}
def effI : I → Bool
  | .alloc _ | .box _ | .bsl .. | .store .. | .mk .. | .app .. | .copy .. => true
  | _ => false
theorem evo_nil {S : St} : EvO fns B bar top e [] S Q ↔ Q .normal S :=
  ⟨fun ⟨N, _, _, h1, h2⟩ => by have := h1 N (Nat.le_refl _); simp only [runOps, Option.some.injEq, Prod.mk.injEq] at this; obtain ⟨rfl, rfl⟩ := this; exact h2, EvO.nil⟩
theorem evo_q {d : Option Nat} {i : I} {g : Option (Nat × Bool)} {l : List O} {env : List V} {dfs : List Df} {heap : Heap} (hi : quietI i = true) :
    EvO fns B bar top e (⟨d, i, g⟩ :: l) ⟨env, dfs, heap⟩ Q ↔ (bif wanted env g then (∃ v, q heap env i = some v ∧ EvO fns B bar top e l (St.put ⟨env, dfs, heap⟩ d v) Q) else EvO fns B bar top e l (St.put ⟨env, dfs, heap⟩ d undefV) Q) := by
  cases hw : wanted env g with
  | false =>
    refine ⟨fun ⟨N, ex, S', h1, h2⟩ => ⟨N, ex, S', fun n hn => ?_, h2⟩, fun h => EvO.skip hw h⟩
    have := h1 n hn
    rw [runOps, stepO] at this
    simp only [hw] at this
    exact this
  | true =>
    refine ⟨fun ⟨N, ex, S', h1, h2⟩ => ?_, fun ⟨v, h1, h2⟩ => EvO.quiet hw hi h1 h2⟩
    have key : ∀ n, N ≤ n → (match q heap env i with | some v => runOps (run fns n) B bar top e l (St.put ⟨env, dfs, heap⟩ d v) | none => none) = some (ex, S') := by
      intro n hn
      have := h1 n hn
      rw [runOps, stepO] at this
      simp only [hw] at this
      cases i <;> first | (cases hi; done) | (simp only [quietI, cond_true] at this; exact this)
    cases hq : q heap env i with
    | none => have := key N (Nat.le_refl _); rw [hq] at this; cases this
    | some v => exact ⟨v, rfl, N, ex, S', fun n hn => by have := key n hn; rw [hq] at this; exact this, h2⟩
theorem evo_e {d : Option Nat} {i : I} {g : Option (Nat × Bool)} {l : List O} {env : List V} {dfs : List Df} {heap : Heap} (hi : effI i = true) :
    EvO fns B bar top e (⟨d, i, g⟩ :: l) ⟨env, dfs, heap⟩ Q ↔ (bif wanted env g then (∃ v h, eff B heap env i = some (v, h) ∧ EvO fns B bar top e l (St.put ⟨env, dfs, h⟩ d v) Q) else EvO fns B bar top e l (St.put ⟨env, dfs, heap⟩ d undefV) Q) := by
  have hq : quietI i = false := by cases i <;> first | rfl | (cases hi; done)
  cases hw : wanted env g with
  | false =>
    refine ⟨fun ⟨N, ex, S', h1, h2⟩ => ⟨N, ex, S', fun n hn => ?_, h2⟩, fun h => EvO.skip hw h⟩
    have := h1 n hn
    rw [runOps, stepO] at this
    simp only [hw] at this
    exact this
  | true =>
    refine ⟨fun ⟨N, ex, S', h1, h2⟩ => ?_, fun ⟨v, h, h1, h2⟩ => EvO.eff hw hq h1 h2⟩
    have key : ∀ n, N ≤ n → (match eff B heap env i with | some (v, h) => runOps (run fns n) B bar top e l (St.put ⟨env, dfs, h⟩ d v) | none => none) = some (ex, S') := by
      intro n hn
      have := h1 n hn
      rw [runOps, stepO] at this
      simp only [hw] at this
      cases i <;> first | (cases hi; done) | (simp only [quietI, cond_false] at this; exact this)
    cases he : eff B heap env i with
    | none => have := key N (Nat.le_refl _); rw [he] at this; cases this
    | some vh =>
      obtain ⟨v, h⟩ := vh
      exact ⟨v, h, rfl, N, ex, S', fun n hn => by have := key n hn; rw [he] at this; exact this, h2⟩
end
section
variable {fns : Nat → Option Fn} {B : Nat} {bar top e : Bool} {Q : Ex → St → Prop}
theorem evo_q2 {d : Option Nat} {i : I} {g : Option (Nat × Bool)} {l : List O} {env : List V} {dfs : List Df} {heap : Heap} (hi : quietI i = true) :
    EvO fns B bar top e (⟨d, i, g⟩ :: l) ⟨env, dfs, heap⟩ Q = (match wanted env g with | true => (match q heap env i with | some v => EvO fns B bar top e l (St.put ⟨env, dfs, heap⟩ d v) Q | none => False) | false => EvO fns B bar top e l (St.put ⟨env, dfs, heap⟩ d undefV) Q) := by
  rw [propext (evo_q hi)]
  cases wanted env g with
  | false => rfl
  | true =>
    simp only [cond_true]
    cases q heap env i <;> simp
theorem evo_e2 {d : Option Nat} {i : I} {g : Option (Nat × Bool)} {l : List O} {env : List V} {dfs : List Df} {heap : Heap} (hi : effI i = true) :
    EvO fns B bar top e (⟨d, i, g⟩ :: l) ⟨env, dfs, heap⟩ Q = (match wanted env g with | true => (match eff B heap env i with | some (v, h) => EvO fns B bar top e l (St.put ⟨env, dfs, h⟩ d v) Q | none => False) | false => EvO fns B bar top e l (St.put ⟨env, dfs, heap⟩ d undefV) Q) := by
  rw [propext (evo_e hi)]
  cases wanted env g with
  | false => rfl
  | true =>
    simp only [cond_true]
    cases eff B heap env i with
    | none => simp
    | some vh =>
      obtain ⟨v, h⟩ := vh
      refine propext ⟨fun ⟨_, _, h1, h2⟩ => ?_, fun h2 => ⟨v, h, rfl, h2⟩⟩
      cases h1
      exact h2
variable {d : Option Nat} {g : Option (Nat × Bool)} {l : List O} {env : List V} {dfs : List Df} {heap : Heap}
theorem evo_mov (x : X) : EvO fns B bar top e (⟨d, .mov x, g⟩ :: l) ⟨env, dfs, heap⟩ Q = (match wanted env g with | true => (match q heap env (.mov x) with | some v => EvO fns B bar top e l (St.put ⟨env, dfs, heap⟩ d v) Q | none => False) | false => EvO fns B bar top e l (St.put ⟨env, dfs, heap⟩ d undefV) Q) := evo_q2 rfl
theorem evo_pick (c a b : X) : EvO fns B bar top e (⟨d, .pick c a b, g⟩ :: l) ⟨env, dfs, heap⟩ Q = (match wanted env g with | true => (match q heap env (.pick c a b) with | some v => EvO fns B bar top e l (St.put ⟨env, dfs, heap⟩ d v) Q | none => False) | false => EvO fns B bar top e l (St.put ⟨env, dfs, heap⟩ d undefV) Q) := evo_q2 rfl
theorem evo_build (z : List Value) (ps : List (Nat × Nat × X)) : EvO fns B bar top e (⟨d, .build z ps, g⟩ :: l) ⟨env, dfs, heap⟩ Q = (match wanted env g with | true => (match q heap env (.build z ps) with | some v => EvO fns B bar top e l (St.put ⟨env, dfs, heap⟩ d v) Q | none => False) | false => EvO fns B bar top e l (St.put ⟨env, dfs, heap⟩ d undefV) Q) := evo_q2 rfl
theorem evo_load (n : Option Nat) (x : X) : EvO fns B bar top e (⟨d, .load n x, g⟩ :: l) ⟨env, dfs, heap⟩ Q = (match wanted env g with | true => (match q heap env (.load n x) with | some v => EvO fns B bar top e l (St.put ⟨env, dfs, heap⟩ d v) Q | none => False) | false => EvO fns B bar top e l (St.put ⟨env, dfs, heap⟩ d undefV) Q) := evo_q2 rfl
theorem evo_fld (o : Nat) (x : X) : EvO fns B bar top e (⟨d, .fld o x, g⟩ :: l) ⟨env, dfs, heap⟩ Q = (match wanted env g with | true => (match q heap env (.fld o x) with | some v => EvO fns B bar top e l (St.put ⟨env, dfs, heap⟩ d v) Q | none => False) | false => EvO fns B bar top e l (St.put ⟨env, dfs, heap⟩ d undefV) Q) := evo_q2 rfl
theorem evo_idxS (n : Nat) (x i : X) : EvO fns B bar top e (⟨d, .idxS n x i, g⟩ :: l) ⟨env, dfs, heap⟩ Q = (match wanted env g with | true => (match q heap env (.idxS n x i) with | some v => EvO fns B bar top e l (St.put ⟨env, dfs, heap⟩ d v) Q | none => False) | false => EvO fns B bar top e l (St.put ⟨env, dfs, heap⟩ d undefV) Q) := evo_q2 rfl
theorem evo_idxA (n c : Nat) (x i : X) : EvO fns B bar top e (⟨d, .idxA n c x i, g⟩ :: l) ⟨env, dfs, heap⟩ Q = (match wanted env g with | true => (match q heap env (.idxA n c x i) with | some v => EvO fns B bar top e l (St.put ⟨env, dfs, heap⟩ d v) Q | none => False) | false => EvO fns B bar top e l (St.put ⟨env, dfs, heap⟩ d undefV) Q) := evo_q2 rfl
theorem evo_idxV (n : Option Nat) (c : Nat) (x i : X) : EvO fns B bar top e (⟨d, .idxV n c x i, g⟩ :: l) ⟨env, dfs, heap⟩ Q = (match wanted env g with | true => (match q heap env (.idxV n c x i) with | some v => EvO fns B bar top e l (St.put ⟨env, dfs, heap⟩ d v) Q | none => False) | false => EvO fns B bar top e l (St.put ⟨env, dfs, heap⟩ d undefV) Q) := evo_q2 rfl
theorem evo_part (n : Option Nat) (o : Nat) (x : X) : EvO fns B bar top e (⟨d, .part n o x, g⟩ :: l) ⟨env, dfs, heap⟩ Q = (match wanted env g with | true => (match q heap env (.part n o x) with | some v => EvO fns B bar top e l (St.put ⟨env, dfs, heap⟩ d v) Q | none => False) | false => EvO fns B bar top e l (St.put ⟨env, dfs, heap⟩ d undefV) Q) := evo_q2 rfl
theorem evo_bin (op : BinOp) (x y : X) : EvO fns B bar top e (⟨d, .bin op x y, g⟩ :: l) ⟨env, dfs, heap⟩ Q = (match wanted env g with | true => (match q heap env (.bin op x y) with | some v => EvO fns B bar top e l (St.put ⟨env, dfs, heap⟩ d v) Q | none => False) | false => EvO fns B bar top e l (St.put ⟨env, dfs, heap⟩ d undefV) Q) := evo_q2 rfl
theorem evo_eqb (b : Bool) (x y : X) : EvO fns B bar top e (⟨d, .eqb b x y, g⟩ :: l) ⟨env, dfs, heap⟩ Q = (match wanted env g with | true => (match q heap env (.eqb b x y) with | some v => EvO fns B bar top e l (St.put ⟨env, dfs, heap⟩ d v) Q | none => False) | false => EvO fns B bar top e l (St.put ⟨env, dfs, heap⟩ d undefV) Q) := evo_q2 rfl
theorem evo_eqn (b : Bool) (x : X) : EvO fns B bar top e (⟨d, .eqn b x, g⟩ :: l) ⟨env, dfs, heap⟩ Q = (match wanted env g with | true => (match q heap env (.eqn b x) with | some v => EvO fns B bar top e l (St.put ⟨env, dfs, heap⟩ d v) Q | none => False) | false => EvO fns B bar top e l (St.put ⟨env, dfs, heap⟩ d undefV) Q) := evo_q2 rfl
theorem evo_eqi (b : Bool) (x : X) : EvO fns B bar top e (⟨d, .eqi b x, g⟩ :: l) ⟨env, dfs, heap⟩ Q = (match wanted env g with | true => (match q heap env (.eqi b x) with | some v => EvO fns B bar top e l (St.put ⟨env, dfs, heap⟩ d v) Q | none => False) | false => EvO fns B bar top e l (St.put ⟨env, dfs, heap⟩ d undefV) Q) := evo_q2 rfl
theorem evo_eqp (b : Bool) (x : X) : EvO fns B bar top e (⟨d, .eqp b x, g⟩ :: l) ⟨env, dfs, heap⟩ Q = (match wanted env g with | true => (match q heap env (.eqp b x) with | some v => EvO fns B bar top e l (St.put ⟨env, dfs, heap⟩ d v) Q | none => False) | false => EvO fns B bar top e l (St.put ⟨env, dfs, heap⟩ d undefV) Q) := evo_q2 rfl
theorem evo_un (op : UnOp) (x : X) : EvO fns B bar top e (⟨d, .un op x, g⟩ :: l) ⟨env, dfs, heap⟩ Q = (match wanted env g with | true => (match q heap env (.un op x) with | some v => EvO fns B bar top e l (St.put ⟨env, dfs, heap⟩ d v) Q | none => False) | false => EvO fns B bar top e l (St.put ⟨env, dfs, heap⟩ d undefV) Q) := evo_q2 rfl
theorem evo_conv (k : IntKind) (x : X) : EvO fns B bar top e (⟨d, .conv k x, g⟩ :: l) ⟨env, dfs, heap⟩ Q = (match wanted env g with | true => (match q heap env (.conv k x) with | some v => EvO fns B bar top e l (St.put ⟨env, dfs, heap⟩ d v) Q | none => False) | false => EvO fns B bar top e l (St.put ⟨env, dfs, heap⟩ d undefV) Q) := evo_q2 rfl
theorem evo_len (x : X) : EvO fns B bar top e (⟨d, .len x, g⟩ :: l) ⟨env, dfs, heap⟩ Q = (match wanted env g with | true => (match q heap env (.len x) with | some v => EvO fns B bar top e l (St.put ⟨env, dfs, heap⟩ d v) Q | none => False) | false => EvO fns B bar top e l (St.put ⟨env, dfs, heap⟩ d undefV) Q) := evo_q2 rfl
theorem evo_mm (b : Bool) (xs : List X) : EvO fns B bar top e (⟨d, .mm b xs, g⟩ :: l) ⟨env, dfs, heap⟩ Q = (match wanted env g with | true => (match q heap env (.mm b xs) with | some v => EvO fns B bar top e l (St.put ⟨env, dfs, heap⟩ d v) Q | none => False) | false => EvO fns B bar top e l (St.put ⟨env, dfs, heap⟩ d undefV) Q) := evo_q2 rfl
theorem evo_ext (x : X) (i : Nat) : EvO fns B bar top e (⟨d, .ext x i, g⟩ :: l) ⟨env, dfs, heap⟩ Q = (match wanted env g with | true => (match q heap env (.ext x i) with | some v => EvO fns B bar top e l (St.put ⟨env, dfs, heap⟩ d v) Q | none => False) | false => EvO fns B bar top e l (St.put ⟨env, dfs, heap⟩ d undefV) Q) := evo_q2 rfl
theorem evo_slc (n : Nat) (x : X) (lo hi mx : Option X) : EvO fns B bar top e (⟨d, .slc n x lo hi mx, g⟩ :: l) ⟨env, dfs, heap⟩ Q = (match wanted env g with | true => (match q heap env (.slc n x lo hi mx) with | some v => EvO fns B bar top e l (St.put ⟨env, dfs, heap⟩ d v) Q | none => False) | false => EvO fns B bar top e l (St.put ⟨env, dfs, heap⟩ d undefV) Q) := evo_q2 rfl
theorem evo_slcA (n c : Nat) (x : X) (lo hi mx : Option X) : EvO fns B bar top e (⟨d, .slcA n c x lo hi mx, g⟩ :: l) ⟨env, dfs, heap⟩ Q = (match wanted env g with | true => (match q heap env (.slcA n c x lo hi mx) with | some v => EvO fns B bar top e l (St.put ⟨env, dfs, heap⟩ d v) Q | none => False) | false => EvO fns B bar top e l (St.put ⟨env, dfs, heap⟩ d undefV) Q) := evo_q2 rfl
theorem evo_nilck (x : X) : EvO fns B bar top e (⟨d, .nilck x, g⟩ :: l) ⟨env, dfs, heap⟩ Q = (match wanted env g with | true => (match q heap env (.nilck x) with | some v => EvO fns B bar top e l (St.put ⟨env, dfs, heap⟩ d v) Q | none => False) | false => EvO fns B bar top e l (St.put ⟨env, dfs, heap⟩ d undefV) Q) := evo_q2 rfl
theorem evo_clo (f : Nat) (a b : List X) : EvO fns B bar top e (⟨d, .clo f a b, g⟩ :: l) ⟨env, dfs, heap⟩ Q = (match wanted env g with | true => (match q heap env (.clo f a b) with | some v => EvO fns B bar top e l (St.put ⟨env, dfs, heap⟩ d v) Q | none => False) | false => EvO fns B bar top e l (St.put ⟨env, dfs, heap⟩ d undefV) Q) := evo_q2 rfl
theorem evo_mkI (t : TypeId) (x : X) : EvO fns B bar top e (⟨d, .mkI t x, g⟩ :: l) ⟨env, dfs, heap⟩ Q = (match wanted env g with | true => (match q heap env (.mkI t x) with | some v => EvO fns B bar top e l (St.put ⟨env, dfs, heap⟩ d v) Q | none => False) | false => EvO fns B bar top e l (St.put ⟨env, dfs, heap⟩ d undefV) Q) := evo_q2 rfl
theorem evo_alloc (z : List Value) : EvO fns B bar top e (⟨d, .alloc z, g⟩ :: l) ⟨env, dfs, heap⟩ Q = (match wanted env g with | true => (match eff B heap env (.alloc z) with | some (v, h) => EvO fns B bar top e l (St.put ⟨env, dfs, h⟩ d v) Q | none => False) | false => EvO fns B bar top e l (St.put ⟨env, dfs, heap⟩ d undefV) Q) := evo_e2 rfl
theorem evo_box (x : X) : EvO fns B bar top e (⟨d, .box x, g⟩ :: l) ⟨env, dfs, heap⟩ Q = (match wanted env g with | true => (match eff B heap env (.box x) with | some (v, h) => EvO fns B bar top e l (St.put ⟨env, dfs, h⟩ d v) Q | none => False) | false => EvO fns B bar top e l (St.put ⟨env, dfs, heap⟩ d undefV) Q) := evo_e2 rfl
theorem evo_bsl (n len : Nat) (z : List Value) (ps : List (Nat × X)) : EvO fns B bar top e (⟨d, .bsl n len z ps, g⟩ :: l) ⟨env, dfs, heap⟩ Q = (match wanted env g with | true => (match eff B heap env (.bsl n len z ps) with | some (v, h) => EvO fns B bar top e l (St.put ⟨env, dfs, h⟩ d v) Q | none => False) | false => EvO fns B bar top e l (St.put ⟨env, dfs, heap⟩ d undefV) Q) := evo_e2 rfl
theorem evo_store (n : Nat) (a x : X) : EvO fns B bar top e (⟨d, .store n a x, g⟩ :: l) ⟨env, dfs, heap⟩ Q = (match wanted env g with | true => (match eff B heap env (.store n a x) with | some (v, h) => EvO fns B bar top e l (St.put ⟨env, dfs, h⟩ d v) Q | none => False) | false => EvO fns B bar top e l (St.put ⟨env, dfs, heap⟩ d undefV) Q) := evo_e2 rfl
theorem evo_mk (n b : Nat) (z : List Value) (x y : X) : EvO fns B bar top e (⟨d, .mk n b z x y, g⟩ :: l) ⟨env, dfs, heap⟩ Q = (match wanted env g with | true => (match eff B heap env (.mk n b z x y) with | some (v, h) => EvO fns B bar top e l (St.put ⟨env, dfs, h⟩ d v) Q | none => False) | false => EvO fns B bar top e l (St.put ⟨env, dfs, heap⟩ d undefV) Q) := evo_e2 rfl
theorem evo_app (n b : Nat) (s x : X) : EvO fns B bar top e (⟨d, .app n b s x, g⟩ :: l) ⟨env, dfs, heap⟩ Q = (match wanted env g with | true => (match eff B heap env (.app n b s x) with | some (v, h) => EvO fns B bar top e l (St.put ⟨env, dfs, h⟩ d v) Q | none => False) | false => EvO fns B bar top e l (St.put ⟨env, dfs, heap⟩ d undefV) Q) := evo_e2 rfl
theorem evo_copy (n : Nat) (x y : X) : EvO fns B bar top e (⟨d, .copy n x y, g⟩ :: l) ⟨env, dfs, heap⟩ Q = (match wanted env g with | true => (match eff B heap env (.copy n x y) with | some (v, h) => EvO fns B bar top e l (St.put ⟨env, dfs, h⟩ d v) Q | none => False) | false => EvO fns B bar top e l (St.put ⟨env, dfs, heap⟩ d undefV) Q) := evo_e2 rfl
end
end Go.Mx
