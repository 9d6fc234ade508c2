/-
  Trees: code with places to stop at, ways that meet, what may be forgotten in one go. Conditions: none.
-/
import Derived.Test.YtobhjbbinnbdaaaNnLy13
namespace Go.Lx
open Go Go.Mx
def zuI : List O → Bool
  | [] => false
  | o :: r => bif o.g.isSome then true else zuI r
def zbh : C → Bool
  | .seq a b => zbh a && zbh b
  | .cond _ a b => zbh a || zbh b
  | .loop _ => false
  | .scope c => zbh c
  | .exit _ => false
  | .ret => false
  | _ => true
def zc4 (id : Nat) : C → Nat
  | .seq a b => zc4 id a + zc4 id b
  | .cond _ a b => zc4 id a + zc4 id b
  | .block _ c => zc4 id c
  | .loop c => zc4 id c
  | .scope c => zc4 id c
  | .exit j => bif j == id then 1 else 0
  | .zdf _ _ _ b => zc4 id b
  | _ => 0
def zeD : C → Bool
  | .loop _ => true
  | _ => false
def zbg : Bool → C → C
  | f, .seq a b => .seq (zbg true a) (zbg f b)
  | f, .cond x a b => bif f && (zbh a && zbh b) then .scope (.cond x (zbg false a) (zbg false b)) else .cond x (zbg f a) (zbg f b)
  | f, .block id c => bif zeD c || (f && Nat.blt 1 (zc4 id c + (bif zbh c then 1 else 0))) then .scope (.block id (zbg false c)) else .block id (zbg f c)
  | f, .loop c => .loop (zbg false c)
  | f, .scope c => .scope (zbg f c)
  | f, .reg dr bar l => bif f && zuI l then .scope (.reg dr bar l) else .reg dr bar l
  | _, c => c
section
variable {m : Mach} {k0 : Nat} {Q : LX → LSt → Prop} {S S' : LSt} {B : Nat} {rd : Option Nat}
theorem zmL : ∀ (n : Nat) (c : C) (f : Bool) (S : St) (r : Ex × St), exec (m.run n) B rd (zbg f c) S = some r → exec (m.run n) B rd c S = some r := by
  intro n
  induction n with
  | zero =>
    intro c
    induction c with
    | seq a b iha ihb =>
      intro f S r h
      simp only [zbg, exec] at h ⊢
      cases ha : exec (m.run 0) B rd (zbg true a) S with
      | none => rw [ha] at h; cases h
      | some x =>
        rw [ha] at h
        rw [iha _ _ _ ha]
        obtain ⟨ex, S1⟩ := x
        cases ex with
        | normal => exact ihb _ _ _ h
        | _ => exact h
    | cond x a b iha ihb =>
      intro f S r h
      have h' : exec (m.run 0) B rd (.cond x (zbg (bif f && (zbh a && zbh b) then false else f) a) (zbg (bif f && (zbh a && zbh b) then false else f) b)) S = some r := by
        unfold zbg at h
        cases hc : (f && (zbh a && zbh b)) <;> rw [hc] at h <;> exact h
      simp only [exec] at h' ⊢
      split at h'
      · exact iha _ _ _ h'
      · exact ihb _ _ _ h'
      · cases h'
    | block id c ih =>
      intro f S r h
      have h' : exec (m.run 0) B rd (.block id (zbg (bif zeD c || (f && Nat.blt 1 (zc4 id c + (bif zbh c then 1 else 0))) then false else f) c)) S = some r := by
        unfold zbg at h
        cases hc : (zeD c || (f && Nat.blt 1 (zc4 id c + (bif zbh c then 1 else 0)))) <;> rw [hc] at h <;> exact h
      simp only [exec] at h' ⊢
      cases ha : exec (m.run 0) B rd (zbg (bif zeD c || (f && Nat.blt 1 (zc4 id c + (bif zbh c then 1 else 0))) then false else f) c) S with
      | none => rw [ha] at h'; cases h'
      | some x => rw [ha] at h'; rw [ih _ _ _ ha]; exact h'
    | loop c ih =>
      intro f S r h
      simp only [zbg, exec] at h ⊢
      cases ha : exec (m.run 0) B rd (zbg false c) S with
      | none => rw [ha] at h; cases h
      | some x =>
        rw [ha] at h
        rw [ih _ _ _ ha]
        obtain ⟨ex, S1⟩ := x
        cases ex with
        | normal => cases h
        | _ => exact h
    | scope c ih => intro f S r h; exact ih _ _ _ h
    | reg dr bar l =>
      intro f S r h
      unfold zbg at h
      cases hc : (f && zuI l) <;> rw [hc] at h <;> exact h
    | _ => intro f S r h; exact h
  | succ n ihn =>
    intro c
    induction c with
    | seq a b iha ihb =>
      intro f S r h
      simp only [zbg, exec] at h ⊢
      cases ha : exec (m.run (n + 1)) B rd (zbg true a) S with
      | none => rw [ha] at h; cases h
      | some x =>
        rw [ha] at h
        rw [iha _ _ _ ha]
        obtain ⟨ex, S1⟩ := x
        cases ex with
        | normal => exact ihb _ _ _ h
        | _ => exact h
    | cond x a b iha ihb =>
      intro f S r h
      have h' : exec (m.run (n + 1)) B rd (.cond x (zbg (bif f && (zbh a && zbh b) then false else f) a) (zbg (bif f && (zbh a && zbh b) then false else f) b)) S = some r := by
        unfold zbg at h
        cases hc : (f && (zbh a && zbh b)) <;> rw [hc] at h <;> exact h
      simp only [exec] at h' ⊢
      split at h'
      · exact iha _ _ _ h'
      · exact ihb _ _ _ h'
      · cases h'
    | block id c ih =>
      intro f S r h
      have h' : exec (m.run (n + 1)) B rd (.block id (zbg (bif zeD c || (f && Nat.blt 1 (zc4 id c + (bif zbh c then 1 else 0))) then false else f) c)) S = some r := by
        unfold zbg at h
        cases hc : (zeD c || (f && Nat.blt 1 (zc4 id c + (bif zbh c then 1 else 0)))) <;> rw [hc] at h <;> exact h
      simp only [exec] at h' ⊢
      cases ha : exec (m.run (n + 1)) B rd (zbg (bif zeD c || (f && Nat.blt 1 (zc4 id c + (bif zbh c then 1 else 0))) then false else f) c) S with
      | none => rw [ha] at h'; cases h'
      | some x => rw [ha] at h'; rw [ih _ _ _ ha]; exact h'
    | loop c ih =>
      intro f S r h
      simp only [zbg, exec] at h ⊢
      cases ha : exec (m.run (n + 1)) B rd (zbg false c) S with
      | none => rw [ha] at h; cases h
      | some x =>
        rw [ha] at h
        rw [ih _ _ _ ha]
        obtain ⟨ex, S1⟩ := x
        cases ex with
        | normal => exact ihn (.loop c) f S1 r h
        | _ => exact h
    | scope c ih => intro f S r h; exact ih _ _ _ h
    | reg dr bar l =>
      intro f S r h
      unfold zbg at h
      cases hc : (f && zuI l) <;> rw [hc] at h <;> exact h
    | _ => intro f S r h; exact h
theorem EvC.zgj {c : C} {f : Bool} {M : St} {QM : Ex → St → Prop} (h : EvC m B rd (zbg f c) M QM) : EvC m B rd c M QM := by
  obtain ⟨N, ex, S', h1, h2⟩ := h
  exact ⟨N, ex, S', fun n hn => zmL n c f M _ (h1 n hn), h2⟩
theorem EvL.zgj {c : C} {f : Bool} {k : List K} (h : EvL m k0 (.code (zbg f c) :: k) S Q) : EvL m k0 (.code c :: k) S Q := by
  intro c0 H0 cx B rd M hd hw hr hB
  exact EvC.zgj (h c0 H0 cx B rd M hd hw hr hB)
theorem EvL.scope {c : C} {k : List K} (h : EvL m k0 (.code c :: k) S Q) : EvL m k0 (.code (.scope c) :: k) S Q := fun c0 H0 cx B rd M hd hw hr hB => h c0 H0 cx B rd M hd hw hr hB
theorem EvL.join {α : Type} {c : C} {k : List K} (T : α → LSt) (P : α → Prop) (h1 : EvL m k0 (.code c :: .inv (fun S' => ∃ a, P a ∧ zam k0 S' (T a)) :: k) S Q) (h2 : ∀ a, P a → EvL m k0 k (T a) Q) : EvL m k0 (.code (.scope c) :: k) S Q := by
  intro c0 H0 cx B rd M hd hw hr hB
  have h := h1 c0 H0 cx B rd M hd hw hr hB
  show EvC m B rd c M _
  refine EvC.mono h fun ex M' hx => ?_
  cases ex with
  | normal =>
    obtain ⟨c', S1, g1, g2, a, g3, g4⟩ := hx
    obtain ⟨c2, k1, k2, k3⟩ := g4 c' M' g2
    refine h2 a g3 c0 H0 c2 B rd M' hd ⟨g1.step.trans k2, g1.le.trans k3, g1.dfs⟩ k1 ?_
    rw [k2.base, g1.step.base, ← hw.step.base]
    exact hB
  | exit id => exact hx
  | ret => exact hx
  | panic v e => exact hx
end
end Go.Lx
